/-
  WHAT A ROW'S CONDITION GIVES A WALK, WHATEVER THE TYPE: whatever is read lies in a way that the walks know. Of no program.
-/
import Derived.Test.YtnkcmaoaagnopaaGreatDoorRow
import Derived.Test.YtnkcmaoaagnopaaGreatDoorFw9
import Derived.Deep.Slices
namespace Go.Pn
open Go.ChangeShapes Go.WideShapes Go.ChangeAt Go.RowKit
/-- A slice, in its cell. -/
def slE {α : Type} (E : Enc α) : Enc (List α) where
  sz := 1
  rep := fun w F cs xs => ∃ v, cs = [v] ∧ Sl E w F v xs
  len := by rintro w F cs x ⟨v, rfl, _⟩; rfl
  one := by
    rintro w F cs x ⟨v, rfl, h⟩ c hc
    obtain rfl : c = v := by simpa using hc
    obtain ⟨l, cap, rfl, _⟩ := h.val
    rfl
  ext := by rintro w w' F cs x ⟨v, rfl, h⟩ hw; exact ⟨v, rfl, h.ext hw⟩
  weak := by rintro w F F' cs x ⟨v, rfl, h⟩ hF; exact ⟨v, rfl, h.weak hF⟩
/-- One lies behind the other. -/
def prE {α β : Type} (E : Enc α) (E' : Enc β) : Enc (α × β) where
  sz := E.sz + E'.sz
  rep := fun w F cs x => ∃ a b, cs = a ++ b ∧ E.rep w F a x.1 ∧ E'.rep w F b x.2
  len := by rintro w F cs x ⟨a, b, rfl, h1, h2⟩; rw [List.length_append, E.len h1, E'.len h2]
  one := by
    rintro w F cs x ⟨a, b, rfl, h1, h2⟩ c hc
    rcases List.mem_append.1 hc with h | h
    · exact E.one h1 c h
    · exact E'.one h2 c h
  ext := by rintro w w' F cs x ⟨a, b, rfl, h1, h2⟩ hw; exact ⟨a, b, rfl, E.ext h1 hw, E'.ext h2 hw⟩
  weak := by rintro w F F' cs x ⟨a, b, rfl, h1, h2⟩ hF; exact ⟨a, b, rfl, E.weak h1 hF, E'.weak h2 hF⟩
def intK (k : IntKind) : Flat Int := ⟨1, fun x => [.int k x], fun _ => rfl, by simp [Value.oneCell'], by decide⟩
def strF : Flat (List UInt8) := ⟨1, fun x => [str x], fun _ => rfl, by simp [Value.oneCell', str], by decide⟩
theorem cell_at {W : World} {a : Addr} {v : Value} (h : W.cell? a = some v) : ∃ cur ty fr, a.spot = none ∧ W.heap[a.block]? = some (.cells cur ty fr) := by
  unfold World.cell? at h
  split at h
  · rename_i c ty fr hh
    split at h
    · cases h
    · rename_i hs
      exact ⟨c, ty, fr, by simpa using hs, hh⟩
  · cases h
/-- Whatever is read of type t lies in the way E. -/
structure Opens (P : Program) (W : World) {α : Type} (E : Enc α) (Q : α → Prop) (t : TypeId) : Prop where
  sz : P.cellsOf t = E.sz
  op : ∀ {H : Type} {enc : TypeId × Value → H} {fuel : Nat} {cs : List Value} {x : DataW H × List MemPlace}, DataW.trod enc P W 0 (fun _ => true) true fuel t cs = some x → ∃ d, E.rep W (fun k => k < W.heap.size) cs d ∧ Q d
section
variable {P : Program} {W : World} {α β : Type} {E : Enc α} {E' : Enc β} {Q : α → Prop} {Q' : β → Prop} {t e : TypeId}
theorem Opens.int {k : IntKind} (ht : P.underlying t = some (.int k)) (hc : P.cellsOf t = 1) : Opens P W (intK k).enc (fun z => (Lit.int k z).wf = true) t :=
  ⟨hc, fun h => by obtain ⟨z, rfl, _, hw⟩ := DataW.trod_int ht h; exact ⟨z, rfl, hw⟩⟩
theorem Opens.str (ht : P.underlying t = some .string) (hc : P.cellsOf t = 1) : Opens P W strF.enc (fun l => l.length ≤ maxLen) t :=
  ⟨hc, fun h => by
    obtain ⟨s, rfl, _, hw⟩ := DataW.trod_string ht h
    refine ⟨s.data.toList, ?_, by rw [Array.length_toList]; exact hw⟩
    show [Value.string s] = [Go.Pn.str s.data.toList]
    unfold Go.Pn.str
    simp⟩
theorem Opens.imp (h : Opens P W E Q t) (hs : E'.sz = E.sz) (hi : ∀ cs d, E.rep W (fun k => k < W.heap.size) cs d → Q d → ∃ d', E'.rep W (fun k => k < W.heap.size) cs d' ∧ Q' d') : Opens P W E' Q' t :=
  ⟨h.sz.trans hs.symm, fun hx => by obtain ⟨d, h1, h2⟩ := h.op hx; exact hi _ d h1 h2⟩
theorem Opens.slice (h : Opens P W E Q e) (ht : P.underlying t = some (.slice e)) (hc : P.cellsOf t = 1) (hpos : 0 < E.sz) : Opens P W (slE E) (fun l => ∀ x ∈ l, Q x) t := by
  refine ⟨hc, fun {H enc fuel cs x} hx => ?_⟩
  rcases Deep.open_slice ht hx with ⟨rfl, _⟩ | ⟨a, len, cap, m, n, D, Pl, rfl, _, hl, hm, hmm, _, hel⟩
  · exact ⟨[], ⟨_, rfl, Sl.nil _ _ _⟩, by simp⟩
  · simp only [if_true] at hmm
    subst hmm
    rcases Nat.eq_zero_or_pos m with rfl | hpm
    · obtain rfl : len = 0 := by omega
      exact ⟨[], ⟨_, rfl, by simp, .inl ⟨_, rfl, rfl⟩⟩, by simp⟩
    · have each : ∀ i, i < m → ∃ q : α, ∃ cs', W.cells? 0 (a.add (i * E.sz)) E.sz = some cs' ∧ E.rep W (fun k => k < W.heap.size) cs' q ∧ Q q := by
        intro i hi
        obtain ⟨cs', h1, h2⟩ := hel i hi
        rw [h.sz] at h1
        obtain ⟨d, h3, h4⟩ := h.op h2
        exact ⟨d, cs', h1, h3, h4⟩
      obtain ⟨d0, _⟩ := each 0 hpm
      haveI : Inhabited α := ⟨d0⟩
      obtain ⟨q, hq⟩ := Deep.choose_lt each
      have hcell : ∀ i, i < m → ∀ j, j < E.sz → ∃ cs', E.rep W (fun k => k < W.heap.size) cs' (q i) ∧ cs'.length = E.sz ∧ W.cell? (a.add (i * E.sz + j)) = cs'[j]? := by
        intro i hi j hj
        obtain ⟨cs', h1, h2, _⟩ := hq i hi
        obtain ⟨_, hlen, hc⟩ := World.cells?_some h1
        refine ⟨cs', h2, hlen, ?_⟩
        rw [← hc j hj, Deep.add_add]
      obtain ⟨cs0, _, hl0, hc0⟩ := hcell 0 hpm 0 hpos
      rw [Nat.zero_mul, List.getElem?_eq_getElem (by omega)] at hc0
      obtain ⟨cur, ty, fr, hsp, hb⟩ := cell_at hc0
      obtain ⟨b, off, spot⟩ := a
      have hsp' : spot = none := by
        unfold Addr.add at hsp
        simpa using hsp
      subst hsp'
      have hb' : W.heap[b]? = some (.cells cur ty fr) := by
        unfold Addr.add at hb
        simpa using hb
      have hcur : ∀ k v, W.cell? ⟨b, k, none⟩ = some v → cur[k]? = some v := by
        intro k v hk
        unfold World.cell? at hk
        simpa [hb'] using hk
      refine ⟨(List.range len).map q, ⟨_, rfl, by simp; omega, .inr ⟨b, off, m, cur, ty, fr, by simp, lt_of_some hb', hb', by simpa using hl, hm, ?_, ?_⟩⟩, ?_⟩
      · intro _
        obtain ⟨cs1, _, hl1, hc1⟩ := hcell (m - 1) (by omega) (E.sz - 1) (by omega)
        rw [List.getElem?_eq_getElem (by omega), Addr.add_none] at hc1
        have h2 := (Array.getElem?_eq_some_iff.1 (hcur _ _ hc1)).1
        have h3 : (m - 1) * E.sz + E.sz = m * E.sz := by
          obtain ⟨m', rfl⟩ : ∃ m', m = m' + 1 := ⟨m - 1, by omega⟩
          rw [Nat.add_sub_cancel, Nat.add_mul, Nat.one_mul]
        omega
      · intro i hi
        have hi2 : i < len := by simpa using hi
        obtain ⟨cs', h1, h2, _⟩ := hq i (by omega)
        obtain ⟨_, hlen, hc⟩ := World.cells?_some h1
        have e1 : (cur.toList.drop (off + i * E.sz)).take E.sz = cs' := by
          apply List.ext_getElem?
          intro j
          by_cases hj : j < E.sz
          · rw [List.getElem?_take, if_pos hj, List.getElem?_drop]
            have h3 := hc j hj
            rw [Deep.add_add, Addr.add_none, List.getElem?_eq_getElem (by omega)] at h3
            have h4 := hcur _ _ h3
            rw [List.getElem?_eq_getElem (l := cs') (by omega), Array.getElem?_toList, Nat.add_assoc]
            exact h4
          · rw [List.getElem?_eq_none (by rw [List.length_take]; omega), List.getElem?_eq_none (by omega)]
        rw [e1]
        simpa using h2
      · intro x hx
        obtain ⟨i, hi, rfl⟩ := List.mem_map.1 hx
        obtain ⟨_, _, _, h3⟩ := hq i (by have := List.mem_range.1 hi; omega)
        exact h3
/-- A struct of two fields. -/
theorem Opens.struct2 {f0 f1 : Field} (ht : P.underlying t = some (.struct #[f0, f1])) (h0 : Opens P W E Q f0.type) (h1 : Opens P W E' Q' f1.type) (o0 : f0.offset = 0) (o1 : f1.offset = E.sz) (hc : P.cellsOf t = E.sz + E'.sz) :
    Opens P W (prE E E') (fun x => Q x.1 ∧ Q' x.2) t := by
  refine ⟨hc, fun {H enc fuel cs x} hx => ?_⟩
  obtain ⟨xs, n, _, _, hlen, hxl, hf⟩ := DataW.trod_struct ht hx
  have g0 := hf 0 f0 rfl
  have g1 := hf 1 f1 rfl
  have hx2 : xs.length = 2 := hxl
  rw [List.getElem?_eq_getElem (by omega)] at g0 g1
  rw [o0, List.drop_zero, h0.sz] at g0
  rw [o1, h1.sz] at g1
  obtain ⟨d0, a1, a2⟩ := h0.op g0
  obtain ⟨d1, b1, b2⟩ := h1.op g1
  refine ⟨(d0, d1), ⟨_, _, ?_, a1, b1⟩, a2, b2⟩
  rw [List.take_of_length_le (l := cs.drop E.sz) (by simp; omega), List.take_append_drop]
/-- An argument. -/
theorem Opens.arg (h : Opens P W E Q t) {H : Type} {enc : TypeId × Value → H} {v : Value} {d : DataW H} {p : List MemPlace} (hd : DataW.Trod enc P W 0 (fun _ => true) true t v d p) : ∃ d, E.rep W (fun k => k < W.heap.size) v.cells.toList d ∧ Q d := by
  obtain ⟨fuel, hf⟩ := hd
  exact h.op hf
theorem arg_slice {H : Type} {enc : TypeId × Value → H} {base : Nat} {v : Value} {d : DataW H} {p : List MemPlace} (h : Opens P W E Q e) (ht : P.underlying t = some (.slice e)) (hc : P.cellsOf t = 1) (hpos : 0 < E.sz)
    (hval : Value.okWide P W .any base t v) (hd : DataW.Trod enc P W 0 (fun _ => true) true t v d p) : ∃ l : List α, Sl E W (fun k => k < W.heap.size) v l ∧ ∀ x ∈ l, Q x := by
  obtain ⟨a, len, cap, rfl⟩ := okWide_slice ht hval
  obtain ⟨l, ⟨v', h1, h2⟩, h3⟩ := (h.slice ht hc hpos).arg hd
  have e1 : v' = .slice a len cap := by simpa [Value.cells] using h1.symm
  subst e1
  exact ⟨l, h2, h3⟩
/-- A table of the library. -/
theorem tab_is {l : List (String × DataW Unit)} (h : laidMet P l W) {name : String} {k : IntKind} {zs : List Int} {g n : Nat} {dd : DataW Unit} (hm : (name, dd) ∈ l) (hd : dd = Lib.tabData k zs)
    (hg : P.globalNamed name = some g) (hty : (P.globals[g]?).map (·.type) = some t) (ht : P.underlying t = some (.array n e)) (he : P.underlying e = some (.int k)) (hce : P.cellsOf e = 1) (hct : P.cellsOf t = n) : Lib.TabIs P W name k zs := by
  obtain ⟨g', t', cs, fuel, p, h1, h2, h3, h4⟩ := laid_mem h hm
  obtain rfl := Option.some.inj (hg.symm.trans h1)
  obtain rfl := Option.some.inj (hty.symm.trans h2)
  rw [hd] at h4
  unfold Lib.TabIs
  rw [h3, ← Lib.cells_of_tab ht he hce hct h4]
end
end Go.Pn
