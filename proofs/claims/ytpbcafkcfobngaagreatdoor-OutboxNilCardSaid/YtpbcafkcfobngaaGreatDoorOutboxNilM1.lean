/-
 Where an appended row lies; items and their marks in memory; marks compared. No condition beyond what each rule asks.
-/
import Derived.WalkKit
import Derived.WalkSpells
import Derived.WalkLawsBesides
import Derived.Laws.AppendOwnNone
import Derived.Great.BuildSlice
import Derived.OrdersHeld
import Derived.Laws.Externs
import Derived.Laws.Cells
import Derived.Laws.Tables
import Derived.Laws.StructEq
import Derived.Deep.Draws
import Derived.Sort.Grow
import Derived.Lib.IndexMore
import Derived.Lib.TrimByte
import Derived.Shelf.SlSortCmp.WholeK
import Derived.Maps.RangeRun
import Derived.MapKept
import Derived.ProofKit
import Derived.OpenShut
import Derived.WideKeyArgs
import Derived.LaidLaws
import Derived.Deep.DeepHandedRow
import Derived.Deep.DeepWitnessRowRef
import Derived.Lib.LaidTab
import Derived.Deep.Slices
import Derived.Shelf.SlSortCmp.Whole1
import Derived.Lib.AppendZeros
import Derived.Lib.AppendStr
import Derived.Defers
import Derived.Recover
import Derived.RangeFuncLeaves
import Derived.RangeFuncSeq
import Derived.Lib.Bytealg
import Derived.Scope
import Derived.Test.YtpbcafkcfobngaaGreatDoorOutboxM7
section
namespace Go.Pn
open Go.RowKit
section
variable {α : Type} {G : Flat α} {w w' : World} {F : Nat → Prop} {v v' y : Value} {xs ys : List α} {B : Nat} {ty : TypeId}
end
section
variable {P : Program} {n : Nat} {ops rest : List Oper} {N : Val → World → Prop} {Z : List PanicEntry → World → Prop} {f : Val} {w : World}
 {d : Nat} {x y : Operand} {t t' ty tr e : TypeId} {pos : String} {after : Array Edge} {α : Type} {G : Flat α} {F : Nat → Prop}
end
section
variable {P : Program} {n : Nat} {ops rest : List Oper} {N : Val → World → Prop} {Z : List PanicEntry → World → Prop} {f : Val} {w : World}
 {d : Nat} {x : Operand} {t tr : TypeId} {pos : String} {after : Array Edge}
theorem O.loadMarks {F : Nat → Prop} {a : Addr} {z : ItemT} (hag : ∀ w, (isAgg t).run P w = .ok false w) (hx : ev n f x = .pointer (some (a.add 1))) (ha : At itemE w F a z)
 (h : ∀ v, Sl markF.enc w F v z.2 → O P n ops rest N Z (upd f d v) w) : O P n ops (ZO d (.load t x) tr pos after :: rest) N Z f w :=
 O.loadAtC hag (by decide) hx ha fun cs u hr hu => by
  obtain ⟨v, rfl, hm⟩ := hr
  cases hu
  exact h _ hm
end
section
variable {P : Program} {n : Nat} {ops rest : List Oper} {N : Val → World → Prop} {Z : List PanicEntry → World → Prop} {f : Val} {w : World}
 {d : Nat} {x y : Operand} {t t' tr : TypeId} {pos : String} {after : Array Edge}
end
section
variable {P : Program} {n : Nat} {ops rest : List Oper} {N : Val → World → Prop} {Z : List PanicEntry → World → Prop} {f : Val} {w : World}
 {d : Nat} {x y : Operand} {t t' tr : TypeId} {pos : String} {after : Array Edge}
end
end Go.Pn
end
section
namespace Go.Pn.Cn
open Go Go.Pn
section
variable {α : Type} {p : α → Bool} {l : List α}
end
section
variable {α : Type} {r : α → α → Bool}
end
theorem smallI_yes {x : Item} (h : x.2.length ≤ 20) (k : x.1.length ≤ 100) : smallI x = true := by unfold smallI; rw [decide_eq_true h, decide_eq_true k]; rfl
theorem smallI_no {x : Item} (h : 20 < x.2.length ∨ 100 < x.1.length) : smallI x = false := by
 unfold smallI
 rcases h with h | h
 ·rw [decide_eq_false (by omega)]; rfl
 ·rw [decide_eq_false (p := x.1.length ≤ 100) (by omega), Bool.and_false]
theorem small_of {a : Cart} (h : a.2.length ≤ 20 → ∀ i, ∀ hi : i < a.2.length, smallI a.2[i] = true) : decide ((((a.1.1.length : Nat) : Int) ≤ 40 ∧ ((a.1.2.length : Nat) : Int) ≤ 40) ∧ ((a.2.length : Nat) : Int) ≤ 20) = small a := by
 unfold small
 by_cases hs : (a.1.1.length ≤ 40 ∧ a.1.2.length ≤ 40) ∧ a.2.length ≤ 20
 ·rw [decide_eq_true hs, all_yes (h hs.2), decide_eq_true (by omega)]
  rfl
 ·rw [decide_eq_false hs, decide_eq_false (by omega)]
  rfl
end Go.Pn.Cn
end
section
namespace Go.Pn
open Go.ChangeShapes Go.WideShapes Go.ChangeAt Go.RowKit
section
variable {H : Type} {enc : TypeId × Value → H} {P : Program} {W W' : World}
theorem kept_of_le (e : Le W W') (may : MemPlace → Prop) : W.keptBut W' may := by
 refine ⟨e.os, e.output, fun i hi => ?_⟩
 rw [e.block i hi not_false]
 cases h : W.heap[i]? with
 | none => rfl
 | some o => cases o <;> first | exact ⟨rfl, rfl, rfl, fun _ _ => rfl⟩ | exact .inr ⟨rfl, rfl⟩ | rfl
theorem frozen_of_le (e : Le W W') {a : Addr} (h : a.block < W.heap.size) : W'.frozen? a = W.frozen? a := by
 unfold World.frozen?
 rw [e.block _ h not_false]
theorem same_of_le (e : Le W W') {p : MemPlace} (h : p.block < W.heap.size) : W.sameAt W' p := by
 cases p with
 | cell b off => show W'.cell? _ = W.cell? _; unfold World.cell?; rw [e.block b h not_false]
 | map b => exact e.block b h not_false
theorem args_of_le (hl : laidOutB P = true) (e : Le W W') {sp : Nat → Bool} : ∀ {ts : List TypeId} {vs : List Value} {ds : List (DataW H)} {ps : List MemPlace},
 (ts.all fun t => P.readableRec t && decide (t < P.types.size)) = true → DataW.TrodAll enc P W 0 (fun _ => true) true ts vs ds ps → (∀ p ∈ ps, p.block < W.heap.size ∧ sp p.block = true) → DataW.TrodAll enc P W' 0 sp true ts vs ds ps
 | [], [], [], _, _, h, _ => h
 | [], [], _ :: _, _, _, h, _ => h.elim
 | [], _ :: _, [], _, _, h, _ => h.elim
 | [], _ :: _, _ :: _, _, _, h, _ => h.elim
 | _ :: _, [], [], _, _, h, _ => h.elim
 | _ :: _, [], _ :: _, _, _, h, _ => h.elim
 | _ :: _, _ :: _, [], _, _, h, _ => h.elim
 | _ :: _, _ :: _, _ :: _, _, ht, ⟨p, q, h1, h2, e1⟩, hs => by
   simp only [List.all_cons, Bool.and_eq_true, decide_eq_true_eq] at ht
   subst e1
   refine ⟨p, q, WideElems.Trod_stays hl ht.1.1 ht.1.2 h1 (fun x hx => same_of_le e (hs x (List.mem_append_left _ hx)).1) (fun x hx => (hs x (List.mem_append_left _ hx)).2), args_of_le hl e ?_ h2 (fun x hx => hs x (List.mem_append_right _ hx)), rfl⟩
   simpa using ht.2
theorem post_of_le {f : Func} {s : ChangeSpec} {fresh handsOn again : Bool} {args : Array Value} {ds gs : List (DataW H)} {before : List MemPlace} {tb : TypeId}
 (hl : laidOutB P = true) (hp : (f.params.toList.all fun t => P.readableRec t && decide (t < P.types.size)) = true) (hv : s.vars = []) (hr : f.resultTypes = #[tb]) (hb : P.underlying tb = some .bool)
 (hW : DataW.Whole enc P f.params.toList s.vars false W args.toList ds gs before) (e : Le W W')
 (hs : s.fn H (ds ++ gs) = { results := [.lit (.bool true)], args := ds }) : s.post enc P f false fresh handsOn again W args (.bool true) W' := by
 have hlt := hW.lt
 have hW0 := hW
 obtain ⟨p, q, hA, hV, rfl, hz, _⟩ := hW
 rw [hv] at hV
 obtain ⟨rfl, rfl⟩ := trodVars_none hV
 have hres : ∀ (b : Nat) (sp : Nat → Bool) (hd : Bool), DataW.TrodAll enc P W' b sp hd f.resultTypes.toList ((Value.bool true).resultList f.resultTypes.size) (s.fn H (ds ++ [])).results [] := by
  intro b sp hd
  rw [hs, hr]
  exact trodAll_cons_mk (shut_bool hb _) trodAll_mk0
 have hargs : ∀ sp : Nat → Bool, (∀ x ∈ p, sp x.block = true) → DataW.TrodAll enc P W' 0 sp true f.params.toList args.toList (s.fn H (ds ++ [])).args p := by
  intro sp hsp
  rw [hs]
  exact args_of_le hl e hp hA fun x hx => ⟨hlt x (by simpa using hx), hsp x hx⟩
 have hvars : ∀ sp : Nat → Bool, DataW.TrodVars enc P W' sp s.vars (s.fn H (ds ++ [])).vars [] := by
  intro sp
  rw [hs, hv]
  rfl
 have hold : ∀ x ∈ p, (fun b => decide (b < W.heap.size)) x.block = true := fun x hx => by simpa using hlt x (by simpa using hx)
 refine ⟨ds, [], p ++ [], [], p, [], hW0, hres _ _ _, hargs _ hold, hvars _, World.keptBut_mono (fun x hx => ⟨hx, .inr (by simpa using hx)⟩) (kept_of_le e _), fun _ => ?_⟩
 refine ⟨ok_one hr rfl (okWide_bool_mk hb _), _, _, ([] ++ p) ++ [], ⟨[] ++ p, [], trodAll_append (hargs _ (fun _ _ => rfl)) (hres _ _ _), hvars _, rfl, ?_, ?_⟩, ?_⟩
 ·intro b off hx
  have hx2 : MemPlace.cell b off ∈ p := by simpa using hx
  rw [frozen_of_le e (hlt _ (by simpa using hx2))]
  exact hz b off (by simpa using hx2)
 ·intro ha; cases ha
 ·intro x hx _
  simpa using hx
theorem str_of {t : TypeId} {base : Nat} {v : Value} {d : DataW H} {p : List MemPlace} (ht : P.underlying t = some .string) (hval : Value.okWide P W .any base t v) (h : DataW.Trod enc P W 0 (fun _ => true) true t v d p) :
 ∃ l : List UInt8, v = str l ∧ l.length ≤ maxLen := by
 obtain ⟨s, rfl⟩ := okWide_string ht hval
 obtain ⟨fuel, hf⟩ := h
 obtain ⟨s', h1, _, hs⟩ := DataW.trod_string ht hf
 simp [Value.cells] at h1
 subst h1
 refine ⟨s.data.toList, ?_, by rw [Array.length_toList]; exact hs⟩
 unfold str
 simp
end
theorem calls_of {P : Program} {k : FuncId} {args : Array Value} {W : World} {Q : Value → World → Prop} (h : Ret P k args W fun v w' => v = .bool true ∧ Le W w') (hq : ∀ w', Le W w' → Q (.bool true) w') :
 Calls P k args W fun e W' => ∃ v, e = .returned v ∧ Q v W' := by
 refine Calls.mono h fun e W' hh => ?_
 cases e with
 | returned v => obtain ⟨rfl, e⟩ := hh; exact ⟨_, rfl, hq _ e⟩
 | _ => exact hh.elim
end Go.Pn
end
section
namespace Go.Pn
section
variable {te td ti tm to ts : TypeId} {w w' : World} {b : Nat} {n : Int} {l : List EntT} {d : List (List UInt8)} {uo ud us : Value} {lo hi : Nat} {M : Nat → Prop}
end
def NO (to : TypeId) (w : World) (p : Value) : Prop := p = .pointer none ∨ ∃ b, p = .pointer (some ⟨b, 0, none⟩) ∧ Own w b to [.int .i64 0, .slice none 0 0, .slice none 0 0]
theorem NO.keep {to : TypeId} {w w' : World} {p : Value} (h : NO to w p) (e : Le w w') : NO to w' p := by
 rcases h with h | ⟨b, h1, h2⟩
 ·exact .inl h
 ·exact .inr ⟨b, h1, h2.keep e⟩
def ptrF : Flat (Option Addr) := ⟨1, fun a => [.pointer a], fun _ => rfl, by simp [Value.oneCell'], by decide⟩
section
variable {P : Program} {n : Nat} {ops rest : List Oper} {N : Val → World → Prop} {Z : List PanicEntry → World → Prop} {f : Val} {w : World}
 {d : Nat} {x : Operand} {t ty : TypeId} {pos : String} {after : Array Edge}
theorem O.neqN {e : TypeId} (ht : P.underlying t = some (.pointer e)) (hx : ev n f x = .pointer none) {t' : TypeId} (h : O P n ops rest N Z (upd f d (.bool false)) w) :
 O P n ops (ZO d (.binOp .neq t x (.const (.pointer none)) t') ty pos after :: rest) N Z f w :=
 O.val rfl rfl (by
  refine run_bin hx (y := .const (.pointer none)) rfl rfl ?_ _ _
  have h2 : binOp .neq t (.pointer none) (.pointer none) = (do pure (.bool (!(← Op.equal t (.pointer none) (.pointer none))))) := rfl
  show Sem.run P (binOp .neq t (.pointer none) (.pointer none)) w = _
  rw [h2, Sem.run_bind, run_eql_nilN ht]
  rfl) h
end
end Go.Pn
end
