/-
  The walks of dots: texts. Conditions: the library's table and its errors lie in memory.
-/
import Derived.Test.YtbmbaajfkmejgaaDoorD1
import Derived.Test.YtbmbaajfkmejgaaDoorFw14
import Derived.Test.YtbmbaajfkmejgaaDoorText
import Derived.Test.YtbmbaajfkmejgaaDoorShelf
import Derived.Lib.SmallJoins
namespace Go.Proofs.YtbmbaajfkmejgaaDoor
open Go.Pn Go.RowKit Go.Proofs


/-- The library's table of powers of ten lies in memory. -/
structure Tb (w : World) : Prop where
  t : Lib.TabIs Tryd.prog w "internal/strconv.uint64pow10" .u64 Lib.pow10Tab
theorem Tb.keep {w w' : World} (h : Tb w) (e : Le w w') : Tb w' := ⟨Go.Joins.tab_stays (B := w.heap.size) (g := 3) (by kernel_rfl) h.t e.below (Nat.le_refl _)⟩
theorem bytesWorld_le (w : World) (e : TypeId) (s : ByteArray) : Le w (Lib.bytesWorld w e s) := by
  refine ⟨rfl, rfl, rfl, ?_, fun k hk _ => ?_⟩
  · simp [Lib.bytesWorld, World.freeze]
  · unfold Lib.bytesWorld World.freeze
    rw [if_neg (by decide)]
    show ((w.heap.push _).modify w.heap.size _)[k]? = _
    rw [Array.getElem?_modify, if_neg (by omega), Array.getElem?_push, if_neg (by omega)]
theorem itoa_spec (n : Int) (w : World) (h0 : -9223372036854775808 ≤ n ∧ n ≤ 9223372036854775807) (ht : Tb w) : Ret Tryd.prog 51 #[.int .i64 n] w (fun v w' => v = str (Lib.itoa n) ∧ Le w w') := by
  refine Ret.of (Tryd.strconv_Itoa n h0.1 h0.2 w ht.t) ?_
  rintro e w' ⟨rfl, k, os, rfl⟩
  exact ⟨_, rfl, rfl, ⟨rfl, rfl, rfl, by simp [Go.Sort.grow], fun i hi _ => by show (w.heap ++ os)[i]? = _; rw [Array.getElem?_append_left hi]⟩⟩
theorem atoi_ok (l : List UInt8) (n : Int) (w : World) (hl : l.length ≤ 281474976710656) (h : Lib.atoiAll l = .ok n) : Ret Tryd.prog 46 #[str l] w (fun v w' => v = .tuple #[.int .i64 n, .nilIface] ∧ Le w w') := by
  refine Ret.of (Tryd.strconv_Atoi_ok ⟨l.toArray⟩ (by simp [ByteArray.size]; omega) n h w) ?_
  rintro e w' ⟨rfl, rfl | ⟨t, rfl⟩⟩
  · exact ⟨_, rfl, rfl, Le.refl _⟩
  · exact ⟨_, rfl, rfl, bytesWorld_le w _ _⟩
theorem atoi_err (l : List UInt8) (es er : Value) (w : World) (hl : l.length ≤ 281474976710656) (h : ∀ n, Lib.atoiAll l ≠ .ok n) (hes : CellIs w 1 es) (her : CellIs w 2 er) (g1 : ∃ te pe, es = .iface te pe) (g2 : ∃ te pe, er = .iface te pe) :
    Ret Tryd.prog 46 #[str l] w (fun v w' => ∃ (r : Int) (y : Value), v = .tuple #[.int .i64 r, .iface 84 y] ∧ Le w w') := by
  have hsz : (ByteArray.mk l.toArray).size ≤ 281474976710656 := by simpa [ByteArray.size] using hl
  cases hq : Lib.atoiAll l with
  | ok n => exact absurd hq (h n)
  | «syntax» =>
    refine Ret.of (Tryd.strconv_Atoi_syntax ⟨l.toArray⟩ hsz hq es w hes (.inr g1)) ?_
    rintro e w' ⟨N, rfl, _, _, hb⟩
    exact ⟨_, rfl, _, _, rfl, Le.of_below hb (Nat.le_refl _)⟩
  | range =>
    refine Ret.of (Tryd.strconv_Atoi_range ⟨l.toArray⟩ hsz hq er w her (.inr g2)) ?_
    rintro e w' ⟨N, rfl, _, _, hb⟩
    exact ⟨_, rfl, _, _, rfl, Le.of_below hb (Nat.le_refl _)⟩
theorem atoi_any (l : List UInt8) (es er : Value) (w : World) (hl : l.length ≤ 281474976710656) (hes : CellIs w 1 es) (her : CellIs w 2 er) (g1 : ∃ te pe, es = .iface te pe) (g2 : ∃ te pe, er = .iface te pe) :
    Ret Tryd.prog 46 #[str l] w (fun v w' => ∃ (r : Int) (y : Value), v = .tuple #[.int .i64 r, y] ∧ Le w w') := by
  by_cases h : ∃ n, Lib.atoiAll l = .ok n
  · obtain ⟨n, h⟩ := h
    refine (atoi_ok l n w hl h).mono ?_
    rintro v w' ⟨rfl, e⟩
    exact ⟨_, _, rfl, e⟩
  · refine (atoi_err l es er w hl (fun n hn => h ⟨n, hn⟩) hes her g1 g2).mono ?_
    rintro v w' ⟨r, y, rfl, e⟩
    exact ⟨_, _, rfl, e⟩
theorem index_of (l : List UInt8) (w : World) : Ret Tryd.prog 66 #[str l, str [46]] w (fun v w' => v = .int .i64 (Lib.indexByte l 46) ∧ w' = w) := by
  refine Ret.of (Tryd.stringslite_Index_one ⟨l.toArray⟩ 46 w) ?_
  rintro e w' ⟨rfl, rfl⟩
  exact ⟨_, rfl, rfl, rfl⟩

theorem cuts_spec (l : List UInt8) (w : World) (hl : l.length ≤ 281474976710656) :
    Ret Tryd.prog 52 #[str (l), str ([46])] w (fun v w' => ∃ b, v = .tuple #[str (Dt.cut l).1, str (Dt.cut l).2, .bool b] ∧ Le w w') := by
  have hi := Dt.index_ge l 46
  refine enter (args := [str (l), str ([46])]) (n := 23) Tryd.func52 rfl rfl (Nat.le_of_ble_eq_true rfl) ?_
  refine C.seqK fun K1 hK1 => ?_
  refine C.region ?_
  refine O.asg ?_
  refine O.asg ?_
  refine O.asg ?_
  refine O.nil ?_
  refine hK1 _ _ ?_
  refine C.seqK fun K2 hK2 => ?_
  refine C.seqK fun K3 hK3 => ?_
  refine C.region ?_
  refine O.mv ?_
  refine O.mv ?_
  refine O.call Tryd.call66 (args2 rfl rfl) (index_of _ _) ?_
  rintro v_10 w1 ⟨rfl, hw_⟩
  replace hw_ := hw_.symm
  subst hw_
  refine O.asg ?_
  refine O.nil ?_
  refine hK3 _ _ ?_
  refine C.seqK fun K4 hK4 => ?_
  refine C.region ?_
  refine O.mv ?_
  refine O.geqI rfl rfl ?_
  refine O.nil ?_
  refine hK4 _ _ ?_
  refine C.condD rfl (fun c12 => ?_) (fun c12 => ?_)
  ·
    refine C.seqK fun K5 hK5 => ?_
    refine C.draw (by kernel_rfl) fun w1 e1 => ?_
    have z1 := e1.size
    refine D.take (i := 0) rfl rfl rfl rfl (by kernel_rfl) (Le.refl _) ⟨pure _, rfl⟩ (fun w_ hw_ N_ hN => (O.mv (O.nil hN))) ?_
    refine D.take (i := 1) rfl rfl rfl rfl (by kernel_rfl) (Le.refl _) ⟨pure _, rfl⟩ (fun w_ hw_ N_ hN => (O.mv (O.nil hN))) ?_
    refine D.take (i := 2) rfl rfl rfl rfl (by kernel_rfl) (Le.refl _) ⟨_, rfl⟩ (fun w_ hw_ N_ hN => (O.subS Tryd.underlying9 rfl (.inl ⟨rfl, rfl⟩) (.inr ⟨_, _, rfl, rfl⟩) (by omega) (O.nil hN))) ?_
    refine D.take (i := 3) rfl rfl rfl rfl (by kernel_rfl) (Le.refl _) ⟨pure _, rfl⟩ (fun w_ hw_ N_ hN => (O.mv (O.nil hN))) ?_
    refine D.take (i := 4) rfl rfl rfl rfl (by kernel_rfl) (Le.refl _) ⟨pure _, rfl⟩ (fun w_ hw_ N_ hN => (O.mv (O.nil hN))) ?_
    refine D.take (i := 5) rfl rfl rfl rfl (by kernel_rfl) (Le.refl _) ⟨pure _, rfl⟩ (fun w_ hw_ N_ hN => (O.mv (O.nil hN))) ?_
    refine D.take (i := 6) rfl rfl rfl rfl (by kernel_rfl) (Le.refl _) len_form (fun w_ hw_ N_ hN => (O.lenS Tryd.underlying9 rfl (O.nil hN))) ?_
    refine D.take (i := 7) rfl rfl rfl rfl (by kernel_rfl) (Le.refl _) ⟨_, rfl⟩ (fun w_ hw_ N_ hN => (O.addI rfl rfl (by show InI (_ + (([46] : List UInt8).length : Int)); unfold InI; simp; omega) (O.nil hN))) ?_
    refine D.take (i := 8) rfl rfl rfl rfl (by kernel_rfl) (Le.refl _) ⟨_, rfl⟩ (fun w_ hw_ N_ hN => (O.subS Tryd.underlying9 rfl (.inr ⟨_, _, rfl, rfl⟩) (.inl ⟨rfl, rfl⟩) (by simp; omega) (O.nil hN))) ?_
    refine D.take (i := 9) rfl rfl rfl rfl (by kernel_rfl) (Le.refl _) ⟨pure _, rfl⟩ (fun w_ hw_ N_ hN => (O.asg (O.nil hN))) ?_
    refine D.take (i := 10) rfl rfl rfl rfl (by kernel_rfl) (Le.refl _) ⟨pure _, rfl⟩ (fun w_ hw_ N_ hN => (O.asg (O.nil hN))) ?_
    refine D.take (i := 11) rfl rfl rfl rfl (by kernel_rfl) (Le.refl _) ⟨pure _, rfl⟩ (fun w_ hw_ N_ hN => (O.asg (O.nil hN))) ?_
    refine D.done (by kernel_rfl) ?_
    refine hK5 _ _ ?_
    refine C.ret ?_
    refine Outs.three rfl rfl rfl rfl ?_
    first
    | (refine ⟨true, ?_, e1⟩
       show Value.tuple #[str ((l.take (Lib.indexByte l 46).toNat).drop (0 : Int).toNat), str ((l.take ((l.length : Nat) : Int).toNat).drop (Lib.indexByte l 46 + 1).toNat), .bool true] = _
       have h1 : (Lib.indexByte l 46 + 1).toNat = (Lib.indexByte l 46).toNat + 1 := by omega
       unfold Dt.cut
       rw [if_pos c12, h1, Int.toNat_natCast, List.take_length]
       rfl)
    | (refine ⟨false, ?_, e1⟩
       unfold Dt.cut
       rw [if_neg c12]
       rfl)
  ·
    refine C.skip ?_
    refine hK2 _ _ ?_
    refine C.seqK fun K6 hK6 => ?_
    refine C.region ?_
    refine O.mv ?_
    refine O.asg ?_
    refine O.asg ?_
    refine O.asg ?_
    refine O.nil ?_
    refine hK6 _ _ ?_
    refine C.ret ?_
    refine Outs.three rfl rfl rfl rfl ?_
    first
    | (refine ⟨true, ?_, (Le.refl _)⟩
       show Value.tuple #[str ((l.take (Lib.indexByte l 46).toNat).drop (0 : Int).toNat), str ((l.take ((l.length : Nat) : Int).toNat).drop (Lib.indexByte l 46 + 1).toNat), .bool true] = _
       have h1 : (Lib.indexByte l 46 + 1).toNat = (Lib.indexByte l 46).toNat + 1 := by omega
       unfold Dt.cut
       rw [if_pos c12, h1, Int.toNat_natCast, List.take_length]
       rfl)
    | (refine ⟨false, ?_, (Le.refl _)⟩
       unfold Dt.cut
       rw [if_neg c12]
       rfl)

theorem cut_spec (l : List UInt8) (w : World) (hl : l.length ≤ 281474976710656) :
    Ret Tryd.prog 45 #[str (l), str ([46])] w (fun v w' => ∃ b, v = .tuple #[str (Dt.cut l).1, str (Dt.cut l).2, .bool b] ∧ Le w w') := by
  refine enter (args := [str (l), str ([46])]) (n := 13) Tryd.func45 rfl rfl (Nat.le_of_ble_eq_true rfl) ?_
  refine C.seqK fun K1 hK1 => ?_
  refine C.region ?_
  refine O.asg ?_
  refine O.asg ?_
  refine O.asg ?_
  refine O.nil ?_
  refine hK1 _ _ ?_
  refine C.seqK fun K2 hK2 => ?_
  refine C.region ?_
  refine O.mv ?_
  refine O.mv ?_
  refine O.call Tryd.call52 (args2 rfl rfl) (cuts_spec l _ hl) ?_
  rintro v_9 w1 ⟨bv9, rfl, e1⟩
  have z1 := e1.size
  refine O.extract rfl rfl ?_
  refine O.extract rfl rfl ?_
  refine O.extract rfl rfl ?_
  refine O.asg ?_
  refine O.asg ?_
  refine O.asg ?_
  refine O.nil ?_
  refine hK2 _ _ ?_
  refine C.ret ?_
  refine Outs.three rfl rfl rfl rfl ?_
  exact ⟨_, rfl, e1⟩

theorem text_spec (d : Dt.Dot) (w : World) (hd : Dt.Valid d) (htb : Tb w) :
    Ret Tryd.prog 44 #[Dt.dv (d)] w (fun v w' => v = str (Dt.text d) ∧ Le w w') := by
  have hd2 := hd
  unfold Dt.Valid at hd2
  refine enter (args := [Dt.dv (d)]) (n := 11) Tryd.func44 rfl rfl (Nat.le_of_ble_eq_true rfl) ?_
  refine C.seqK fun K1 hK1 => ?_
  refine C.region ?_
  refine O.box (v := Dt.dv (d)) rfl (fun b1 w1 hb1 hz1 e1 => ?_)
  have z1 := e1.size
  have h1 := hz1.own
  have hl1 := h1.lt
  refine O.asg ?_
  refine O.nil ?_
  refine hK1 _ _ ?_
  refine C.seqK fun K2 hK2 => ?_
  refine C.draw (by kernel_rfl) fun w2 e2 => ?_
  have z2 := e2.size
  refine D.take (i := 0) rfl rfl rfl rfl (by kernel_rfl) (Le.refl _) ⟨_, rfl⟩ (fun w_ hw_ N_ hN => (O.fieldAd Tryd.underlying23 rfl Tryd.sizeOf3 (by decide) rfl (O.nil hN))) ?_
  refine D.take (i := 1) rfl rfl rfl rfl (by kernel_rfl) (Le.refl _) ⟨_, rfl⟩ (fun w_ hw_ N_ hN => (O.loadO Tryd.isAgg3 rfl ((h1.keep e2).keep hw_) rfl (O.nil hN))) ?_
  refine D.take (i := 4) rfl rfl rfl rfl (by kernel_rfl) (Le.refl _) ⟨_, rfl⟩ (fun w_ hw_ N_ hN => (O.fieldAd Tryd.underlying23 rfl Tryd.sizeOf3 (by decide) rfl (O.nil hN))) ?_
  refine D.take (i := 5) rfl rfl rfl rfl (by kernel_rfl) (Le.refl _) ⟨_, rfl⟩ (fun w_ hw_ N_ hN => (O.loadO Tryd.isAgg3 rfl ((h1.keep e2).keep hw_) rfl (O.nil hN))) ?_
  refine D.one (i := 2) rfl rfl (by kernel_rfl) ?_
  refine O.call Tryd.call51 (args1 rfl) (itoa_spec d.1 _ (by omega) ((htb.keep e1).keep e2)) ?_
  rintro v_5 w3 ⟨rfl, e3⟩
  have z3 := e3.size
  refine O.nil ⟨e3, ?_⟩
  refine D.take (i := 3) rfl rfl rfl rfl (by kernel_rfl) e3 ⟨_, rfl⟩ (fun w_ hw_ N_ hN => (O.addS rfl rfl (by have := Dt.itoa_len hd2; simp; omega) (O.nil hN))) ?_
  refine D.one (i := 6) rfl rfl (by kernel_rfl) ?_
  refine O.call Tryd.call51 (args1 rfl) (itoa_spec d.2 _ (by omega) (((htb.keep e1).keep e2).keep e3)) ?_
  rintro v_9 w4 ⟨rfl, e4⟩
  have z4 := e4.size
  refine O.nil ⟨(Ext.trans e3 e4), ?_⟩
  refine D.take (i := 7) rfl rfl rfl rfl (by kernel_rfl) (Ext.trans e3 e4) ⟨_, rfl⟩ (fun w_ hw_ N_ hN => (O.addS rfl rfl (by have := Dt.itoa_len hd2; simp; omega) (O.nil hN))) ?_
  refine D.take (i := 8) rfl rfl rfl rfl (by kernel_rfl) (Ext.trans e3 e4) ⟨pure _, rfl⟩ (fun w_ hw_ N_ hN => (O.asg (O.nil hN))) ?_
  refine D.done (by kernel_rfl) ?_
  refine hK2 _ _ ?_
  refine C.ret ?_
  refine Outs.one rfl rfl ?_
  exact ⟨rfl, (Ext.trans (Ext.trans (Ext.trans e1 e2) e3) e4)⟩

theorem dtext_spec (d : Dt.Dot) (w : World) (htb : Tb w) :
    Ret Tryd.prog 29 #[Dt.dv (d)] w (fun v w' => v = (if Dt.Valid d then .tuple #[str (Dt.text d), .int .i64 0] else .tuple #[str [], .int .i64 2]) ∧ Le w w') := by
  refine enter (args := [Dt.dv (d)]) (n := 9) Tryd.func29 rfl rfl (Nat.le_of_ble_eq_true rfl) ?_
  refine C.seqK fun K1 hK1 => ?_
  refine C.region ?_
  refine O.box (v := Dt.dv (d)) rfl (fun b1 w1 hb1 hz1 e1 => ?_)
  have z1 := e1.size
  have h1 := hz1.own
  have hl1 := h1.lt
  refine O.asg ?_
  refine O.asg ?_
  refine O.nil ?_
  refine hK1 _ _ ?_
  refine C.seqK fun K2 hK2 => ?_
  refine C.seqK fun K3 hK3 => ?_
  refine C.region ?_
  refine O.loadOA Tryd.isAgg23 Tryd.sizeOf23 rfl h1 (Nat.le_of_ble_eq_true rfl) ?_
  refine O.call Tryd.call6 (args1 rfl) (valid_spec d _) ?_
  rintro v_5 w2 ⟨rfl, e2⟩
  have z2 := e2.size
  refine O.not rfl ?_
  refine O.nil ?_
  refine hK3 _ _ ?_
  refine C.cond rfl (fun c6 => ?_) (fun c6 => ?_)
  ·
    have hv : ¬ Dt.Valid d := by simpa using c6
    refine C.seqK fun K4 hK4 => ?_
    refine C.region ?_
    refine O.asg ?_
    refine O.asg ?_
    refine O.nil ?_
    refine hK4 _ _ ?_
    refine C.ret ?_
    refine Outs.two rfl rfl rfl ?_
    first
    | exact ⟨(if_neg hv).symm, (Ext.trans e1 e2)⟩
    | exact ⟨(if_pos hv).symm, (Ext.trans e1 e2)⟩
  ·
    have hv : Dt.Valid d := by simpa using c6
    refine C.skip ?_
    refine hK2 _ _ ?_
    refine C.seqK fun K5 hK5 => ?_
    refine C.region ?_
    refine O.loadOA Tryd.isAgg23 Tryd.sizeOf23 rfl (h1.keep e2) (Nat.le_of_ble_eq_true rfl) ?_
    refine O.call Tryd.call44 (args1 rfl) (text_spec d _ hv ((htb.keep e1).keep e2)) ?_
    rintro v_8 w3 ⟨rfl, e3⟩
    have z3 := e3.size
    refine O.asg ?_
    refine O.asg ?_
    refine O.nil ?_
    refine hK5 _ _ ?_
    refine C.ret ?_
    refine Outs.two rfl rfl rfl ?_
    first
    | exact ⟨(if_neg hv).symm, (Ext.trans (Ext.trans e1 e2) e3)⟩
    | exact ⟨(if_pos hv).symm, (Ext.trans (Ext.trans e1 e2) e3)⟩

def Dt.gotE : Option Dt.Dot → Value
  | some d => .tuple #[Dt.dv d, .int .i64 0]
  | none => .tuple #[Dt.dv (0, 0), .int .i64 6]
def Dt.gotB : Option Dt.Dot → Value
  | some d => .tuple #[Dt.dv d, .bool true]
  | none => .tuple #[Dt.dv (0, 0), .bool false]
theorem parse_a_spec (l : List UInt8) (r c : Int) (w : World) (hl : l.length ≤ 281474976710656) (htb : Tb w) (q1 : Lib.atoiAll (Dt.cut l).1 = .ok r) (q2 : Lib.atoiAll (Dt.cut l).2 = .ok c) :
    Ret Tryd.prog 31 #[str (l)] w (fun v w' => v = Dt.gotE (Dt.pparse l) ∧ Le w w') := by
  have hc := Dt.cut_len l
  refine enter (args := [str (l)]) (n := 50) Tryd.func31 rfl rfl (Nat.le_of_ble_eq_true rfl) ?_
  refine C.seqK fun K1 hK1 => ?_
  refine C.region ?_
  refine O.alloc Tryd.zeroValue23 (fun b2 w1 hb2 hz2 e1 => ?_)
  have z1 := e1.size
  have h2 := hz2.own
  have hl2 := h2.lt
  refine O.asg ?_
  refine O.nil ?_
  refine hK1 _ _ ?_
  refine C.seqK fun K2 hK2 => ?_
  refine C.region ?_
  refine O.mv ?_
  refine O.call Tryd.call45 (args2 rfl rfl) (cut_spec l _ hl) ?_
  rintro v_14 w2 ⟨bv14, rfl, e2⟩
  have z2 := e2.size
  refine O.mv ?_
  refine O.extract rfl rfl ?_
  refine O.extract rfl rfl ?_
  refine O.extract rfl rfl ?_
  refine O.asg ?_
  refine O.asg ?_
  refine O.asg ?_
  refine O.nil ?_
  refine hK2 _ _ ?_
  refine C.seqK fun K3 hK3 => ?_
  refine C.region ?_
  refine O.mv ?_
  refine O.call Tryd.call46 (args1 rfl) (atoi_ok _ _ _ (by omega) q1) ?_
  rintro v_20 w3 ⟨rfl, e3⟩
  have z3 := e3.size
  refine O.mv ?_
  refine O.extract rfl rfl ?_
  refine O.extract rfl rfl ?_
  refine O.asg ?_
  refine O.asg ?_
  refine O.nil ?_
  refine hK3 _ _ ?_
  refine C.seqK fun K4 hK4 => ?_
  refine C.region ?_
  refine O.mv ?_
  refine O.call Tryd.call46 (args1 rfl) (atoi_ok _ _ _ (by omega) q2) ?_
  rintro v_25 w4 ⟨rfl, e4⟩
  have z4 := e4.size
  refine O.mv ?_
  refine O.extract rfl rfl ?_
  refine O.extract rfl rfl ?_
  refine O.asg ?_
  refine O.asg ?_
  refine O.nil ?_
  refine hK4 _ _ ?_
  refine C.seqK fun K5 hK5 => ?_
  refine C.region ?_
  refine O.mv ?_
  refine O.mv ?_
  refine O.build (cells := #[.int .i64 r, .int .i64 c]) rfl (by kernel_rfl) ?_
  refine O.alloc Tryd.zeroValue23 (fun b11 w5 hb11 hz11 e5 => ?_)
  have z5 := e5.size
  have h11 := hz11.own
  have hl11 := h11.lt
  refine O.storeA (vs := [.int .i64 r, .int .i64 c]) Tryd.sizeOf23 rfl rfl rfl (by simp [Value.oneCell']) h11 (Nat.le_of_ble_eq_true rfl) (fun w6 hs6 e6 z6 => ?_)
  refine O.nil ?_
  refine hK5 _ _ ?_
  refine C.seqK fun K6 hK6 => ?_
  refine C.seqK fun K7 hK7 => ?_
  refine C.region ?_
  refine O.mv ?_
  refine O.neqN0 rfl Tryd.underlying58 ?_
  refine O.mv ?_
  refine O.yes rfl rfl ?_
  refine O.mv ?_
  refine O.yes rfl rfl ?_
  refine O.neqN0 rfl Tryd.underlying58 ?_
  refine O.pickF rfl ?_
  refine O.mv ?_
  refine O.yes rfl rfl ?_
  refine O.loadOA Tryd.isAgg23 Tryd.sizeOf23 rfl hs6 (Nat.le_of_ble_eq_true rfl) ?_
  refine O.yes rfl rfl ?_
  refine O.call Tryd.call6 (args1 rfl) (valid_spec (r, c) _) ?_
  rintro v_39 w7 ⟨rfl, e7⟩
  have z7 := e7.size
  refine O.yes rfl rfl ?_
  refine O.not rfl ?_
  refine O.pickF rfl ?_
  refine O.mv ?_
  refine O.split (x := .tmp 42) rfl (fun c42 => ?_) (fun c42 => ?_)
  ·
    have hv : ¬ Dt.Valid (r, c) := by simpa using c42
    refine O.no rfl (noB (isT' rfl c42) rfl) ?_
    refine O.no rfl (noB (isT' rfl c42) rfl) ?_
    refine O.no rfl (noB (isT' rfl c42) rfl) ?_
    refine O.no rfl (noB (isT' rfl c42) rfl) ?_
    refine O.pickT (isT' rfl c42) ?_
    refine O.nil ?_
    refine hK7 _ _ ?_
    refine C.condT rfl ?_
    refine C.seqK fun K8 hK8 => ?_
    refine C.region ?_
    refine O.build (cells := #[.int .i64 0, .int .i64 0]) rfl (by kernel_rfl) ?_
    refine O.storeA (vs := [.int .i64 0, .int .i64 0]) Tryd.sizeOf23 rfl rfl rfl (by simp [Value.oneCell']) ((((((h2.keep e2).keep e3).keep e4).keep e5).keepM e6 (by omega)).keep e7) (Nat.le_of_ble_eq_true rfl) (fun w8 hs8 e8 z8 => ?_)
    refine O.asg ?_
    refine O.nil ?_
    refine hK8 _ _ ?_
    refine C.ret ?_
    refine Outs.cellA2 rfl Tryd.isAgg23 Tryd.sizeOf23 rfl rfl hs8 rfl ?_
    first
    | exact ⟨(congrArg Dt.gotE ((Dt.pparse_ok q1 q2).trans (if_neg (fun h => hv h.1)))).symm, (Ext.new (Ext.trans (Ext.new (Ext.trans (Ext.trans (Ext.trans (Ext.trans e1 e2) e3) e4) e5) e6 (by rintro i hi rfl; omega)) e7) e8 (by rintro i hi rfl; omega))⟩
    | exact ⟨(congrArg Dt.gotE ((Dt.pparse_ok q1 q2).trans (if_neg (fun h => c47 h.2)))).symm, (Ext.new (Ext.trans (Ext.new (Ext.trans (Ext.trans (Ext.trans (Ext.trans e1 e2) e3) e4) e5) e6 (by rintro i hi rfl; omega)) e7) e8 (by rintro i hi rfl; omega))⟩
    | exact ⟨(congrArg Dt.gotE ((Dt.pparse_ok q1 q2).trans (if_pos ⟨hv, Decidable.of_not_not c47⟩))).symm, (Ext.new (Ext.trans (Ext.new (Ext.trans (Ext.trans (Ext.trans (Ext.trans e1 e2) e3) e4) e5) e6 (by rintro i hi rfl; omega)) e7) e8 (by rintro i hi rfl; omega))⟩
  ·
    have hv : Dt.Valid (r, c) := by simpa using c42
    refine O.yes rfl (isF' rfl c42) ?_
    refine O.loadOA Tryd.isAgg23 Tryd.sizeOf23 rfl (hs6.keep e7) (Nat.le_of_ble_eq_true rfl) ?_
    refine O.yes rfl (isF' rfl c42) ?_
    refine O.call Tryd.call44 (args1 rfl) (text_spec (r, c) _ hv (htb.keep (Ext.trans (Ext.new (Ext.trans (Ext.trans (Ext.trans (Ext.trans e1 e2) e3) e4) e5) e6 (by rintro i hi rfl; omega)) e7))) ?_
    rintro v_44 w9 ⟨rfl, e9⟩
    have z9 := e9.size
    refine O.yes rfl (isF' rfl c42) ?_
    refine O.mv ?_
    refine O.yes rfl (isF' rfl c42) ?_
    refine O.neqS rfl rfl ?_
    refine O.pickF (isF' rfl c42) ?_
    refine O.nil ?_
    refine hK7 _ _ ?_
    refine C.condD rfl (fun c47 => ?_) (fun c47 => ?_)
    ·
      refine C.seqK fun K9 hK9 => ?_
      refine C.region ?_
      refine O.build (cells := #[.int .i64 0, .int .i64 0]) rfl (by kernel_rfl) ?_
      refine O.storeA (vs := [.int .i64 0, .int .i64 0]) Tryd.sizeOf23 rfl rfl rfl (by simp [Value.oneCell']) (((((((h2.keep e2).keep e3).keep e4).keep e5).keepM e6 (by omega)).keep e7).keep e9) (Nat.le_of_ble_eq_true rfl) (fun w10 hs10 e10 z10 => ?_)
      refine O.asg ?_
      refine O.nil ?_
      refine hK9 _ _ ?_
      refine C.ret ?_
      refine Outs.cellA2 rfl Tryd.isAgg23 Tryd.sizeOf23 rfl rfl hs10 rfl ?_
      first
      | exact ⟨(congrArg Dt.gotE ((Dt.pparse_ok q1 q2).trans (if_neg (fun h => hv h.1)))).symm, (Ext.new (Ext.trans (Ext.trans (Ext.new (Ext.trans (Ext.trans (Ext.trans (Ext.trans e1 e2) e3) e4) e5) e6 (by rintro i hi rfl; omega)) e7) e9) e10 (by rintro i hi rfl; omega))⟩
      | exact ⟨(congrArg Dt.gotE ((Dt.pparse_ok q1 q2).trans (if_neg (fun h => c47 h.2)))).symm, (Ext.new (Ext.trans (Ext.trans (Ext.new (Ext.trans (Ext.trans (Ext.trans (Ext.trans e1 e2) e3) e4) e5) e6 (by rintro i hi rfl; omega)) e7) e9) e10 (by rintro i hi rfl; omega))⟩
      | exact ⟨(congrArg Dt.gotE ((Dt.pparse_ok q1 q2).trans (if_pos ⟨hv, Decidable.of_not_not c47⟩))).symm, (Ext.new (Ext.trans (Ext.trans (Ext.new (Ext.trans (Ext.trans (Ext.trans (Ext.trans e1 e2) e3) e4) e5) e6 (by rintro i hi rfl; omega)) e7) e9) e10 (by rintro i hi rfl; omega))⟩
    ·
      refine C.skip ?_
      refine hK6 _ _ ?_
      refine C.seqK fun K10 hK10 => ?_
      refine C.region ?_
      refine O.loadOA Tryd.isAgg23 Tryd.sizeOf23 rfl ((hs6.keep e7).keep e9) (Nat.le_of_ble_eq_true rfl) ?_
      refine O.storeA (vs := [.int .i64 r, .int .i64 c]) Tryd.sizeOf23 rfl rfl rfl (by simp [Value.oneCell']) (((((((h2.keep e2).keep e3).keep e4).keep e5).keepM e6 (by omega)).keep e7).keep e9) (Nat.le_of_ble_eq_true rfl) (fun w11 hs11 e11 z11 => ?_)
      refine O.asg ?_
      refine O.nil ?_
      refine hK10 _ _ ?_
      refine C.ret ?_
      refine Outs.cellA2 rfl Tryd.isAgg23 Tryd.sizeOf23 rfl rfl hs11 rfl ?_
      first
      | exact ⟨(congrArg Dt.gotE ((Dt.pparse_ok q1 q2).trans (if_neg (fun h => hv h.1)))).symm, (Ext.new (Ext.trans (Ext.trans (Ext.new (Ext.trans (Ext.trans (Ext.trans (Ext.trans e1 e2) e3) e4) e5) e6 (by rintro i hi rfl; omega)) e7) e9) e11 (by rintro i hi rfl; omega))⟩
      | exact ⟨(congrArg Dt.gotE ((Dt.pparse_ok q1 q2).trans (if_neg (fun h => c47 h.2)))).symm, (Ext.new (Ext.trans (Ext.trans (Ext.new (Ext.trans (Ext.trans (Ext.trans (Ext.trans e1 e2) e3) e4) e5) e6 (by rintro i hi rfl; omega)) e7) e9) e11 (by rintro i hi rfl; omega))⟩
      | exact ⟨(congrArg Dt.gotE ((Dt.pparse_ok q1 q2).trans (if_pos ⟨hv, Decidable.of_not_not c47⟩))).symm, (Ext.new (Ext.trans (Ext.trans (Ext.new (Ext.trans (Ext.trans (Ext.trans (Ext.trans e1 e2) e3) e4) e5) e6 (by rintro i hi rfl; omega)) e7) e9) e11 (by rintro i hi rfl; omega))⟩

theorem parse_b_spec (l : List UInt8) (es er : Value) (w : World) (hl : l.length ≤ 281474976710656) (hes : CellIs w 1 es) (her : CellIs w 2 er) (g1 : ∃ te pe, es = .iface te pe) (g2 : ∃ te pe, er = .iface te pe) (q1 : ∀ n, Lib.atoiAll (Dt.cut l).1 ≠ .ok n) :
    Ret Tryd.prog 31 #[str (l)] w (fun v w' => v = Dt.gotE (Dt.pparse l) ∧ Le w w') := by
  have hc := Dt.cut_len l
  refine enter (args := [str (l)]) (n := 50) Tryd.func31 rfl rfl (Nat.le_of_ble_eq_true rfl) ?_
  refine C.seqK fun K1 hK1 => ?_
  refine C.region ?_
  refine O.alloc Tryd.zeroValue23 (fun b2 w1 hb2 hz2 e1 => ?_)
  have z1 := e1.size
  have h2 := hz2.own
  have hl2 := h2.lt
  refine O.asg ?_
  refine O.nil ?_
  refine hK1 _ _ ?_
  refine C.seqK fun K2 hK2 => ?_
  refine C.region ?_
  refine O.mv ?_
  refine O.call Tryd.call45 (args2 rfl rfl) (cut_spec l _ hl) ?_
  rintro v_14 w2 ⟨bv14, rfl, e2⟩
  have z2 := e2.size
  refine O.mv ?_
  refine O.extract rfl rfl ?_
  refine O.extract rfl rfl ?_
  refine O.extract rfl rfl ?_
  refine O.asg ?_
  refine O.asg ?_
  refine O.asg ?_
  refine O.nil ?_
  refine hK2 _ _ ?_
  refine C.seqK fun K3 hK3 => ?_
  refine C.region ?_
  refine O.mv ?_
  refine O.call Tryd.call46 (args1 rfl) (atoi_err _ es er _ (by omega) q1 ((hes.keep e1).keep e2) ((her.keep e1).keep e2) g1 g2) ?_
  rintro v_20 w3 ⟨rv20, yv20, rfl, e3⟩
  have z3 := e3.size
  refine O.mv ?_
  refine O.extract rfl rfl ?_
  refine O.extract rfl rfl ?_
  refine O.asg ?_
  refine O.asg ?_
  refine O.nil ?_
  refine hK3 _ _ ?_
  refine C.seqK fun K4 hK4 => ?_
  refine C.region ?_
  refine O.mv ?_
  refine O.call Tryd.call46 (args1 rfl) (atoi_any _ es er _ (by omega) (((hes.keep e1).keep e2).keep e3) (((her.keep e1).keep e2).keep e3) g1 g2) ?_
  rintro v_25 w4 ⟨rv25, yv25, rfl, e4⟩
  have z4 := e4.size
  refine O.mv ?_
  refine O.extract rfl rfl ?_
  refine O.extract rfl rfl ?_
  refine O.asg ?_
  refine O.asg ?_
  refine O.nil ?_
  refine hK4 _ _ ?_
  refine C.seqK fun K5 hK5 => ?_
  refine C.region ?_
  refine O.mv ?_
  refine O.mv ?_
  refine O.build (cells := #[.int .i64 rv20, .int .i64 rv25]) rfl (by kernel_rfl) ?_
  refine O.alloc Tryd.zeroValue23 (fun b11 w5 hb11 hz11 e5 => ?_)
  have z5 := e5.size
  have h11 := hz11.own
  have hl11 := h11.lt
  refine O.storeA (vs := [.int .i64 rv20, .int .i64 rv25]) Tryd.sizeOf23 rfl rfl rfl (by simp [Value.oneCell']) h11 (Nat.le_of_ble_eq_true rfl) (fun w6 hs6 e6 z6 => ?_)
  refine O.nil ?_
  refine hK5 _ _ ?_
  refine C.seqK fun K6 hK6 => ?_
  refine C.seqK fun K7 hK7 => ?_
  refine C.region ?_
  refine O.mv ?_
  refine O.neqN1 rfl rfl Tryd.underlying58 ?_
  refine O.mv ?_
  refine O.no rfl (noB rfl rfl) ?_
  refine O.no rfl (noB rfl rfl) ?_
  refine O.pickT rfl ?_
  refine O.mv ?_
  refine O.no rfl (noB rfl rfl) ?_
  refine O.no rfl (noB rfl rfl) ?_
  refine O.no rfl (noB rfl rfl) ?_
  refine O.pickT rfl ?_
  refine O.mv ?_
  refine O.no rfl (noB rfl rfl) ?_
  refine O.no rfl (noB rfl rfl) ?_
  refine O.no rfl (noB rfl rfl) ?_
  refine O.no rfl (noB rfl rfl) ?_
  refine O.pickT rfl ?_
  refine O.nil ?_
  refine hK7 _ _ ?_
  refine C.condT rfl ?_
  refine C.seqK fun K8 hK8 => ?_
  refine C.region ?_
  refine O.build (cells := #[.int .i64 0, .int .i64 0]) rfl (by kernel_rfl) ?_
  refine O.storeA (vs := [.int .i64 0, .int .i64 0]) Tryd.sizeOf23 rfl rfl rfl (by simp [Value.oneCell']) (((((h2.keep e2).keep e3).keep e4).keep e5).keepM e6 (by omega)) (Nat.le_of_ble_eq_true rfl) (fun w7 hs7 e7 z7 => ?_)
  refine O.asg ?_
  refine O.nil ?_
  refine hK8 _ _ ?_
  refine C.ret ?_
  refine Outs.cellA2 rfl Tryd.isAgg23 Tryd.sizeOf23 rfl rfl hs7 rfl ?_
  exact ⟨(congrArg Dt.gotE (Dt.pparse_e1 q1)).symm, (Ext.new (Ext.new (Ext.trans (Ext.trans (Ext.trans (Ext.trans e1 e2) e3) e4) e5) e6 (by rintro i hi rfl; omega)) e7 (by rintro i hi rfl; omega))⟩

theorem parse_c_spec (l : List UInt8) (r : Int) (es er : Value) (w : World) (hl : l.length ≤ 281474976710656) (hes : CellIs w 1 es) (her : CellIs w 2 er) (g1 : ∃ te pe, es = .iface te pe) (g2 : ∃ te pe, er = .iface te pe) (q1 : Lib.atoiAll (Dt.cut l).1 = .ok r) (q2 : ∀ n, Lib.atoiAll (Dt.cut l).2 ≠ .ok n) :
    Ret Tryd.prog 31 #[str (l)] w (fun v w' => v = Dt.gotE (Dt.pparse l) ∧ Le w w') := by
  have hc := Dt.cut_len l
  refine enter (args := [str (l)]) (n := 50) Tryd.func31 rfl rfl (Nat.le_of_ble_eq_true rfl) ?_
  refine C.seqK fun K1 hK1 => ?_
  refine C.region ?_
  refine O.alloc Tryd.zeroValue23 (fun b2 w1 hb2 hz2 e1 => ?_)
  have z1 := e1.size
  have h2 := hz2.own
  have hl2 := h2.lt
  refine O.asg ?_
  refine O.nil ?_
  refine hK1 _ _ ?_
  refine C.seqK fun K2 hK2 => ?_
  refine C.region ?_
  refine O.mv ?_
  refine O.call Tryd.call45 (args2 rfl rfl) (cut_spec l _ hl) ?_
  rintro v_14 w2 ⟨bv14, rfl, e2⟩
  have z2 := e2.size
  refine O.mv ?_
  refine O.extract rfl rfl ?_
  refine O.extract rfl rfl ?_
  refine O.extract rfl rfl ?_
  refine O.asg ?_
  refine O.asg ?_
  refine O.asg ?_
  refine O.nil ?_
  refine hK2 _ _ ?_
  refine C.seqK fun K3 hK3 => ?_
  refine C.region ?_
  refine O.mv ?_
  refine O.call Tryd.call46 (args1 rfl) (atoi_ok _ _ _ (by omega) q1) ?_
  rintro v_20 w3 ⟨rfl, e3⟩
  have z3 := e3.size
  refine O.mv ?_
  refine O.extract rfl rfl ?_
  refine O.extract rfl rfl ?_
  refine O.asg ?_
  refine O.asg ?_
  refine O.nil ?_
  refine hK3 _ _ ?_
  refine C.seqK fun K4 hK4 => ?_
  refine C.region ?_
  refine O.mv ?_
  refine O.call Tryd.call46 (args1 rfl) (atoi_err _ es er _ (by omega) q2 (((hes.keep e1).keep e2).keep e3) (((her.keep e1).keep e2).keep e3) g1 g2) ?_
  rintro v_25 w4 ⟨rv25, yv25, rfl, e4⟩
  have z4 := e4.size
  refine O.mv ?_
  refine O.extract rfl rfl ?_
  refine O.extract rfl rfl ?_
  refine O.asg ?_
  refine O.asg ?_
  refine O.nil ?_
  refine hK4 _ _ ?_
  refine C.seqK fun K5 hK5 => ?_
  refine C.region ?_
  refine O.mv ?_
  refine O.mv ?_
  refine O.build (cells := #[.int .i64 r, .int .i64 rv25]) rfl (by kernel_rfl) ?_
  refine O.alloc Tryd.zeroValue23 (fun b11 w5 hb11 hz11 e5 => ?_)
  have z5 := e5.size
  have h11 := hz11.own
  have hl11 := h11.lt
  refine O.storeA (vs := [.int .i64 r, .int .i64 rv25]) Tryd.sizeOf23 rfl rfl rfl (by simp [Value.oneCell']) h11 (Nat.le_of_ble_eq_true rfl) (fun w6 hs6 e6 z6 => ?_)
  refine O.nil ?_
  refine hK5 _ _ ?_
  refine C.seqK fun K6 hK6 => ?_
  refine C.seqK fun K7 hK7 => ?_
  refine C.region ?_
  refine O.mv ?_
  refine O.neqN0 rfl Tryd.underlying58 ?_
  refine O.mv ?_
  refine O.yes rfl rfl ?_
  refine O.mv ?_
  refine O.yes rfl rfl ?_
  refine O.neqN1 rfl rfl Tryd.underlying58 ?_
  refine O.pickF rfl ?_
  refine O.mv ?_
  refine O.no rfl (noB rfl rfl) ?_
  refine O.no rfl (noB rfl rfl) ?_
  refine O.no rfl (noB rfl rfl) ?_
  refine O.pickT rfl ?_
  refine O.mv ?_
  refine O.no rfl (noB rfl rfl) ?_
  refine O.no rfl (noB rfl rfl) ?_
  refine O.no rfl (noB rfl rfl) ?_
  refine O.no rfl (noB rfl rfl) ?_
  refine O.pickT rfl ?_
  refine O.nil ?_
  refine hK7 _ _ ?_
  refine C.condT rfl ?_
  refine C.seqK fun K8 hK8 => ?_
  refine C.region ?_
  refine O.build (cells := #[.int .i64 0, .int .i64 0]) rfl (by kernel_rfl) ?_
  refine O.storeA (vs := [.int .i64 0, .int .i64 0]) Tryd.sizeOf23 rfl rfl rfl (by simp [Value.oneCell']) (((((h2.keep e2).keep e3).keep e4).keep e5).keepM e6 (by omega)) (Nat.le_of_ble_eq_true rfl) (fun w7 hs7 e7 z7 => ?_)
  refine O.asg ?_
  refine O.nil ?_
  refine hK8 _ _ ?_
  refine C.ret ?_
  refine Outs.cellA2 rfl Tryd.isAgg23 Tryd.sizeOf23 rfl rfl hs7 rfl ?_
  exact ⟨(congrArg Dt.gotE (Dt.pparse_e2 q2)).symm, (Ext.new (Ext.new (Ext.trans (Ext.trans (Ext.trans (Ext.trans e1 e2) e3) e4) e5) e6 (by rintro i hi rfl; omega)) e7 (by rintro i hi rfl; omega))⟩


theorem parse_spec (l : List UInt8) (es er : Value) (w : World) (hl : l.length ≤ 281474976710656) (htb : Tb w) (hes : CellIs w 1 es) (her : CellIs w 2 er) (g1 : ∃ te pe, es = .iface te pe) (g2 : ∃ te pe, er = .iface te pe) : Ret Tryd.prog 31 #[str l] w (fun v w' => v = Dt.gotE (Dt.pparse l) ∧ Le w w') := by
  by_cases h1 : ∃ r, Lib.atoiAll (Dt.cut l).1 = .ok r
  · obtain ⟨r, q1⟩ := h1
    by_cases h2 : ∃ c, Lib.atoiAll (Dt.cut l).2 = .ok c
    · obtain ⟨c, q2⟩ := h2
      exact parse_a_spec l r c w hl htb q1 q2
    · exact parse_c_spec l r es er w hl hes her g1 g2 q1 (fun n hn => h2 ⟨n, hn⟩)
  · exact parse_b_spec l es er w hl hes her g1 g2 (fun n hn => h1 ⟨n, hn⟩)

end Go.Proofs.YtbmbaajfkmejgaaDoor
