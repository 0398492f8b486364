/-
  The walks of dots: what two lists have together, the laws' helpers, what is known. Conditions: the library's table and its errors lie in memory.
-/
import Derived.Test.YtbmbaajfkmejgaaDoorFw17
import Derived.Test.YtbmbaajfkmejgaaDoorD6
import Derived.Test.YtbmbaajfkmejgaaDoorD7
namespace Go.Proofs.YtbmbaajfkmejgaaDoor
open Go.Pn Go.RowKit Go.Proofs

theorem union_spec (va : Value) (a : List Dt.Dot) (vb : Value) (b : List Dt.Dot) (F F2 : Nat → Prop) (w : World) (ha : Sl Dt.dotF.enc w F va a) (hb : Sl Dt.dotF.enc w F2 vb b) (hn : a.length ≤ 1000) (hm : b.length ≤ 1000) :
    Ret Tryd.prog 26 #[va, vb] w (fun v w' => Le w w' ∧ OwnF Dt.dotF 23 w.heap.size w' v (Dt.merge true true true (Dt.set a) (Dt.set b))) := by
  have hale := ha.le
  have hble := hb.le
  refine enter (args := [va, vb]) (n := 14) Tryd.func26 rfl rfl (Nat.le_of_ble_eq_true rfl) ?_
  refine C.seqK fun K1 hK1 => ?_
  refine C.region ?_
  refine O.alloc Tryd.zeroValue35 (fun b4 w1 hb4 hz4 e1 => ?_)
  have z1 := e1.size
  have h4 := hz4.own
  have hl4 := h4.lt
  refine O.nil ?_
  refine hK1 _ _ ?_
  refine C.seqK fun K2 hK2 => ?_
  refine C.region ?_
  refine O.makeF (v1 := []) rfl rfl ?_
  refine O.asg ?_
  refine O.nil ?_
  refine hK2 _ _ ?_
  refine C.seqK fun K3 hK3 => ?_
  refine C.region ?_
  refine O.mv ?_
  refine O.mv ?_
  refine O.mv ?_
  refine O.mv ?_
  refine O.mv ?_
  refine O.call Tryd.call39 (args5 rfl rfl rfl rfl rfl) (parts_spec va a vb b _ _ 38 38 38 [.pointer (some ⟨b4, 0, none⟩)] [.pointer (some ⟨b4, 0, none⟩)] [.pointer (some ⟨b4, 0, none⟩)] true true true b4 _ (ha.keep e1) (hb.keep e1) hn hm h4 (clo_keepU b4) (clo_keepU b4) (clo_keepU b4)) ?_
  rintro v_12 w2 ⟨rfl, ⟨vov12, Bv12, hov12, hlv12, hBv12⟩, e2⟩
  have z2 := e2.size
  refine O.nil ?_
  refine hK3 _ _ ?_
  refine C.seqK fun K4 hK4 => ?_
  refine C.region ?_
  refine O.loadO Tryd.isAgg35 rfl hov12 rfl ?_
  refine O.store Tryd.sizeOf35 rfl rfl hlv12.one hov12 (by simp) (fun w3 hs3 e3 z3 => ?_)
  try simp only [Int.toNat_natCast, Nat.zero_add, Nat.mul_one] at hs3
  refine O.nil ?_
  refine hK4 _ _ ?_
  refine C.ret ?_
  refine Outs.cell1 rfl Tryd.isAgg35 rfl hs3 ?_
  exact ⟨(Ext.new (Ext.new e1 e2 (by rintro i hi rfl; omega)) e3 (by rintro i hi rfl; omega)), (hlv12.keepM e3 (by intro k hk h; have h0 : k = b4 := h; have := hlv12.bk_ge k hk; omega)).low (by omega)⟩

theorem minus_spec (va : Value) (a : List Dt.Dot) (vb : Value) (b : List Dt.Dot) (F F2 : Nat → Prop) (w : World) (ha : Sl Dt.dotF.enc w F va a) (hb : Sl Dt.dotF.enc w F2 vb b) (hn : a.length ≤ 1000) (hm : b.length ≤ 1000) :
    Ret Tryd.prog 27 #[va, vb] w (fun v w' => Le w w' ∧ OwnF Dt.dotF 23 w.heap.size w' v (Dt.merge true false false (Dt.set a) (Dt.set b))) := by
  have hale := ha.le
  have hble := hb.le
  refine enter (args := [va, vb]) (n := 15) Tryd.func27 rfl rfl (Nat.le_of_ble_eq_true rfl) ?_
  refine C.seqK fun K1 hK1 => ?_
  refine C.region ?_
  refine O.alloc Tryd.zeroValue35 (fun b4 w1 hb4 hz4 e1 => ?_)
  have z1 := e1.size
  have h4 := hz4.own
  have hl4 := h4.lt
  refine O.nil ?_
  refine hK1 _ _ ?_
  refine C.seqK fun K2 hK2 => ?_
  refine C.region ?_
  refine O.makeF (v1 := []) rfl rfl ?_
  refine O.asg ?_
  refine O.asg ?_
  refine O.nil ?_
  refine hK2 _ _ ?_
  refine C.seqK fun K3 hK3 => ?_
  refine C.region ?_
  refine O.mv ?_
  refine O.mv ?_
  refine O.mv ?_
  refine O.mv ?_
  refine O.mv ?_
  refine O.call Tryd.call39 (args5 rfl rfl rfl rfl rfl) (parts_spec va a vb b _ _ 40 41 41 [.pointer (some ⟨b4, 0, none⟩)] [] [] true false false b4 _ (ha.keep e1) (hb.keep e1) hn hm h4 (clo_keepM b4) (clo_dropM b4) (clo_dropM b4)) ?_
  rintro v_13 w2 ⟨rfl, ⟨vov13, Bv13, hov13, hlv13, hBv13⟩, e2⟩
  have z2 := e2.size
  refine O.nil ?_
  refine hK3 _ _ ?_
  refine C.seqK fun K4 hK4 => ?_
  refine C.region ?_
  refine O.loadO Tryd.isAgg35 rfl hov13 rfl ?_
  refine O.store Tryd.sizeOf35 rfl rfl hlv13.one hov13 (by simp) (fun w3 hs3 e3 z3 => ?_)
  try simp only [Int.toNat_natCast, Nat.zero_add, Nat.mul_one] at hs3
  refine O.nil ?_
  refine hK4 _ _ ?_
  refine C.ret ?_
  refine Outs.cell1 rfl Tryd.isAgg35 rfl hs3 ?_
  exact ⟨(Ext.new (Ext.new e1 e2 (by rintro i hi rfl; omega)) e3 (by rintro i hi rfl; omega)), (hlv13.keepM e3 (by intro k hk h; have h0 : k = b4 := h; have := hlv13.bk_ge k hk; omega)).low (by omega)⟩

theorem both_spec (va : Value) (a : List Dt.Dot) (vb : Value) (b : List Dt.Dot) (F F2 : Nat → Prop) (w : World) (ha : Sl Dt.dotF.enc w F va a) (hb : Sl Dt.dotF.enc w F2 vb b) (hn : a.length ≤ 1000) (hm : b.length ≤ 1000) :
    Ret Tryd.prog 28 #[va, vb] w (fun v w' => Le w w' ∧ OwnF Dt.dotF 23 w.heap.size w' v (Dt.merge false true false (Dt.set a) (Dt.set b))) := by
  have hale := ha.le
  have hble := hb.le
  refine enter (args := [va, vb]) (n := 15) Tryd.func28 rfl rfl (Nat.le_of_ble_eq_true rfl) ?_
  refine C.seqK fun K1 hK1 => ?_
  refine C.region ?_
  refine O.alloc Tryd.zeroValue35 (fun b4 w1 hb4 hz4 e1 => ?_)
  have z1 := e1.size
  have h4 := hz4.own
  have hl4 := h4.lt
  refine O.nil ?_
  refine hK1 _ _ ?_
  refine C.seqK fun K2 hK2 => ?_
  refine C.region ?_
  refine O.makeF (v1 := []) rfl rfl ?_
  refine O.asg ?_
  refine O.asg ?_
  refine O.nil ?_
  refine hK2 _ _ ?_
  refine C.seqK fun K3 hK3 => ?_
  refine C.region ?_
  refine O.mv ?_
  refine O.mv ?_
  refine O.mv ?_
  refine O.mv ?_
  refine O.mv ?_
  refine O.call Tryd.call39 (args5 rfl rfl rfl rfl rfl) (parts_spec va a vb b _ _ 43 42 43 [] [.pointer (some ⟨b4, 0, none⟩)] [] false true false b4 _ (ha.keep e1) (hb.keep e1) hn hm h4 (clo_dropB b4) (clo_keepB b4) (clo_dropB b4)) ?_
  rintro v_13 w2 ⟨rfl, ⟨vov13, Bv13, hov13, hlv13, hBv13⟩, e2⟩
  have z2 := e2.size
  refine O.nil ?_
  refine hK3 _ _ ?_
  refine C.seqK fun K4 hK4 => ?_
  refine C.region ?_
  refine O.loadO Tryd.isAgg35 rfl hov13 rfl ?_
  refine O.store Tryd.sizeOf35 rfl rfl hlv13.one hov13 (by simp) (fun w3 hs3 e3 z3 => ?_)
  try simp only [Int.toNat_natCast, Nat.zero_add, Nat.mul_one] at hs3
  refine O.nil ?_
  refine hK4 _ _ ?_
  refine C.ret ?_
  refine Outs.cell1 rfl Tryd.isAgg35 rfl hs3 ?_
  exact ⟨(Ext.new (Ext.new e1 e2 (by rintro i hi rfl; omega)) e3 (by rintro i hi rfl; omega)), (hlv13.keepM e3 (by intro k hk h; have h0 : k = b4 := h; have := hlv13.bk_ge k hk; omega)).low (by omega)⟩


theorem dtext_ok (d : Dt.Dot) (w : World) (hd : Dt.Valid d) (htb : Tb w) : Ret Tryd.prog 29 #[Dt.dv d] w (fun v w' => v = .tuple #[str (Dt.text d), .int .i64 0] ∧ Le w w') :=
  (dtext_spec d w htb).mono fun _ _ h => ⟨h.1.trans (if_pos hd), h.2⟩
theorem dtext_no (d : Dt.Dot) (w : World) (hd : ¬ Dt.Valid d) (htb : Tb w) : Ret Tryd.prog 29 #[Dt.dv d] w (fun v w' => v = .tuple #[str [], .int .i64 2] ∧ Le w w') :=
  (dtext_spec d w htb).mono fun _ _ h => ⟨h.1.trans (if_neg hd), h.2⟩
theorem parse_ok (s : List UInt8) (d : Dt.Dot) (es er : Value) (w : World) (hl : s.length ≤ 281474976710656) (hp : Dt.pparse s = some d) (htb : Tb w) (hes : CellIs w 1 es) (her : CellIs w 2 er) (g1 : ∃ te pe, es = .iface te pe) (g2 : ∃ te pe, er = .iface te pe) : Ret Tryd.prog 31 #[str s] w (fun v w' => v = .tuple #[Dt.dv d, .int .i64 0] ∧ Le w w') :=
  (parse_spec s es er w hl htb hes her g1 g2).mono fun _ _ h => ⟨h.1.trans (congrArg Dt.gotE hp), h.2⟩
theorem parse_no (s : List UInt8) (es er : Value) (w : World) (hl : s.length ≤ 281474976710656) (hp : Dt.pparse s = none) (htb : Tb w) (hes : CellIs w 1 es) (her : CellIs w 2 er) (g1 : ∃ te pe, es = .iface te pe) (g2 : ∃ te pe, er = .iface te pe) : Ret Tryd.prog 31 #[str s] w (fun v w' => v = .tuple #[Dt.dv (0, 0), .int .i64 6] ∧ Le w w') :=
  (parse_spec s es er w hl htb hes her g1 g2).mono fun _ _ h => ⟨h.1.trans (congrArg Dt.gotE hp), h.2⟩

theorem texts_ok_spec (d : Dt.Dot) (w : World) (hd : Dt.Valid d) (htb : Tb w) :
    Ret Tryd.prog 11 #[Dt.dv (d), str (Dt.text d), .int .i64 (0)] w (fun v w' => v = .bool true ∧ Le w w') := by
  refine enter (args := [Dt.dv (d), str (Dt.text d), .int .i64 (0)]) (n := 22) Tryd.func11 rfl rfl (Nat.le_of_ble_eq_true rfl) ?_
  refine C.seqK fun K1 hK1 => ?_
  refine C.region ?_
  refine O.box (v := Dt.dv (d)) rfl (fun b3 w1 hb3 hz3 e1 => ?_)
  have z1 := e1.size
  have h3 := hz3.own
  have hl3 := h3.lt
  refine O.asg ?_
  refine O.nil ?_
  refine hK1 _ _ ?_
  refine C.seqK fun K2 hK2 => ?_
  refine C.region ?_
  refine O.loadOA Tryd.isAgg23 Tryd.sizeOf23 rfl h3 (Nat.le_of_ble_eq_true rfl) ?_
  refine O.call Tryd.call29 (args1 rfl) (dtext_ok d _ hd (htb.keep e1)) ?_
  rintro v_11 w2 ⟨rfl, e2⟩
  have z2 := e2.size
  refine O.mv ?_
  refine O.extract rfl rfl ?_
  refine O.extract rfl rfl ?_
  refine O.asg ?_
  refine O.asg ?_
  refine O.nil ?_
  refine hK2 _ _ ?_
  refine C.seqK fun K3 hK3 => ?_
  refine C.region ?_
  refine O.mv ?_
  refine O.mv ?_
  refine O.eqlS rfl rfl ?_
  refine O.cast (v' := .bool true) (congrArg Value.bool (by exact decide_eq_true rfl)) ?_
  refine O.mv ?_
  refine O.yes rfl rfl ?_
  refine O.mv ?_
  refine O.yes rfl rfl ?_
  refine O.mv ?_
  refine O.yes rfl rfl ?_
  refine O.eqlI rfl rfl ?_
  refine O.cast (v' := .bool true) (congrArg Value.bool (by exact decide_eq_true rfl)) ?_
  refine O.pickT rfl ?_
  refine O.asg ?_
  refine O.nil ?_
  refine hK3 _ _ ?_
  refine C.ret ?_
  refine Outs.one rfl rfl ?_
  exact ⟨rfl, (Ext.trans e1 e2)⟩

theorem texts_no_spec (d : Dt.Dot) (w : World) (hd : ¬ Dt.Valid d) (htb : Tb w) :
    Ret Tryd.prog 11 #[Dt.dv (d), str ([]), .int .i64 (2)] w (fun v w' => v = .bool true ∧ Le w w') := by
  refine enter (args := [Dt.dv (d), str ([]), .int .i64 (2)]) (n := 22) Tryd.func11 rfl rfl (Nat.le_of_ble_eq_true rfl) ?_
  refine C.seqK fun K1 hK1 => ?_
  refine C.region ?_
  refine O.box (v := Dt.dv (d)) rfl (fun b3 w1 hb3 hz3 e1 => ?_)
  have z1 := e1.size
  have h3 := hz3.own
  have hl3 := h3.lt
  refine O.asg ?_
  refine O.nil ?_
  refine hK1 _ _ ?_
  refine C.seqK fun K2 hK2 => ?_
  refine C.region ?_
  refine O.loadOA Tryd.isAgg23 Tryd.sizeOf23 rfl h3 (Nat.le_of_ble_eq_true rfl) ?_
  refine O.call Tryd.call29 (args1 rfl) (dtext_no d _ hd (htb.keep e1)) ?_
  rintro v_11 w2 ⟨rfl, e2⟩
  have z2 := e2.size
  refine O.mv ?_
  refine O.extract rfl rfl ?_
  refine O.extract rfl rfl ?_
  refine O.asg ?_
  refine O.asg ?_
  refine O.nil ?_
  refine hK2 _ _ ?_
  refine C.seqK fun K3 hK3 => ?_
  refine C.region ?_
  refine O.mv ?_
  refine O.mv ?_
  refine O.eqlS rfl rfl ?_
  refine O.cast (v' := .bool true) (congrArg Value.bool (by exact decide_eq_true rfl)) ?_
  refine O.mv ?_
  refine O.yes rfl rfl ?_
  refine O.mv ?_
  refine O.yes rfl rfl ?_
  refine O.mv ?_
  refine O.yes rfl rfl ?_
  refine O.eqlI rfl rfl ?_
  refine O.cast (v' := .bool true) (congrArg Value.bool (by exact decide_eq_true rfl)) ?_
  refine O.pickT rfl ?_
  refine O.asg ?_
  refine O.nil ?_
  refine hK3 _ _ ?_
  refine C.ret ?_
  refine Outs.one rfl rfl ?_
  exact ⟨rfl, (Ext.trans e1 e2)⟩

theorem parses_ok_spec (s : List UInt8) (d : Dt.Dot) (es er : Value) (w : World) (hl : s.length ≤ 281474976710656) (hp : Dt.pparse s = some d) (htb : Tb w) (hes : CellIs w 1 es) (her : CellIs w 2 er) (g1 : ∃ te pe, es = .iface te pe) (g2 : ∃ te pe, er = .iface te pe) :
    Ret Tryd.prog 14 #[str (s), Dt.dv (d), .int .i64 (0)] w (fun v w' => v = .bool true ∧ Le w w') := by
  refine enter (args := [str (s), Dt.dv (d), .int .i64 (0)]) (n := 22) Tryd.func14 rfl rfl (Nat.le_of_ble_eq_true rfl) ?_
  refine C.seqK fun K1 hK1 => ?_
  refine C.region ?_
  refine O.box (v := Dt.dv (d)) rfl (fun b4 w1 hb4 hz4 e1 => ?_)
  have z1 := e1.size
  have h4 := hz4.own
  have hl4 := h4.lt
  refine O.asg ?_
  refine O.nil ?_
  refine hK1 _ _ ?_
  refine C.seqK fun K2 hK2 => ?_
  refine C.region ?_
  refine O.mv ?_
  refine O.call Tryd.call31 (args1 rfl) (parse_ok s d es er _ hl hp (htb.keep e1) (hes.keep e1) (her.keep e1) g1 g2) ?_
  rintro v_11 w2 ⟨rfl, e2⟩
  have z2 := e2.size
  refine O.mv ?_
  refine O.extract rfl rfl ?_
  refine O.extract rfl rfl ?_
  refine O.alloc Tryd.zeroValue23 (fun b7 w3 hb7 hz7 e3 => ?_)
  have z3 := e3.size
  have h7 := hz7.own
  have hl7 := h7.lt
  refine O.storeA (vs := [.int .i64 (d.1), .int .i64 (d.2)]) Tryd.sizeOf23 rfl rfl rfl (by simp [Value.oneCell']) h7 (Nat.le_of_ble_eq_true rfl) (fun w4 hs4 e4 z4 => ?_)
  refine O.asg ?_
  refine O.nil ?_
  refine hK2 _ _ ?_
  refine C.seqK fun K3 hK3 => ?_
  refine C.region ?_
  refine O.loadOA Tryd.isAgg23 Tryd.sizeOf23 rfl hs4 (Nat.le_of_ble_eq_true rfl) ?_
  refine O.loadOA Tryd.isAgg23 Tryd.sizeOf23 rfl (((h4.keep e2).keep e3).keepM e4 (by omega)) (Nat.le_of_ble_eq_true rfl) ?_
  refine O.eqlP (a := d) (b := d) Tryd.underlying23 (by decide) (by decide) rfl rfl Tryd.underlying3 Tryd.underlying3 Tryd.isAgg3 Tryd.isAgg3 (by kernel_rfl) (by kernel_rfl) rfl rfl ?_
  refine O.cast (v' := .bool true) (congrArg Value.bool (by exact decide_eq_true rfl)) ?_
  refine O.mv ?_
  refine O.yes rfl rfl ?_
  refine O.mv ?_
  refine O.yes rfl rfl ?_
  refine O.mv ?_
  refine O.yes rfl rfl ?_
  refine O.eqlI rfl rfl ?_
  refine O.cast (v' := .bool true) (congrArg Value.bool (by exact decide_eq_true rfl)) ?_
  refine O.pickT rfl ?_
  refine O.asg ?_
  refine O.nil ?_
  refine hK3 _ _ ?_
  refine C.ret ?_
  refine Outs.one rfl rfl ?_
  exact ⟨rfl, (Ext.new (Ext.trans (Ext.trans e1 e2) e3) e4 (by rintro i hi rfl; omega))⟩

theorem parses_no_spec (s : List UInt8) (es er : Value) (w : World) (hl : s.length ≤ 281474976710656) (hp : Dt.pparse s = none) (htb : Tb w) (hes : CellIs w 1 es) (her : CellIs w 2 er) (g1 : ∃ te pe, es = .iface te pe) (g2 : ∃ te pe, er = .iface te pe) :
    Ret Tryd.prog 14 #[str (s), Dt.dv ((0, 0)), .int .i64 (6)] w (fun v w' => v = .bool true ∧ Le w w') := by
  refine enter (args := [str (s), Dt.dv ((0, 0)), .int .i64 (6)]) (n := 22) Tryd.func14 rfl rfl (Nat.le_of_ble_eq_true rfl) ?_
  refine C.seqK fun K1 hK1 => ?_
  refine C.region ?_
  refine O.box (v := Dt.dv ((0, 0))) rfl (fun b4 w1 hb4 hz4 e1 => ?_)
  have z1 := e1.size
  have h4 := hz4.own
  have hl4 := h4.lt
  refine O.asg ?_
  refine O.nil ?_
  refine hK1 _ _ ?_
  refine C.seqK fun K2 hK2 => ?_
  refine C.region ?_
  refine O.mv ?_
  refine O.call Tryd.call31 (args1 rfl) (parse_no s es er _ hl hp (htb.keep e1) (hes.keep e1) (her.keep e1) g1 g2) ?_
  rintro v_11 w2 ⟨rfl, e2⟩
  have z2 := e2.size
  refine O.mv ?_
  refine O.extract rfl rfl ?_
  refine O.extract rfl rfl ?_
  refine O.alloc Tryd.zeroValue23 (fun b7 w3 hb7 hz7 e3 => ?_)
  have z3 := e3.size
  have h7 := hz7.own
  have hl7 := h7.lt
  refine O.storeA (vs := [.int .i64 (0), .int .i64 (0)]) Tryd.sizeOf23 rfl rfl rfl (by simp [Value.oneCell']) h7 (Nat.le_of_ble_eq_true rfl) (fun w4 hs4 e4 z4 => ?_)
  refine O.asg ?_
  refine O.nil ?_
  refine hK2 _ _ ?_
  refine C.seqK fun K3 hK3 => ?_
  refine C.region ?_
  refine O.loadOA Tryd.isAgg23 Tryd.sizeOf23 rfl hs4 (Nat.le_of_ble_eq_true rfl) ?_
  refine O.loadOA Tryd.isAgg23 Tryd.sizeOf23 rfl (((h4.keep e2).keep e3).keepM e4 (by omega)) (Nat.le_of_ble_eq_true rfl) ?_
  refine O.eqlP (a := (0, 0)) (b := (0, 0)) Tryd.underlying23 (by decide) (by decide) rfl rfl Tryd.underlying3 Tryd.underlying3 Tryd.isAgg3 Tryd.isAgg3 (by kernel_rfl) (by kernel_rfl) rfl rfl ?_
  refine O.cast (v' := .bool true) (congrArg Value.bool (by exact decide_eq_true rfl)) ?_
  refine O.mv ?_
  refine O.yes rfl rfl ?_
  refine O.mv ?_
  refine O.yes rfl rfl ?_
  refine O.mv ?_
  refine O.yes rfl rfl ?_
  refine O.eqlI rfl rfl ?_
  refine O.cast (v' := .bool true) (congrArg Value.bool (by exact decide_eq_true rfl)) ?_
  refine O.pickT rfl ?_
  refine O.asg ?_
  refine O.nil ?_
  refine hK3 _ _ ?_
  refine C.ret ?_
  refine Outs.one rfl rfl ?_
  exact ⟨rfl, (Ext.new (Ext.trans (Ext.trans e1 e2) e3) e4 (by rintro i hi rfl; omega))⟩

set_option maxHeartbeats 4000000 in
theorem known_spec (es er : Value) (w : World) (htb : Tb w) (hes : CellIs w 1 es) (her : CellIs w 2 er) (g1 : ∃ te pe, es = .iface te pe) (g2 : ∃ te pe, er = .iface te pe) :
    Ret Tryd.prog 10 #[] w (fun v w' => v = .bool true ∧ Le w w') := by
  obtain ⟨ie23, ti23, ts23, tb23, tz23⟩ := inf23
  refine enter (args := []) (n := 116) Tryd.func10 rfl rfl (Nat.le_of_ble_eq_true rfl) ?_
  refine C.seqK fun K1 hK1 => ?_
  refine C.region ?_
  refine O.asg ?_
  refine O.nil ?_
  refine hK1 _ _ ?_
  refine C.seqK fun K2 hK2 => ?_
  refine C.region ?_
  refine O.call Tryd.call25 (args2 rfl rfl) (of_spec 3 7 _) ?_
  rintro v_8 w1 ⟨rfl, e1⟩
  have z1 := e1.size
  refine O.call Tryd.call25 (args2 rfl rfl) (of_spec 5 6 _) ?_
  rintro v_9 w2 ⟨rfl, e2⟩
  have z2 := e2.size
  refine O.call Tryd.call25 (args2 rfl rfl) (of_spec 5 7 _) ?_
  rintro v_10 w3 ⟨rfl, e3⟩
  have z3 := e3.size
  refine O.build (cells := #[.int .i64 0, .int .i64 0]) rfl (by kernel_rfl) ?_
  refine O.alloc Tryd.zeroValue23 (fun b1 w4 hb1 hz1 e4 => ?_)
  have z4 := e4.size
  have h1 := hz1.own
  have hl1 := h1.lt
  refine O.alloc Tryd.zeroValue23 (fun b2 w5 hb2 hz2 e5 => ?_)
  have z5 := e5.size
  have h2 := hz2.own
  have hl2 := h2.lt
  refine O.alloc Tryd.zeroValue23 (fun b3 w6 hb3 hz3 e6 => ?_)
  have z6 := e6.size
  have h3 := hz3.own
  have hl3 := h3.lt
  refine O.alloc Tryd.zeroValue23 (fun b4 w7 hb4 hz4 e7 => ?_)
  have z7 := e7.size
  have h4 := hz4.own
  have hl4 := h4.lt
  refine O.storeA (vs := [.int .i64 (3), .int .i64 (7)]) Tryd.sizeOf23 rfl rfl rfl (by simp [Value.oneCell']) (((h1.keep e5).keep e6).keep e7) (Nat.le_of_ble_eq_true rfl) (fun w8 hs8 e8 z8 => ?_)
  refine O.storeA (vs := [.int .i64 (5), .int .i64 (6)]) Tryd.sizeOf23 rfl rfl rfl (by simp [Value.oneCell']) (((h2.keep e6).keep e7).keepM e8 (by omega)) (Nat.le_of_ble_eq_true rfl) (fun w9 hs9 e9 z9 => ?_)
  refine O.storeA (vs := [.int .i64 (5), .int .i64 (7)]) Tryd.sizeOf23 rfl rfl rfl (by simp [Value.oneCell']) (((h3.keep e7).keepM e8 (by omega)).keepM e9 (by omega)) (Nat.le_of_ble_eq_true rfl) (fun w10 hs10 e10 z10 => ?_)
  refine O.storeA (vs := [.int .i64 (0), .int .i64 (0)]) Tryd.sizeOf23 rfl rfl rfl (by simp [Value.oneCell']) (((h4.keepM e8 (by omega)).keepM e9 (by omega)).keepM e10 (by omega)) (Nat.le_of_ble_eq_true rfl) (fun w11 hs11 e11 z11 => ?_)
  refine O.nil ?_
  refine hK2 _ _ ?_
  refine C.seqK fun K3 hK3 => ?_
  refine C.seqK fun K4 hK4 => ?_
  refine C.region ?_
  refine O.loadOA Tryd.isAgg23 Tryd.sizeOf23 rfl (((hs8.keepM e9 (by omega)).keepM e10 (by omega)).keepM e11 (by omega)) (Nat.le_of_ble_eq_true rfl) ?_
  refine O.loadOA Tryd.isAgg23 Tryd.sizeOf23 rfl ((hs9.keepM e10 (by omega)).keepM e11 (by omega)) (Nat.le_of_ble_eq_true rfl) ?_
  refine O.call Tryd.call8 (args2 rfl rfl) (cmp_spec (3, 7) (5, 6) _) ?_
  rintro v_14 w12 ⟨rfl, e12, _⟩
  have z12 := e12.size
  refine O.neqI rfl rfl ?_
  refine O.cast (v' := .bool false) (congrArg Value.bool (by decide)) ?_
  refine O.mv ?_
  refine O.yes rfl rfl ?_
  refine O.loadOA Tryd.isAgg23 Tryd.sizeOf23 rfl ((((hs8.keepM e9 (by omega)).keepM e10 (by omega)).keepM e11 (by omega)).keep e12) (Nat.le_of_ble_eq_true rfl) ?_
  refine O.yes rfl rfl ?_
  refine O.loadOA Tryd.isAgg23 Tryd.sizeOf23 rfl ((hs10.keepM e11 (by omega)).keep e12) (Nat.le_of_ble_eq_true rfl) ?_
  refine O.yes rfl rfl ?_
  refine O.call Tryd.call8 (args2 rfl rfl) (cmp_spec (3, 7) (5, 7) _) ?_
  rintro v_19 w13 ⟨rfl, e13, _⟩
  have z13 := e13.size
  refine O.yes rfl rfl ?_
  refine O.neqI rfl rfl ?_
  refine O.cast (v' := .bool false) (congrArg Value.bool (by decide)) ?_
  refine O.pickF rfl ?_
  refine O.mv ?_
  refine O.yes rfl rfl ?_
  refine O.loadOA Tryd.isAgg23 Tryd.sizeOf23 rfl (((((hs8.keepM e9 (by omega)).keepM e10 (by omega)).keepM e11 (by omega)).keep e12).keep e13) (Nat.le_of_ble_eq_true rfl) ?_
  refine O.yes rfl rfl ?_
  refine O.loadOA Tryd.isAgg23 Tryd.sizeOf23 rfl (((((hs8.keepM e9 (by omega)).keepM e10 (by omega)).keepM e11 (by omega)).keep e12).keep e13) (Nat.le_of_ble_eq_true rfl) ?_
  refine O.yes rfl rfl ?_
  refine O.call Tryd.call8 (args2 rfl rfl) (cmp_spec (3, 7) (3, 7) _) ?_
  rintro v_25 w14 ⟨rfl, e14, _⟩
  have z14 := e14.size
  refine O.yes rfl rfl ?_
  refine O.neqI rfl rfl ?_
  refine O.cast (v' := .bool false) (congrArg Value.bool (by decide)) ?_
  refine O.pickF rfl ?_
  refine O.mv ?_
  refine O.yes rfl rfl ?_
  refine O.loadOA Tryd.isAgg23 Tryd.sizeOf23 rfl (((((hs9.keepM e10 (by omega)).keepM e11 (by omega)).keep e12).keep e13).keep e14) (Nat.le_of_ble_eq_true rfl) ?_
  refine O.yes rfl rfl ?_
  refine O.loadOA Tryd.isAgg23 Tryd.sizeOf23 rfl ((((((hs8.keepM e9 (by omega)).keepM e10 (by omega)).keepM e11 (by omega)).keep e12).keep e13).keep e14) (Nat.le_of_ble_eq_true rfl) ?_
  refine O.yes rfl rfl ?_
  refine O.loadOA Tryd.isAgg23 Tryd.sizeOf23 rfl ((((hs10.keepM e11 (by omega)).keep e12).keep e13).keep e14) (Nat.le_of_ble_eq_true rfl) ?_
  refine O.yes rfl rfl ?_
  refine O.litG (G := Dt.dotF) [(5, 6), (3, 7), (5, 7)] Tryd.underlying35 ti23 ts23 tz23 rfl (by decide) (by decide) rfl (fun b32 w15 hb32 hz32 e15 => ?_)
  have z15 := e15.size
  have h32 := hz32.own
  have hq32 := Sl.litG (n := 3) h32 rfl (by unfold maxLen; omega)
  refine O.yes rfl rfl ?_
  refine O.call Tryd.call16 (args1 rfl) (isSet_spec _ _ _ _ hq32) ?_
  rintro v_33 w16 ⟨rfl, e16⟩
  have z16 := e16.size
  refine O.cast (v' := .bool true) (congrArg Value.bool (by decide)) ?_
  refine O.yes rfl rfl ?_
  refine O.not rfl ?_
  refine O.cast (v' := .bool false) rfl ?_
  refine O.pickF rfl ?_
  refine O.mv ?_
  refine O.yes rfl rfl ?_
  refine O.loadOA Tryd.isAgg23 Tryd.sizeOf23 rfl ((((((((hs8.keepM e9 (by omega)).keepM e10 (by omega)).keepM e11 (by omega)).keep e12).keep e13).keep e14).keep e15).keep e16) (Nat.le_of_ble_eq_true rfl) ?_
  refine O.yes rfl rfl ?_
  refine O.loadOA Tryd.isAgg23 Tryd.sizeOf23 rfl ((((((((hs8.keepM e9 (by omega)).keepM e10 (by omega)).keepM e11 (by omega)).keep e12).keep e13).keep e14).keep e15).keep e16) (Nat.le_of_ble_eq_true rfl) ?_
  refine O.yes rfl rfl ?_
  refine O.litG (G := Dt.dotF) [(3, 7), (3, 7)] Tryd.underlying35 ti23 ts23 tz23 rfl (by decide) (by decide) rfl (fun b39 w17 hb39 hz39 e17 => ?_)
  have z17 := e17.size
  have h39 := hz39.own
  have hq39 := Sl.litG (n := 2) h39 rfl (by unfold maxLen; omega)
  refine O.yes rfl rfl ?_
  refine O.call Tryd.call16 (args1 rfl) (isSet_spec _ _ _ _ hq39) ?_
  rintro v_40 w18 ⟨rfl, e18⟩
  have z18 := e18.size
  refine O.cast (v' := .bool false) (congrArg Value.bool (by decide)) ?_
  refine O.pickF rfl ?_
  refine O.mv ?_
  refine O.yes rfl rfl ?_
  refine O.call Tryd.call16 (args1 rfl) (isSet_spec _ [] (fun _ => False) _ (Sl.nil _ _ _)) ?_
  rintro v_43 w19 ⟨rfl, e19⟩
  have z19 := e19.size
  refine O.cast (v' := .bool true) (congrArg Value.bool (by decide)) ?_
  refine O.yes rfl rfl ?_
  refine O.not rfl ?_
  refine O.cast (v' := .bool false) rfl ?_
  refine O.pickF rfl ?_
  refine O.nil ?_
  refine hK4 _ _ ?_
  refine C.condF rfl ?_
  refine C.skip ?_
  refine hK3 _ _ ?_
  refine C.seqK fun K5 hK5 => ?_
  refine C.join (fun f w f' w' => Le w w' ∧ f' 0 = f 0 ∧ f' 1 = f 1 ∧ f' 2 = f 2 ∧ f' 3 = f 3 ∧ f' 4 = f 4 ∧ ∃ (v5 : Value) (v6 : Value) (v7 : Value) (F5 : Nat → Prop) (F6 : Nat → Prop) (F7 : Nat → Prop), f' 5 = v5 ∧ f' 6 = v6 ∧ f' 7 = v7 ∧ Sl Dt.dotF.enc w' F5 v5 [(5, 6), (3, 7), (5, 7)] ∧ Sl Dt.dotF.enc w' F6 v6 [(5, 7), (3, 7)] ∧ Sl Dt.dotF.enc w' F7 v7 [(5, 6), (3, 7)]) ?_ ?_
  ·
    refine C.draw (by kernel_rfl) fun w20 e20 => ?_
    have z20 := e20.size
    refine D.take (i := 0) rfl rfl rfl rfl (by kernel_rfl) (Le.refl _) ⟨_, rfl⟩ (fun w_ hw_ N_ hN => (O.loadOA Tryd.isAgg23 Tryd.sizeOf23 rfl ((((((((((((hs9.keepM e10 (by omega)).keepM e11 (by omega)).keep e12).keep e13).keep e14).keep e15).keep e16).keep e17).keep e18).keep e19).keep e20).keep hw_) (Nat.le_of_ble_eq_true rfl) (O.nil hN))) ?_
    refine D.take (i := 1) rfl rfl rfl rfl (by kernel_rfl) (Le.refl _) ⟨_, rfl⟩ (fun w_ hw_ N_ hN => (O.loadOA Tryd.isAgg23 Tryd.sizeOf23 rfl (((((((((((((hs8.keepM e9 (by omega)).keepM e10 (by omega)).keepM e11 (by omega)).keep e12).keep e13).keep e14).keep e15).keep e16).keep e17).keep e18).keep e19).keep e20).keep hw_) (Nat.le_of_ble_eq_true rfl) (O.nil hN))) ?_
    refine D.take (i := 2) rfl rfl rfl rfl (by kernel_rfl) (Le.refl _) ⟨_, rfl⟩ (fun w_ hw_ N_ hN => (O.loadOA Tryd.isAgg23 Tryd.sizeOf23 rfl (((((((((((hs10.keepM e11 (by omega)).keep e12).keep e13).keep e14).keep e15).keep e16).keep e17).keep e18).keep e19).keep e20).keep hw_) (Nat.le_of_ble_eq_true rfl) (O.nil hN))) ?_
    refine D.take (i := 4) rfl rfl rfl rfl (by kernel_rfl) (Le.refl _) ⟨_, rfl⟩ (fun w_ hw_ N_ hN => (O.loadOA Tryd.isAgg23 Tryd.sizeOf23 rfl (((((((((((hs10.keepM e11 (by omega)).keep e12).keep e13).keep e14).keep e15).keep e16).keep e17).keep e18).keep e19).keep e20).keep hw_) (Nat.le_of_ble_eq_true rfl) (O.nil hN))) ?_
    refine D.take (i := 5) rfl rfl rfl rfl (by kernel_rfl) (Le.refl _) ⟨_, rfl⟩ (fun w_ hw_ N_ hN => (O.loadOA Tryd.isAgg23 Tryd.sizeOf23 rfl (((((((((((((hs8.keepM e9 (by omega)).keepM e10 (by omega)).keepM e11 (by omega)).keep e12).keep e13).keep e14).keep e15).keep e16).keep e17).keep e18).keep e19).keep e20).keep hw_) (Nat.le_of_ble_eq_true rfl) (O.nil hN))) ?_
    refine D.take (i := 7) rfl rfl rfl rfl (by kernel_rfl) (Le.refl _) ⟨_, rfl⟩ (fun w_ hw_ N_ hN => (O.loadOA Tryd.isAgg23 Tryd.sizeOf23 rfl ((((((((((((hs9.keepM e10 (by omega)).keepM e11 (by omega)).keep e12).keep e13).keep e14).keep e15).keep e16).keep e17).keep e18).keep e19).keep e20).keep hw_) (Nat.le_of_ble_eq_true rfl) (O.nil hN))) ?_
    refine D.take (i := 8) rfl rfl rfl rfl (by kernel_rfl) (Le.refl _) ⟨_, rfl⟩ (fun w_ hw_ N_ hN => (O.loadOA Tryd.isAgg23 Tryd.sizeOf23 rfl (((((((((((((hs8.keepM e9 (by omega)).keepM e10 (by omega)).keepM e11 (by omega)).keep e12).keep e13).keep e14).keep e15).keep e16).keep e17).keep e18).keep e19).keep e20).keep hw_) (Nat.le_of_ble_eq_true rfl) (O.nil hN))) ?_
    refine D.many [3, 6, 9] (by kernel_rfl) (by decide) ⟨?_, ?_, ?_, trivial⟩
    ·
      refine D.stepU rfl rfl ?_
      refine O.litG (G := Dt.dotF) [(5, 6), (3, 7), (5, 7)] Tryd.underlying35 ti23 ts23 tz23 rfl (by decide) (by decide) rfl (fun b49 w21 hb49 hz49 e21 => ?_)
      have z21 := e21.size
      have h49 := hz49.own
      have hq49 := Sl.litG (n := 3) h49 rfl (by unfold maxLen; omega)
      refine O.nil ⟨e21, ?_⟩
      refine D.take (i := 10) rfl rfl rfl rfl (by kernel_rfl) e21 ⟨pure _, rfl⟩ (fun w_ hw_ N_ hN => (O.asg (O.nil hN))) ?_
      refine D.many [6, 9] (by kernel_rfl) (by decide) ⟨?_, ?_, trivial⟩
      ·
        refine D.stepU rfl rfl ?_
        refine O.litG (G := Dt.dotF) [(5, 7), (3, 7)] Tryd.underlying35 ti23 ts23 tz23 rfl (by decide) (by decide) rfl (fun b52 w22 hb52 hz52 e22 => ?_)
        have z22 := e22.size
        have h52 := hz52.own
        have hq52 := Sl.litG (n := 2) h52 rfl (by unfold maxLen; omega)
        refine O.nil ⟨(Ext.trans e21 e22), ?_⟩
        refine D.take (i := 11) rfl rfl rfl rfl (by kernel_rfl) (Ext.trans e21 e22) ⟨pure _, rfl⟩ (fun w_ hw_ N_ hN => (O.asg (O.nil hN))) ?_
        refine D.one (i := 9) rfl rfl (by kernel_rfl) ?_
        refine O.litG (G := Dt.dotF) [(5, 6), (3, 7)] Tryd.underlying35 ti23 ts23 tz23 rfl (by decide) (by decide) rfl (fun b55 w23 hb55 hz55 e23 => ?_)
        have z23 := e23.size
        have h55 := hz55.own
        have hq55 := Sl.litG (n := 2) h55 rfl (by unfold maxLen; omega)
        refine O.nil ⟨(Ext.trans (Ext.trans e21 e22) e23), ?_⟩
        refine D.take (i := 12) rfl rfl rfl rfl (by kernel_rfl) (Ext.trans (Ext.trans e21 e22) e23) ⟨pure _, rfl⟩ (fun w_ hw_ N_ hN => (O.asg (O.nil hN))) ?_
        refine D.done (by kernel_rfl) ?_
        exact ⟨(Ext.trans (Ext.trans (Ext.trans e20 e21) e22) e23), rfl, rfl, rfl, rfl, rfl, ⟨_, _, _, _, _, _, rfl, rfl, rfl, ((hq49.keep e22).keep e23), (hq52.keep e23), hq55⟩⟩
      ·
        refine D.stepU rfl rfl ?_
        refine O.litG (G := Dt.dotF) [(5, 6), (3, 7)] Tryd.underlying35 ti23 ts23 tz23 rfl (by decide) (by decide) rfl (fun b55 w24 hb55 hz55 e24 => ?_)
        have z24 := e24.size
        have h55 := hz55.own
        have hq55 := Sl.litG (n := 2) h55 rfl (by unfold maxLen; omega)
        refine O.nil ⟨(Ext.trans e21 e24), ?_⟩
        refine D.one (i := 6) rfl rfl (by kernel_rfl) ?_
        refine O.litG (G := Dt.dotF) [(5, 7), (3, 7)] Tryd.underlying35 ti23 ts23 tz23 rfl (by decide) (by decide) rfl (fun b52 w25 hb52 hz52 e25 => ?_)
        have z25 := e25.size
        have h52 := hz52.own
        have hq52 := Sl.litG (n := 2) h52 rfl (by unfold maxLen; omega)
        refine O.nil ⟨(Ext.trans (Ext.trans e21 e24) e25), ?_⟩
        refine D.take (i := 11) rfl rfl rfl rfl (by kernel_rfl) (Ext.trans (Ext.trans e21 e24) e25) ⟨pure _, rfl⟩ (fun w_ hw_ N_ hN => (O.asg (O.nil hN))) ?_
        refine D.take (i := 12) rfl rfl rfl rfl (by kernel_rfl) (Ext.trans (Ext.trans e21 e24) e25) ⟨pure _, rfl⟩ (fun w_ hw_ N_ hN => (O.asg (O.nil hN))) ?_
        refine D.done (by kernel_rfl) ?_
        exact ⟨(Ext.trans (Ext.trans (Ext.trans e20 e21) e24) e25), rfl, rfl, rfl, rfl, rfl, ⟨_, _, _, _, _, _, rfl, rfl, rfl, ((hq49.keep e24).keep e25), hq52, (hq55.keep e25)⟩⟩
    ·
      refine D.stepU rfl rfl ?_
      refine O.litG (G := Dt.dotF) [(5, 7), (3, 7)] Tryd.underlying35 ti23 ts23 tz23 rfl (by decide) (by decide) rfl (fun b52 w26 hb52 hz52 e26 => ?_)
      have z26 := e26.size
      have h52 := hz52.own
      have hq52 := Sl.litG (n := 2) h52 rfl (by unfold maxLen; omega)
      refine O.nil ⟨e26, ?_⟩
      refine D.many [3, 9] (by kernel_rfl) (by decide) ⟨?_, ?_, trivial⟩
      ·
        refine D.stepU rfl rfl ?_
        refine O.litG (G := Dt.dotF) [(5, 6), (3, 7), (5, 7)] Tryd.underlying35 ti23 ts23 tz23 rfl (by decide) (by decide) rfl (fun b49 w27 hb49 hz49 e27 => ?_)
        have z27 := e27.size
        have h49 := hz49.own
        have hq49 := Sl.litG (n := 3) h49 rfl (by unfold maxLen; omega)
        refine O.nil ⟨(Ext.trans e26 e27), ?_⟩
        refine D.take (i := 10) rfl rfl rfl rfl (by kernel_rfl) (Ext.trans e26 e27) ⟨pure _, rfl⟩ (fun w_ hw_ N_ hN => (O.asg (O.nil hN))) ?_
        refine D.take (i := 11) rfl rfl rfl rfl (by kernel_rfl) (Ext.trans e26 e27) ⟨pure _, rfl⟩ (fun w_ hw_ N_ hN => (O.asg (O.nil hN))) ?_
        refine D.one (i := 9) rfl rfl (by kernel_rfl) ?_
        refine O.litG (G := Dt.dotF) [(5, 6), (3, 7)] Tryd.underlying35 ti23 ts23 tz23 rfl (by decide) (by decide) rfl (fun b55 w28 hb55 hz55 e28 => ?_)
        have z28 := e28.size
        have h55 := hz55.own
        have hq55 := Sl.litG (n := 2) h55 rfl (by unfold maxLen; omega)
        refine O.nil ⟨(Ext.trans (Ext.trans e26 e27) e28), ?_⟩
        refine D.take (i := 12) rfl rfl rfl rfl (by kernel_rfl) (Ext.trans (Ext.trans e26 e27) e28) ⟨pure _, rfl⟩ (fun w_ hw_ N_ hN => (O.asg (O.nil hN))) ?_
        refine D.done (by kernel_rfl) ?_
        exact ⟨(Ext.trans (Ext.trans (Ext.trans e20 e26) e27) e28), rfl, rfl, rfl, rfl, rfl, ⟨_, _, _, _, _, _, rfl, rfl, rfl, (hq49.keep e28), ((hq52.keep e27).keep e28), hq55⟩⟩
      ·
        refine D.stepU rfl rfl ?_
        refine O.litG (G := Dt.dotF) [(5, 6), (3, 7)] Tryd.underlying35 ti23 ts23 tz23 rfl (by decide) (by decide) rfl (fun b55 w29 hb55 hz55 e29 => ?_)
        have z29 := e29.size
        have h55 := hz55.own
        have hq55 := Sl.litG (n := 2) h55 rfl (by unfold maxLen; omega)
        refine O.nil ⟨(Ext.trans e26 e29), ?_⟩
        refine D.one (i := 3) rfl rfl (by kernel_rfl) ?_
        refine O.litG (G := Dt.dotF) [(5, 6), (3, 7), (5, 7)] Tryd.underlying35 ti23 ts23 tz23 rfl (by decide) (by decide) rfl (fun b49 w30 hb49 hz49 e30 => ?_)
        have z30 := e30.size
        have h49 := hz49.own
        have hq49 := Sl.litG (n := 3) h49 rfl (by unfold maxLen; omega)
        refine O.nil ⟨(Ext.trans (Ext.trans e26 e29) e30), ?_⟩
        refine D.take (i := 10) rfl rfl rfl rfl (by kernel_rfl) (Ext.trans (Ext.trans e26 e29) e30) ⟨pure _, rfl⟩ (fun w_ hw_ N_ hN => (O.asg (O.nil hN))) ?_
        refine D.take (i := 11) rfl rfl rfl rfl (by kernel_rfl) (Ext.trans (Ext.trans e26 e29) e30) ⟨pure _, rfl⟩ (fun w_ hw_ N_ hN => (O.asg (O.nil hN))) ?_
        refine D.take (i := 12) rfl rfl rfl rfl (by kernel_rfl) (Ext.trans (Ext.trans e26 e29) e30) ⟨pure _, rfl⟩ (fun w_ hw_ N_ hN => (O.asg (O.nil hN))) ?_
        refine D.done (by kernel_rfl) ?_
        exact ⟨(Ext.trans (Ext.trans (Ext.trans e20 e26) e29) e30), rfl, rfl, rfl, rfl, rfl, ⟨_, _, _, _, _, _, rfl, rfl, rfl, hq49, ((hq52.keep e29).keep e30), (hq55.keep e30)⟩⟩
    ·
      refine D.stepU rfl rfl ?_
      refine O.litG (G := Dt.dotF) [(5, 6), (3, 7)] Tryd.underlying35 ti23 ts23 tz23 rfl (by decide) (by decide) rfl (fun b55 w31 hb55 hz55 e31 => ?_)
      have z31 := e31.size
      have h55 := hz55.own
      have hq55 := Sl.litG (n := 2) h55 rfl (by unfold maxLen; omega)
      refine O.nil ⟨e31, ?_⟩
      refine D.many [3, 6] (by kernel_rfl) (by decide) ⟨?_, ?_, trivial⟩
      ·
        refine D.stepU rfl rfl ?_
        refine O.litG (G := Dt.dotF) [(5, 6), (3, 7), (5, 7)] Tryd.underlying35 ti23 ts23 tz23 rfl (by decide) (by decide) rfl (fun b49 w32 hb49 hz49 e32 => ?_)
        have z32 := e32.size
        have h49 := hz49.own
        have hq49 := Sl.litG (n := 3) h49 rfl (by unfold maxLen; omega)
        refine O.nil ⟨(Ext.trans e31 e32), ?_⟩
        refine D.take (i := 10) rfl rfl rfl rfl (by kernel_rfl) (Ext.trans e31 e32) ⟨pure _, rfl⟩ (fun w_ hw_ N_ hN => (O.asg (O.nil hN))) ?_
        refine D.one (i := 6) rfl rfl (by kernel_rfl) ?_
        refine O.litG (G := Dt.dotF) [(5, 7), (3, 7)] Tryd.underlying35 ti23 ts23 tz23 rfl (by decide) (by decide) rfl (fun b52 w33 hb52 hz52 e33 => ?_)
        have z33 := e33.size
        have h52 := hz52.own
        have hq52 := Sl.litG (n := 2) h52 rfl (by unfold maxLen; omega)
        refine O.nil ⟨(Ext.trans (Ext.trans e31 e32) e33), ?_⟩
        refine D.take (i := 11) rfl rfl rfl rfl (by kernel_rfl) (Ext.trans (Ext.trans e31 e32) e33) ⟨pure _, rfl⟩ (fun w_ hw_ N_ hN => (O.asg (O.nil hN))) ?_
        refine D.take (i := 12) rfl rfl rfl rfl (by kernel_rfl) (Ext.trans (Ext.trans e31 e32) e33) ⟨pure _, rfl⟩ (fun w_ hw_ N_ hN => (O.asg (O.nil hN))) ?_
        refine D.done (by kernel_rfl) ?_
        exact ⟨(Ext.trans (Ext.trans (Ext.trans e20 e31) e32) e33), rfl, rfl, rfl, rfl, rfl, ⟨_, _, _, _, _, _, rfl, rfl, rfl, (hq49.keep e33), hq52, ((hq55.keep e32).keep e33)⟩⟩
      ·
        refine D.stepU rfl rfl ?_
        refine O.litG (G := Dt.dotF) [(5, 7), (3, 7)] Tryd.underlying35 ti23 ts23 tz23 rfl (by decide) (by decide) rfl (fun b52 w34 hb52 hz52 e34 => ?_)
        have z34 := e34.size
        have h52 := hz52.own
        have hq52 := Sl.litG (n := 2) h52 rfl (by unfold maxLen; omega)
        refine O.nil ⟨(Ext.trans e31 e34), ?_⟩
        refine D.one (i := 3) rfl rfl (by kernel_rfl) ?_
        refine O.litG (G := Dt.dotF) [(5, 6), (3, 7), (5, 7)] Tryd.underlying35 ti23 ts23 tz23 rfl (by decide) (by decide) rfl (fun b49 w35 hb49 hz49 e35 => ?_)
        have z35 := e35.size
        have h49 := hz49.own
        have hq49 := Sl.litG (n := 3) h49 rfl (by unfold maxLen; omega)
        refine O.nil ⟨(Ext.trans (Ext.trans e31 e34) e35), ?_⟩
        refine D.take (i := 10) rfl rfl rfl rfl (by kernel_rfl) (Ext.trans (Ext.trans e31 e34) e35) ⟨pure _, rfl⟩ (fun w_ hw_ N_ hN => (O.asg (O.nil hN))) ?_
        refine D.take (i := 11) rfl rfl rfl rfl (by kernel_rfl) (Ext.trans (Ext.trans e31 e34) e35) ⟨pure _, rfl⟩ (fun w_ hw_ N_ hN => (O.asg (O.nil hN))) ?_
        refine D.take (i := 12) rfl rfl rfl rfl (by kernel_rfl) (Ext.trans (Ext.trans e31 e34) e35) ⟨pure _, rfl⟩ (fun w_ hw_ N_ hN => (O.asg (O.nil hN))) ?_
        refine D.done (by kernel_rfl) ?_
        exact ⟨(Ext.trans (Ext.trans (Ext.trans e20 e31) e34) e35), rfl, rfl, rfl, rfl, rfl, ⟨_, _, _, _, _, _, rfl, rfl, rfl, hq49, (hq52.keep e35), ((hq55.keep e34).keep e35)⟩⟩
  ·
    rintro f_1 w36 ⟨e_1, s0_1, s1_1, s2_1, s3_1, s4_1, ⟨v5, v6, v7, F5, F6, F7, s5_1, s6_1, s7_1, q0_1, q1_1, q2_1⟩⟩
    have z_1 := e_1.size
    refine hK5 _ _ ?_
    refine C.seqK fun K6 hK6 => ?_
    refine C.seqK fun K7 hK7 => ?_
    refine C.join (fun f w f' w' => Le w w' ∧ f' 0 = f 0 ∧ f' 1 = f 1 ∧ f' 4 = f 4 ∧ f' 90 = .bool false) ?_ ?_
    ·
      refine C.draw (by kernel_rfl) fun w37 e37 => ?_
      have z37 := e37.size
      refine D.take (i := 0) rfl rfl rfl rfl (by kernel_rfl) (Le.refl _) ⟨_, rfl⟩ (fun w_ hw_ N_ hN => (O.loadOA Tryd.isAgg23 Tryd.sizeOf23 s3_1 ((((((((((((hs10.keepM e11 (by omega)).keep e12).keep e13).keep e14).keep e15).keep e16).keep e17).keep e18).keep e19).keep e_1).keep e37).keep hw_) (Nat.le_of_ble_eq_true rfl) (O.nil hN))) ?_
      refine D.take (i := 1) rfl rfl rfl rfl (by kernel_rfl) (Le.refl _) ⟨_, rfl⟩ (fun w_ hw_ N_ hN => (O.loadOA Tryd.isAgg23 Tryd.sizeOf23 s1_1 ((((((((((((((hs8.keepM e9 (by omega)).keepM e10 (by omega)).keepM e11 (by omega)).keep e12).keep e13).keep e14).keep e15).keep e16).keep e17).keep e18).keep e19).keep e_1).keep e37).keep hw_) (Nat.le_of_ble_eq_true rfl) (O.nil hN))) ?_
      refine D.take (i := 2) rfl rfl rfl rfl (by kernel_rfl) (Le.refl _) ⟨_, rfl⟩ (fun w_ hw_ N_ hN => (O.loadOA Tryd.isAgg23 Tryd.sizeOf23 s2_1 (((((((((((((hs9.keepM e10 (by omega)).keepM e11 (by omega)).keep e12).keep e13).keep e14).keep e15).keep e16).keep e17).keep e18).keep e19).keep e_1).keep e37).keep hw_) (Nat.le_of_ble_eq_true rfl) (O.nil hN))) ?_
      refine D.take (i := 3) rfl rfl rfl rfl (by kernel_rfl) (Le.refl _) ⟨_, rfl⟩ (fun w_ hw_ N_ hN => (O.loadOA Tryd.isAgg23 Tryd.sizeOf23 s1_1 ((((((((((((((hs8.keepM e9 (by omega)).keepM e10 (by omega)).keepM e11 (by omega)).keep e12).keep e13).keep e14).keep e15).keep e16).keep e17).keep e18).keep e19).keep e_1).keep e37).keep hw_) (Nat.le_of_ble_eq_true rfl) (O.nil hN))) ?_
      refine D.take (i := 6) rfl rfl rfl rfl (by kernel_rfl) (Le.refl _) ⟨pure _, rfl⟩ (fun w_ hw_ N_ hN => (O.mv (O.nil hN))) ?_
      refine D.one (i := 4) rfl rfl (by kernel_rfl) ?_
      refine O.litG (G := Dt.dotF) [(5, 7), (3, 7), (5, 6), (3, 7)] Tryd.underlying35 ti23 ts23 tz23 rfl (by decide) (by decide) rfl (fun b60 w38 hb60 hz60 e38 => ?_)
      have z38 := e38.size
      have h60 := hz60.own
      have hq60 := Sl.litG (n := 4) h60 rfl (by unfold maxLen; omega)
      refine O.nil ⟨e38, ?_⟩
      refine D.one (i := 5) rfl rfl (by kernel_rfl) ?_
      refine O.call Tryd.call15 (args1 rfl) (set_spec _ _ _ _ hq60 (by simp)) ?_
      rintro v_61 w39 ⟨e39, h61⟩
      have z39 := e39.size
      refine O.nil ⟨(Ext.trans e38 e39), ?_⟩
      have h61s := h61.sl
      refine D.one (i := 7) rfl rfl (by kernel_rfl) ?_
      refine O.call Tryd.call18 (args2 rfl s5_1) (same_spec _ _ _ _ _ _ _ h61s (((q0_1.keep e37).keep e38).keep e39)) ?_
      rintro v_63 w40 ⟨rfl, e40⟩
      have z40 := e40.size
      refine O.nil ⟨(Ext.trans (Ext.trans e38 e39) e40), ?_⟩
      refine D.cast (v' := .bool true) (congrArg Value.bool (by decide +kernel)) ?_
      refine D.take (i := 8) rfl rfl rfl rfl (by kernel_rfl) (Ext.trans (Ext.trans e38 e39) e40) ⟨_, rfl⟩ (fun w_ hw_ N_ hN => (O.not rfl (O.cast (v' := .bool false) rfl (O.nil hN)))) ?_
      refine D.take (i := 9) rfl rfl rfl rfl (by kernel_rfl) (Ext.trans (Ext.trans e38 e39) e40) ⟨pure _, rfl⟩ (fun w_ hw_ N_ hN => (O.mv (O.nil hN))) ?_
      refine D.takeYes (i := 10) rfl rfl rfl (by kernel_rfl) rfl rfl (Ext.trans (Ext.trans e38 e39) e40) ⟨pure _, rfl⟩ (fun w_ hw_ N_ hN => (O.mv (O.nil hN))) ?_
      refine D.takeYes (i := 11) rfl rfl rfl (by kernel_rfl) rfl rfl (Ext.trans (Ext.trans e38 e39) e40) ⟨pure _, rfl⟩ (fun w_ hw_ N_ hN => (O.mv (O.nil hN))) ?_
      refine D.takeYes (i := 13) rfl rfl rfl (by kernel_rfl) rfl rfl (Ext.trans (Ext.trans e38 e39) e40) ⟨pure _, rfl⟩ (fun w_ hw_ N_ hN => (O.mv (O.nil hN))) ?_
      refine D.oneYes (i := 12) rfl rfl rfl (by kernel_rfl) ?_
      refine O.call Tryd.call26 (args2 s6_1 s7_1) (union_spec _ _ _ _ _ _ _ ((((q1_1.keep e37).keep e38).keep e39).keep e40) ((((q2_1.keep e37).keep e38).keep e39).keep e40) (by first | omega | simp) (by first | omega | simp)) ?_
      rintro v_68 w41 ⟨e41, h68⟩
      have z41 := e41.size
      refine O.nil ⟨(Ext.trans (Ext.trans (Ext.trans e38 e39) e40) e41), ?_⟩
      have h68s := h68.sl
      refine D.oneYes (i := 14) rfl rfl rfl (by kernel_rfl) ?_
      refine O.call Tryd.call18 (args2 rfl s5_1) (same_spec _ _ _ _ _ _ _ h68s (((((q0_1.keep e37).keep e38).keep e39).keep e40).keep e41)) ?_
      rintro v_70 w42 ⟨rfl, e42⟩
      have z42 := e42.size
      refine O.nil ⟨(Ext.trans (Ext.trans (Ext.trans (Ext.trans e38 e39) e40) e41) e42), ?_⟩
      refine D.cast (v' := .bool true) (congrArg Value.bool (by decide +kernel)) ?_
      refine D.takeYes (i := 15) rfl rfl rfl (by kernel_rfl) rfl rfl (Ext.trans (Ext.trans (Ext.trans (Ext.trans e38 e39) e40) e41) e42) ⟨_, rfl⟩ (fun w_ hw_ N_ hN => (O.not rfl (O.cast (v' := .bool false) rfl (O.nil hN)))) ?_
      refine D.take (i := 16) rfl rfl rfl rfl (by kernel_rfl) (Ext.trans (Ext.trans (Ext.trans (Ext.trans e38 e39) e40) e41) e42) pick_form (fun w_ hw_ N_ hN => (O.pickF rfl (O.nil hN))) ?_
      refine D.take (i := 17) rfl rfl rfl rfl (by kernel_rfl) (Ext.trans (Ext.trans (Ext.trans (Ext.trans e38 e39) e40) e41) e42) ⟨pure _, rfl⟩ (fun w_ hw_ N_ hN => (O.mv (O.nil hN))) ?_
      refine D.takeYes (i := 18) rfl rfl rfl (by kernel_rfl) rfl rfl (Ext.trans (Ext.trans (Ext.trans (Ext.trans e38 e39) e40) e41) e42) ⟨pure _, rfl⟩ (fun w_ hw_ N_ hN => (O.mv (O.nil hN))) ?_
      refine D.takeYes (i := 19) rfl rfl rfl (by kernel_rfl) rfl rfl (Ext.trans (Ext.trans (Ext.trans (Ext.trans e38 e39) e40) e41) e42) ⟨pure _, rfl⟩ (fun w_ hw_ N_ hN => (O.mv (O.nil hN))) ?_
      refine D.takeYes (i := 21) rfl rfl rfl (by kernel_rfl) rfl rfl (Ext.trans (Ext.trans (Ext.trans (Ext.trans e38 e39) e40) e41) e42) ⟨_, rfl⟩ (fun w_ hw_ N_ hN => (O.loadOA Tryd.isAgg23 Tryd.sizeOf23 s3_1 ((((((((((((hs10.keepM e11 (by omega)).keep e12).keep e13).keep e14).keep e15).keep e16).keep e17).keep e18).keep e19).keep e_1).keep e37).keep hw_) (Nat.le_of_ble_eq_true rfl) (O.nil hN))) ?_
      refine D.many [20, 22] (by kernel_rfl) (by decide) ⟨?_, ?_, trivial⟩
      ·
        refine D.stepG rfl rfl rfl ?_
        refine O.call Tryd.call27 (args2 s6_1 s7_1) (minus_spec _ _ _ _ _ _ _ ((((((q1_1.keep e37).keep e38).keep e39).keep e40).keep e41).keep e42) ((((((q2_1.keep e37).keep e38).keep e39).keep e40).keep e41).keep e42) (by first | omega | simp) (by first | omega | simp)) ?_
        rintro v_76 w43 ⟨e43, h76⟩
        have z43 := e43.size
        refine O.nil ⟨(Ext.trans (Ext.trans (Ext.trans (Ext.trans (Ext.trans e38 e39) e40) e41) e42) e43), ?_⟩
        have h76s := h76.sl
        refine D.oneYes (i := 22) rfl rfl rfl (by kernel_rfl) ?_
        refine O.litG (G := Dt.dotF) [(5, 7)] Tryd.underlying35 ti23 ts23 tz23 rfl (by decide) (by decide) rfl (fun b78 w44 hb78 hz78 e44 => ?_)
        have z44 := e44.size
        have h78 := hz78.own
        have hq78 := Sl.litG (n := 1) h78 rfl (by unfold maxLen; omega)
        refine O.nil ⟨(Ext.trans (Ext.trans (Ext.trans (Ext.trans (Ext.trans (Ext.trans e38 e39) e40) e41) e42) e43) e44), ?_⟩
        refine D.oneYes (i := 23) rfl rfl rfl (by kernel_rfl) ?_
        refine O.call Tryd.call18 (args2 rfl rfl) (same_spec _ _ _ _ _ _ _ (h76s.keep e44) hq78) ?_
        rintro v_79 w45 ⟨rfl, e45⟩
        have z45 := e45.size
        refine O.nil ⟨(Ext.trans (Ext.trans (Ext.trans (Ext.trans (Ext.trans (Ext.trans (Ext.trans e38 e39) e40) e41) e42) e43) e44) e45), ?_⟩
        refine D.cast (v' := .bool true) (congrArg Value.bool (by decide +kernel)) ?_
        refine D.takeYes (i := 24) rfl rfl rfl (by kernel_rfl) rfl rfl (Ext.trans (Ext.trans (Ext.trans (Ext.trans (Ext.trans (Ext.trans (Ext.trans e38 e39) e40) e41) e42) e43) e44) e45) ⟨_, rfl⟩ (fun w_ hw_ N_ hN => (O.not rfl (O.cast (v' := .bool false) rfl (O.nil hN)))) ?_
        refine D.take (i := 25) rfl rfl rfl rfl (by kernel_rfl) (Ext.trans (Ext.trans (Ext.trans (Ext.trans (Ext.trans (Ext.trans (Ext.trans e38 e39) e40) e41) e42) e43) e44) e45) pick_form (fun w_ hw_ N_ hN => (O.pickF rfl (O.nil hN))) ?_
        refine D.take (i := 26) rfl rfl rfl rfl (by kernel_rfl) (Ext.trans (Ext.trans (Ext.trans (Ext.trans (Ext.trans (Ext.trans (Ext.trans e38 e39) e40) e41) e42) e43) e44) e45) ⟨pure _, rfl⟩ (fun w_ hw_ N_ hN => (O.mv (O.nil hN))) ?_
        refine D.takeYes (i := 27) rfl rfl rfl (by kernel_rfl) rfl rfl (Ext.trans (Ext.trans (Ext.trans (Ext.trans (Ext.trans (Ext.trans (Ext.trans e38 e39) e40) e41) e42) e43) e44) e45) ⟨pure _, rfl⟩ (fun w_ hw_ N_ hN => (O.mv (O.nil hN))) ?_
        refine D.takeYes (i := 28) rfl rfl rfl (by kernel_rfl) rfl rfl (Ext.trans (Ext.trans (Ext.trans (Ext.trans (Ext.trans (Ext.trans (Ext.trans e38 e39) e40) e41) e42) e43) e44) e45) ⟨pure _, rfl⟩ (fun w_ hw_ N_ hN => (O.mv (O.nil hN))) ?_
        refine D.takeYes (i := 30) rfl rfl rfl (by kernel_rfl) rfl rfl (Ext.trans (Ext.trans (Ext.trans (Ext.trans (Ext.trans (Ext.trans (Ext.trans e38 e39) e40) e41) e42) e43) e44) e45) ⟨_, rfl⟩ (fun w_ hw_ N_ hN => (O.loadOA Tryd.isAgg23 Tryd.sizeOf23 s1_1 ((((((((((((((hs8.keepM e9 (by omega)).keepM e10 (by omega)).keepM e11 (by omega)).keep e12).keep e13).keep e14).keep e15).keep e16).keep e17).keep e18).keep e19).keep e_1).keep e37).keep hw_) (Nat.le_of_ble_eq_true rfl) (O.nil hN))) ?_
        refine D.many [29, 31] (by kernel_rfl) (by decide) ⟨?_, ?_, trivial⟩
        ·
          refine D.stepG rfl rfl rfl ?_
          refine O.call Tryd.call28 (args2 s6_1 s7_1) (both_spec _ _ _ _ _ _ _ (((((((((q1_1.keep e37).keep e38).keep e39).keep e40).keep e41).keep e42).keep e43).keep e44).keep e45) (((((((((q2_1.keep e37).keep e38).keep e39).keep e40).keep e41).keep e42).keep e43).keep e44).keep e45) (by first | omega | simp) (by first | omega | simp)) ?_
          rintro v_85 w46 ⟨e46, h85⟩
          have z46 := e46.size
          refine O.nil ⟨(Ext.trans (Ext.trans (Ext.trans (Ext.trans (Ext.trans (Ext.trans (Ext.trans (Ext.trans e38 e39) e40) e41) e42) e43) e44) e45) e46), ?_⟩
          have h85s := h85.sl
          refine D.oneYes (i := 31) rfl rfl rfl (by kernel_rfl) ?_
          refine O.litG (G := Dt.dotF) [(3, 7)] Tryd.underlying35 ti23 ts23 tz23 rfl (by decide) (by decide) rfl (fun b87 w47 hb87 hz87 e47 => ?_)
          have z47 := e47.size
          have h87 := hz87.own
          have hq87 := Sl.litG (n := 1) h87 rfl (by unfold maxLen; omega)
          refine O.nil ⟨(Ext.trans (Ext.trans (Ext.trans (Ext.trans (Ext.trans (Ext.trans (Ext.trans (Ext.trans (Ext.trans e38 e39) e40) e41) e42) e43) e44) e45) e46) e47), ?_⟩
          refine D.oneYes (i := 32) rfl rfl rfl (by kernel_rfl) ?_
          refine O.call Tryd.call18 (args2 rfl rfl) (same_spec _ _ _ _ _ _ _ (h85s.keep e47) hq87) ?_
          rintro v_88 w48 ⟨rfl, e48⟩
          have z48 := e48.size
          refine O.nil ⟨(Ext.trans (Ext.trans (Ext.trans (Ext.trans (Ext.trans (Ext.trans (Ext.trans (Ext.trans (Ext.trans (Ext.trans e38 e39) e40) e41) e42) e43) e44) e45) e46) e47) e48), ?_⟩
          refine D.cast (v' := .bool true) (congrArg Value.bool (by decide +kernel)) ?_
          refine D.takeYes (i := 33) rfl rfl rfl (by kernel_rfl) rfl rfl (Ext.trans (Ext.trans (Ext.trans (Ext.trans (Ext.trans (Ext.trans (Ext.trans (Ext.trans (Ext.trans (Ext.trans e38 e39) e40) e41) e42) e43) e44) e45) e46) e47) e48) ⟨_, rfl⟩ (fun w_ hw_ N_ hN => (O.not rfl (O.cast (v' := .bool false) rfl (O.nil hN)))) ?_
          refine D.take (i := 34) rfl rfl rfl rfl (by kernel_rfl) (Ext.trans (Ext.trans (Ext.trans (Ext.trans (Ext.trans (Ext.trans (Ext.trans (Ext.trans (Ext.trans (Ext.trans e38 e39) e40) e41) e42) e43) e44) e45) e46) e47) e48) pick_form (fun w_ hw_ N_ hN => (O.pickF rfl (O.nil hN))) ?_
          refine D.done (by kernel_rfl) ?_
          exact ⟨(Ext.trans (Ext.trans (Ext.trans (Ext.trans (Ext.trans (Ext.trans (Ext.trans (Ext.trans (Ext.trans (Ext.trans (Ext.trans e37 e38) e39) e40) e41) e42) e43) e44) e45) e46) e47) e48), rfl, rfl, rfl, rfl⟩
        ·
          refine D.stepG rfl rfl rfl ?_
          refine O.litG (G := Dt.dotF) [(3, 7)] Tryd.underlying35 ti23 ts23 tz23 rfl (by decide) (by decide) rfl (fun b87 w49 hb87 hz87 e49 => ?_)
          have z49 := e49.size
          have h87 := hz87.own
          have hq87 := Sl.litG (n := 1) h87 rfl (by unfold maxLen; omega)
          refine O.nil ⟨(Ext.trans (Ext.trans (Ext.trans (Ext.trans (Ext.trans (Ext.trans (Ext.trans (Ext.trans e38 e39) e40) e41) e42) e43) e44) e45) e49), ?_⟩
          refine D.oneYes (i := 29) rfl rfl rfl (by kernel_rfl) ?_
          refine O.call Tryd.call28 (args2 s6_1 s7_1) (both_spec _ _ _ _ _ _ _ ((((((((((q1_1.keep e37).keep e38).keep e39).keep e40).keep e41).keep e42).keep e43).keep e44).keep e45).keep e49) ((((((((((q2_1.keep e37).keep e38).keep e39).keep e40).keep e41).keep e42).keep e43).keep e44).keep e45).keep e49) (by first | omega | simp) (by first | omega | simp)) ?_
          rintro v_85 w50 ⟨e50, h85⟩
          have z50 := e50.size
          refine O.nil ⟨(Ext.trans (Ext.trans (Ext.trans (Ext.trans (Ext.trans (Ext.trans (Ext.trans (Ext.trans (Ext.trans e38 e39) e40) e41) e42) e43) e44) e45) e49) e50), ?_⟩
          have h85s := h85.sl
          refine D.oneYes (i := 32) rfl rfl rfl (by kernel_rfl) ?_
          refine O.call Tryd.call18 (args2 rfl rfl) (same_spec _ _ _ _ _ _ _ h85s (hq87.keep e50)) ?_
          rintro v_88 w51 ⟨rfl, e51⟩
          have z51 := e51.size
          refine O.nil ⟨(Ext.trans (Ext.trans (Ext.trans (Ext.trans (Ext.trans (Ext.trans (Ext.trans (Ext.trans (Ext.trans (Ext.trans e38 e39) e40) e41) e42) e43) e44) e45) e49) e50) e51), ?_⟩
          refine D.cast (v' := .bool true) (congrArg Value.bool (by decide +kernel)) ?_
          refine D.takeYes (i := 33) rfl rfl rfl (by kernel_rfl) rfl rfl (Ext.trans (Ext.trans (Ext.trans (Ext.trans (Ext.trans (Ext.trans (Ext.trans (Ext.trans (Ext.trans (Ext.trans e38 e39) e40) e41) e42) e43) e44) e45) e49) e50) e51) ⟨_, rfl⟩ (fun w_ hw_ N_ hN => (O.not rfl (O.cast (v' := .bool false) rfl (O.nil hN)))) ?_
          refine D.take (i := 34) rfl rfl rfl rfl (by kernel_rfl) (Ext.trans (Ext.trans (Ext.trans (Ext.trans (Ext.trans (Ext.trans (Ext.trans (Ext.trans (Ext.trans (Ext.trans e38 e39) e40) e41) e42) e43) e44) e45) e49) e50) e51) pick_form (fun w_ hw_ N_ hN => (O.pickF rfl (O.nil hN))) ?_
          refine D.done (by kernel_rfl) ?_
          exact ⟨(Ext.trans (Ext.trans (Ext.trans (Ext.trans (Ext.trans (Ext.trans (Ext.trans (Ext.trans (Ext.trans (Ext.trans (Ext.trans e37 e38) e39) e40) e41) e42) e43) e44) e45) e49) e50) e51), rfl, rfl, rfl, rfl⟩
      ·
        refine D.stepG rfl rfl rfl ?_
        refine O.litG (G := Dt.dotF) [(5, 7)] Tryd.underlying35 ti23 ts23 tz23 rfl (by decide) (by decide) rfl (fun b78 w52 hb78 hz78 e52 => ?_)
        have z52 := e52.size
        have h78 := hz78.own
        have hq78 := Sl.litG (n := 1) h78 rfl (by unfold maxLen; omega)
        refine O.nil ⟨(Ext.trans (Ext.trans (Ext.trans (Ext.trans (Ext.trans e38 e39) e40) e41) e42) e52), ?_⟩
        refine D.oneYes (i := 20) rfl rfl rfl (by kernel_rfl) ?_
        refine O.call Tryd.call27 (args2 s6_1 s7_1) (minus_spec _ _ _ _ _ _ _ (((((((q1_1.keep e37).keep e38).keep e39).keep e40).keep e41).keep e42).keep e52) (((((((q2_1.keep e37).keep e38).keep e39).keep e40).keep e41).keep e42).keep e52) (by first | omega | simp) (by first | omega | simp)) ?_
        rintro v_76 w53 ⟨e53, h76⟩
        have z53 := e53.size
        refine O.nil ⟨(Ext.trans (Ext.trans (Ext.trans (Ext.trans (Ext.trans (Ext.trans e38 e39) e40) e41) e42) e52) e53), ?_⟩
        have h76s := h76.sl
        refine D.oneYes (i := 23) rfl rfl rfl (by kernel_rfl) ?_
        refine O.call Tryd.call18 (args2 rfl rfl) (same_spec _ _ _ _ _ _ _ h76s (hq78.keep e53)) ?_
        rintro v_79 w54 ⟨rfl, e54⟩
        have z54 := e54.size
        refine O.nil ⟨(Ext.trans (Ext.trans (Ext.trans (Ext.trans (Ext.trans (Ext.trans (Ext.trans e38 e39) e40) e41) e42) e52) e53) e54), ?_⟩
        refine D.cast (v' := .bool true) (congrArg Value.bool (by decide +kernel)) ?_
        refine D.takeYes (i := 24) rfl rfl rfl (by kernel_rfl) rfl rfl (Ext.trans (Ext.trans (Ext.trans (Ext.trans (Ext.trans (Ext.trans (Ext.trans e38 e39) e40) e41) e42) e52) e53) e54) ⟨_, rfl⟩ (fun w_ hw_ N_ hN => (O.not rfl (O.cast (v' := .bool false) rfl (O.nil hN)))) ?_
        refine D.take (i := 25) rfl rfl rfl rfl (by kernel_rfl) (Ext.trans (Ext.trans (Ext.trans (Ext.trans (Ext.trans (Ext.trans (Ext.trans e38 e39) e40) e41) e42) e52) e53) e54) pick_form (fun w_ hw_ N_ hN => (O.pickF rfl (O.nil hN))) ?_
        refine D.take (i := 26) rfl rfl rfl rfl (by kernel_rfl) (Ext.trans (Ext.trans (Ext.trans (Ext.trans (Ext.trans (Ext.trans (Ext.trans e38 e39) e40) e41) e42) e52) e53) e54) ⟨pure _, rfl⟩ (fun w_ hw_ N_ hN => (O.mv (O.nil hN))) ?_
        refine D.takeYes (i := 27) rfl rfl rfl (by kernel_rfl) rfl rfl (Ext.trans (Ext.trans (Ext.trans (Ext.trans (Ext.trans (Ext.trans (Ext.trans e38 e39) e40) e41) e42) e52) e53) e54) ⟨pure _, rfl⟩ (fun w_ hw_ N_ hN => (O.mv (O.nil hN))) ?_
        refine D.takeYes (i := 28) rfl rfl rfl (by kernel_rfl) rfl rfl (Ext.trans (Ext.trans (Ext.trans (Ext.trans (Ext.trans (Ext.trans (Ext.trans e38 e39) e40) e41) e42) e52) e53) e54) ⟨pure _, rfl⟩ (fun w_ hw_ N_ hN => (O.mv (O.nil hN))) ?_
        refine D.takeYes (i := 30) rfl rfl rfl (by kernel_rfl) rfl rfl (Ext.trans (Ext.trans (Ext.trans (Ext.trans (Ext.trans (Ext.trans (Ext.trans e38 e39) e40) e41) e42) e52) e53) e54) ⟨_, rfl⟩ (fun w_ hw_ N_ hN => (O.loadOA Tryd.isAgg23 Tryd.sizeOf23 s1_1 ((((((((((((((hs8.keepM e9 (by omega)).keepM e10 (by omega)).keepM e11 (by omega)).keep e12).keep e13).keep e14).keep e15).keep e16).keep e17).keep e18).keep e19).keep e_1).keep e37).keep hw_) (Nat.le_of_ble_eq_true rfl) (O.nil hN))) ?_
        refine D.many [29, 31] (by kernel_rfl) (by decide) ⟨?_, ?_, trivial⟩
        ·
          refine D.stepG rfl rfl rfl ?_
          refine O.call Tryd.call28 (args2 s6_1 s7_1) (both_spec _ _ _ _ _ _ _ (((((((((q1_1.keep e37).keep e38).keep e39).keep e40).keep e41).keep e42).keep e52).keep e53).keep e54) (((((((((q2_1.keep e37).keep e38).keep e39).keep e40).keep e41).keep e42).keep e52).keep e53).keep e54) (by first | omega | simp) (by first | omega | simp)) ?_
          rintro v_85 w55 ⟨e55, h85⟩
          have z55 := e55.size
          refine O.nil ⟨(Ext.trans (Ext.trans (Ext.trans (Ext.trans (Ext.trans (Ext.trans (Ext.trans (Ext.trans e38 e39) e40) e41) e42) e52) e53) e54) e55), ?_⟩
          have h85s := h85.sl
          refine D.oneYes (i := 31) rfl rfl rfl (by kernel_rfl) ?_
          refine O.litG (G := Dt.dotF) [(3, 7)] Tryd.underlying35 ti23 ts23 tz23 rfl (by decide) (by decide) rfl (fun b87 w56 hb87 hz87 e56 => ?_)
          have z56 := e56.size
          have h87 := hz87.own
          have hq87 := Sl.litG (n := 1) h87 rfl (by unfold maxLen; omega)
          refine O.nil ⟨(Ext.trans (Ext.trans (Ext.trans (Ext.trans (Ext.trans (Ext.trans (Ext.trans (Ext.trans (Ext.trans e38 e39) e40) e41) e42) e52) e53) e54) e55) e56), ?_⟩
          refine D.oneYes (i := 32) rfl rfl rfl (by kernel_rfl) ?_
          refine O.call Tryd.call18 (args2 rfl rfl) (same_spec _ _ _ _ _ _ _ (h85s.keep e56) hq87) ?_
          rintro v_88 w57 ⟨rfl, e57⟩
          have z57 := e57.size
          refine O.nil ⟨(Ext.trans (Ext.trans (Ext.trans (Ext.trans (Ext.trans (Ext.trans (Ext.trans (Ext.trans (Ext.trans (Ext.trans e38 e39) e40) e41) e42) e52) e53) e54) e55) e56) e57), ?_⟩
          refine D.cast (v' := .bool true) (congrArg Value.bool (by decide +kernel)) ?_
          refine D.takeYes (i := 33) rfl rfl rfl (by kernel_rfl) rfl rfl (Ext.trans (Ext.trans (Ext.trans (Ext.trans (Ext.trans (Ext.trans (Ext.trans (Ext.trans (Ext.trans (Ext.trans e38 e39) e40) e41) e42) e52) e53) e54) e55) e56) e57) ⟨_, rfl⟩ (fun w_ hw_ N_ hN => (O.not rfl (O.cast (v' := .bool false) rfl (O.nil hN)))) ?_
          refine D.take (i := 34) rfl rfl rfl rfl (by kernel_rfl) (Ext.trans (Ext.trans (Ext.trans (Ext.trans (Ext.trans (Ext.trans (Ext.trans (Ext.trans (Ext.trans (Ext.trans e38 e39) e40) e41) e42) e52) e53) e54) e55) e56) e57) pick_form (fun w_ hw_ N_ hN => (O.pickF rfl (O.nil hN))) ?_
          refine D.done (by kernel_rfl) ?_
          exact ⟨(Ext.trans (Ext.trans (Ext.trans (Ext.trans (Ext.trans (Ext.trans (Ext.trans (Ext.trans (Ext.trans (Ext.trans (Ext.trans e37 e38) e39) e40) e41) e42) e52) e53) e54) e55) e56) e57), rfl, rfl, rfl, rfl⟩
        ·
          refine D.stepG rfl rfl rfl ?_
          refine O.litG (G := Dt.dotF) [(3, 7)] Tryd.underlying35 ti23 ts23 tz23 rfl (by decide) (by decide) rfl (fun b87 w58 hb87 hz87 e58 => ?_)
          have z58 := e58.size
          have h87 := hz87.own
          have hq87 := Sl.litG (n := 1) h87 rfl (by unfold maxLen; omega)
          refine O.nil ⟨(Ext.trans (Ext.trans (Ext.trans (Ext.trans (Ext.trans (Ext.trans (Ext.trans (Ext.trans e38 e39) e40) e41) e42) e52) e53) e54) e58), ?_⟩
          refine D.oneYes (i := 29) rfl rfl rfl (by kernel_rfl) ?_
          refine O.call Tryd.call28 (args2 s6_1 s7_1) (both_spec _ _ _ _ _ _ _ ((((((((((q1_1.keep e37).keep e38).keep e39).keep e40).keep e41).keep e42).keep e52).keep e53).keep e54).keep e58) ((((((((((q2_1.keep e37).keep e38).keep e39).keep e40).keep e41).keep e42).keep e52).keep e53).keep e54).keep e58) (by first | omega | simp) (by first | omega | simp)) ?_
          rintro v_85 w59 ⟨e59, h85⟩
          have z59 := e59.size
          refine O.nil ⟨(Ext.trans (Ext.trans (Ext.trans (Ext.trans (Ext.trans (Ext.trans (Ext.trans (Ext.trans (Ext.trans e38 e39) e40) e41) e42) e52) e53) e54) e58) e59), ?_⟩
          have h85s := h85.sl
          refine D.oneYes (i := 32) rfl rfl rfl (by kernel_rfl) ?_
          refine O.call Tryd.call18 (args2 rfl rfl) (same_spec _ _ _ _ _ _ _ h85s (hq87.keep e59)) ?_
          rintro v_88 w60 ⟨rfl, e60⟩
          have z60 := e60.size
          refine O.nil ⟨(Ext.trans (Ext.trans (Ext.trans (Ext.trans (Ext.trans (Ext.trans (Ext.trans (Ext.trans (Ext.trans (Ext.trans e38 e39) e40) e41) e42) e52) e53) e54) e58) e59) e60), ?_⟩
          refine D.cast (v' := .bool true) (congrArg Value.bool (by decide +kernel)) ?_
          refine D.takeYes (i := 33) rfl rfl rfl (by kernel_rfl) rfl rfl (Ext.trans (Ext.trans (Ext.trans (Ext.trans (Ext.trans (Ext.trans (Ext.trans (Ext.trans (Ext.trans (Ext.trans e38 e39) e40) e41) e42) e52) e53) e54) e58) e59) e60) ⟨_, rfl⟩ (fun w_ hw_ N_ hN => (O.not rfl (O.cast (v' := .bool false) rfl (O.nil hN)))) ?_
          refine D.take (i := 34) rfl rfl rfl rfl (by kernel_rfl) (Ext.trans (Ext.trans (Ext.trans (Ext.trans (Ext.trans (Ext.trans (Ext.trans (Ext.trans (Ext.trans (Ext.trans e38 e39) e40) e41) e42) e52) e53) e54) e58) e59) e60) pick_form (fun w_ hw_ N_ hN => (O.pickF rfl (O.nil hN))) ?_
          refine D.done (by kernel_rfl) ?_
          exact ⟨(Ext.trans (Ext.trans (Ext.trans (Ext.trans (Ext.trans (Ext.trans (Ext.trans (Ext.trans (Ext.trans (Ext.trans (Ext.trans e37 e38) e39) e40) e41) e42) e52) e53) e54) e58) e59) e60), rfl, rfl, rfl, rfl⟩
    ·
      rintro f_2 w61 ⟨e_2, s0_2, s1_2, s4_2, s90_2⟩
      have z_2 := e_2.size
      refine hK7 _ _ ?_
      refine C.condF s90_2 ?_
      refine C.skip ?_
      refine hK6 _ _ ?_
      refine C.seqK fun K8 hK8 => ?_
      refine C.seqK fun K9 hK9 => ?_
      refine C.region ?_
      refine O.call Tryd.call25 (args2 rfl rfl) (of_spec 65535 4294967295 _) ?_
      rintro v_91 w62 ⟨rfl, e62⟩
      have z62 := e62.size
      refine O.call Tryd.call6 (args1 rfl) (valid_spec (65535, 4294967295) _) ?_
      rintro v_92 w63 ⟨rfl, e63⟩
      have z63 := e63.size
      refine O.cast (v' := .bool true) (congrArg Value.bool (by decide)) ?_
      refine O.not rfl ?_
      refine O.cast (v' := .bool false) rfl ?_
      refine O.mv ?_
      refine O.yes rfl rfl ?_
      refine O.call Tryd.call25 (args2 rfl rfl) (of_spec 65536 1 _) ?_
      rintro v_95 w64 ⟨rfl, e64⟩
      have z64 := e64.size
      refine O.yes rfl rfl ?_
      refine O.call Tryd.call6 (args1 rfl) (valid_spec (65536, 1) _) ?_
      rintro v_96 w65 ⟨rfl, e65⟩
      have z65 := e65.size
      refine O.cast (v' := .bool false) (congrArg Value.bool (by decide)) ?_
      refine O.pickF rfl ?_
      refine O.mv ?_
      refine O.yes rfl rfl ?_
      refine O.call Tryd.call25 (args2 rfl rfl) (of_spec 1 0 _) ?_
      rintro v_99 w66 ⟨rfl, e66⟩
      have z66 := e66.size
      refine O.yes rfl rfl ?_
      refine O.call Tryd.call6 (args1 rfl) (valid_spec (1, 0) _) ?_
      rintro v_100 w67 ⟨rfl, e67⟩
      have z67 := e67.size
      refine O.cast (v' := .bool false) (congrArg Value.bool (by decide)) ?_
      refine O.pickF rfl ?_
      refine O.nil ?_
      refine hK9 _ _ ?_
      refine C.condF rfl ?_
      refine C.skip ?_
      refine hK8 _ _ ?_
      refine C.seqK fun K10 hK10 => ?_
      refine C.region ?_
      refine O.loadOA Tryd.isAgg23 Tryd.sizeOf23 (Eq.trans s1_2 s1_1) (((((((((((((((((((hs8.keepM e9 (by omega)).keepM e10 (by omega)).keepM e11 (by omega)).keep e12).keep e13).keep e14).keep e15).keep e16).keep e17).keep e18).keep e19).keep e_1).keep e_2).keep e62).keep e63).keep e64).keep e65).keep e66).keep e67) (Nat.le_of_ble_eq_true rfl) ?_
      refine O.call Tryd.call14 (args3 rfl rfl rfl) (parses_ok_spec [51, 46, 55] (3, 7) es er _ (by decide) (by rw [Dt.parse_eq]; decide +kernel) (htb.keep (Ext.trans (Ext.trans (Ext.trans (Ext.trans (Ext.trans (Ext.trans (Ext.trans (Ext.trans (Ext.trans (Ext.trans (Ext.trans (Ext.trans (Ext.trans (Ext.trans (Ext.trans (Ext.trans (Ext.new (Ext.new (Ext.new (Ext.new (Ext.trans (Ext.trans (Ext.trans (Ext.trans (Ext.trans (Ext.trans e1 e2) e3) e4) e5) e6) e7) e8 (by rintro i hi rfl; omega)) e9 (by rintro i hi rfl; omega)) e10 (by rintro i hi rfl; omega)) e11 (by rintro i hi rfl; omega)) e12) e13) e14) e15) e16) e17) e18) e19) e_1) e_2) e62) e63) e64) e65) e66) e67)) (hes.keep (Ext.trans (Ext.trans (Ext.trans (Ext.trans (Ext.trans (Ext.trans (Ext.trans (Ext.trans (Ext.trans (Ext.trans (Ext.trans (Ext.trans (Ext.trans (Ext.trans (Ext.trans (Ext.trans (Ext.new (Ext.new (Ext.new (Ext.new (Ext.trans (Ext.trans (Ext.trans (Ext.trans (Ext.trans (Ext.trans e1 e2) e3) e4) e5) e6) e7) e8 (by rintro i hi rfl; omega)) e9 (by rintro i hi rfl; omega)) e10 (by rintro i hi rfl; omega)) e11 (by rintro i hi rfl; omega)) e12) e13) e14) e15) e16) e17) e18) e19) e_1) e_2) e62) e63) e64) e65) e66) e67)) (her.keep (Ext.trans (Ext.trans (Ext.trans (Ext.trans (Ext.trans (Ext.trans (Ext.trans (Ext.trans (Ext.trans (Ext.trans (Ext.trans (Ext.trans (Ext.trans (Ext.trans (Ext.trans (Ext.trans (Ext.new (Ext.new (Ext.new (Ext.new (Ext.trans (Ext.trans (Ext.trans (Ext.trans (Ext.trans (Ext.trans e1 e2) e3) e4) e5) e6) e7) e8 (by rintro i hi rfl; omega)) e9 (by rintro i hi rfl; omega)) e10 (by rintro i hi rfl; omega)) e11 (by rintro i hi rfl; omega)) e12) e13) e14) e15) e16) e17) e18) e19) e_1) e_2) e62) e63) e64) e65) e66) e67)) g1 g2) ?_
      rintro v_103 w68 ⟨rfl, e68⟩
      have z68 := e68.size
      refine O.mv ?_
      refine O.yes rfl rfl ?_
      refine O.loadOA Tryd.isAgg23 Tryd.sizeOf23 (Eq.trans s4_2 s4_1) (((((((((((((((((hs11.keep e12).keep e13).keep e14).keep e15).keep e16).keep e17).keep e18).keep e19).keep e_1).keep e_2).keep e62).keep e63).keep e64).keep e65).keep e66).keep e67).keep e68) (Nat.le_of_ble_eq_true rfl) ?_
      refine O.yes rfl rfl ?_
      refine O.call Tryd.call14 (args3 rfl rfl rfl) (parses_no_spec [48, 51, 46, 55] es er _ (by decide) (by rw [Dt.parse_eq]; decide +kernel) (htb.keep (Ext.trans (Ext.trans (Ext.trans (Ext.trans (Ext.trans (Ext.trans (Ext.trans (Ext.trans (Ext.trans (Ext.trans (Ext.trans (Ext.trans (Ext.trans (Ext.trans (Ext.trans (Ext.trans (Ext.trans (Ext.new (Ext.new (Ext.new (Ext.new (Ext.trans (Ext.trans (Ext.trans (Ext.trans (Ext.trans (Ext.trans e1 e2) e3) e4) e5) e6) e7) e8 (by rintro i hi rfl; omega)) e9 (by rintro i hi rfl; omega)) e10 (by rintro i hi rfl; omega)) e11 (by rintro i hi rfl; omega)) e12) e13) e14) e15) e16) e17) e18) e19) e_1) e_2) e62) e63) e64) e65) e66) e67) e68)) (hes.keep (Ext.trans (Ext.trans (Ext.trans (Ext.trans (Ext.trans (Ext.trans (Ext.trans (Ext.trans (Ext.trans (Ext.trans (Ext.trans (Ext.trans (Ext.trans (Ext.trans (Ext.trans (Ext.trans (Ext.trans (Ext.new (Ext.new (Ext.new (Ext.new (Ext.trans (Ext.trans (Ext.trans (Ext.trans (Ext.trans (Ext.trans e1 e2) e3) e4) e5) e6) e7) e8 (by rintro i hi rfl; omega)) e9 (by rintro i hi rfl; omega)) e10 (by rintro i hi rfl; omega)) e11 (by rintro i hi rfl; omega)) e12) e13) e14) e15) e16) e17) e18) e19) e_1) e_2) e62) e63) e64) e65) e66) e67) e68)) (her.keep (Ext.trans (Ext.trans (Ext.trans (Ext.trans (Ext.trans (Ext.trans (Ext.trans (Ext.trans (Ext.trans (Ext.trans (Ext.trans (Ext.trans (Ext.trans (Ext.trans (Ext.trans (Ext.trans (Ext.trans (Ext.new (Ext.new (Ext.new (Ext.new (Ext.trans (Ext.trans (Ext.trans (Ext.trans (Ext.trans (Ext.trans e1 e2) e3) e4) e5) e6) e7) e8 (by rintro i hi rfl; omega)) e9 (by rintro i hi rfl; omega)) e10 (by rintro i hi rfl; omega)) e11 (by rintro i hi rfl; omega)) e12) e13) e14) e15) e16) e17) e18) e19) e_1) e_2) e62) e63) e64) e65) e66) e67) e68)) g1 g2) ?_
      rintro v_106 w69 ⟨rfl, e69⟩
      have z69 := e69.size
      refine O.pickT rfl ?_
      refine O.mv ?_
      refine O.yes rfl rfl ?_
      refine O.loadOA Tryd.isAgg23 Tryd.sizeOf23 (Eq.trans s4_2 s4_1) ((((((((((((((((((hs11.keep e12).keep e13).keep e14).keep e15).keep e16).keep e17).keep e18).keep e19).keep e_1).keep e_2).keep e62).keep e63).keep e64).keep e65).keep e66).keep e67).keep e68).keep e69) (Nat.le_of_ble_eq_true rfl) ?_
      refine O.yes rfl rfl ?_
      refine O.call Tryd.call14 (args3 rfl rfl rfl) (parses_no_spec [51, 46, 52, 50, 57, 52, 57, 54, 55, 50, 57, 54] es er _ (by decide) (by rw [Dt.parse_eq]; decide +kernel) (htb.keep (Ext.trans (Ext.trans (Ext.trans (Ext.trans (Ext.trans (Ext.trans (Ext.trans (Ext.trans (Ext.trans (Ext.trans (Ext.trans (Ext.trans (Ext.trans (Ext.trans (Ext.trans (Ext.trans (Ext.trans (Ext.trans (Ext.new (Ext.new (Ext.new (Ext.new (Ext.trans (Ext.trans (Ext.trans (Ext.trans (Ext.trans (Ext.trans e1 e2) e3) e4) e5) e6) e7) e8 (by rintro i hi rfl; omega)) e9 (by rintro i hi rfl; omega)) e10 (by rintro i hi rfl; omega)) e11 (by rintro i hi rfl; omega)) e12) e13) e14) e15) e16) e17) e18) e19) e_1) e_2) e62) e63) e64) e65) e66) e67) e68) e69)) (hes.keep (Ext.trans (Ext.trans (Ext.trans (Ext.trans (Ext.trans (Ext.trans (Ext.trans (Ext.trans (Ext.trans (Ext.trans (Ext.trans (Ext.trans (Ext.trans (Ext.trans (Ext.trans (Ext.trans (Ext.trans (Ext.trans (Ext.new (Ext.new (Ext.new (Ext.new (Ext.trans (Ext.trans (Ext.trans (Ext.trans (Ext.trans (Ext.trans e1 e2) e3) e4) e5) e6) e7) e8 (by rintro i hi rfl; omega)) e9 (by rintro i hi rfl; omega)) e10 (by rintro i hi rfl; omega)) e11 (by rintro i hi rfl; omega)) e12) e13) e14) e15) e16) e17) e18) e19) e_1) e_2) e62) e63) e64) e65) e66) e67) e68) e69)) (her.keep (Ext.trans (Ext.trans (Ext.trans (Ext.trans (Ext.trans (Ext.trans (Ext.trans (Ext.trans (Ext.trans (Ext.trans (Ext.trans (Ext.trans (Ext.trans (Ext.trans (Ext.trans (Ext.trans (Ext.trans (Ext.trans (Ext.new (Ext.new (Ext.new (Ext.new (Ext.trans (Ext.trans (Ext.trans (Ext.trans (Ext.trans (Ext.trans e1 e2) e3) e4) e5) e6) e7) e8 (by rintro i hi rfl; omega)) e9 (by rintro i hi rfl; omega)) e10 (by rintro i hi rfl; omega)) e11 (by rintro i hi rfl; omega)) e12) e13) e14) e15) e16) e17) e18) e19) e_1) e_2) e62) e63) e64) e65) e66) e67) e68) e69)) g1 g2) ?_
      rintro v_110 w70 ⟨rfl, e70⟩
      have z70 := e70.size
      refine O.pickT rfl ?_
      refine O.mv ?_
      refine O.yes rfl rfl ?_
      refine O.loadOA Tryd.isAgg23 Tryd.sizeOf23 (Eq.trans s4_2 s4_1) (((((((((((((((((((hs11.keep e12).keep e13).keep e14).keep e15).keep e16).keep e17).keep e18).keep e19).keep e_1).keep e_2).keep e62).keep e63).keep e64).keep e65).keep e66).keep e67).keep e68).keep e69).keep e70) (Nat.le_of_ble_eq_true rfl) ?_
      refine O.yes rfl rfl ?_
      refine O.call Tryd.call14 (args3 rfl rfl rfl) (parses_no_spec [51] es er _ (by decide) (by rw [Dt.parse_eq]; decide +kernel) (htb.keep (Ext.trans (Ext.trans (Ext.trans (Ext.trans (Ext.trans (Ext.trans (Ext.trans (Ext.trans (Ext.trans (Ext.trans (Ext.trans (Ext.trans (Ext.trans (Ext.trans (Ext.trans (Ext.trans (Ext.trans (Ext.trans (Ext.trans (Ext.new (Ext.new (Ext.new (Ext.new (Ext.trans (Ext.trans (Ext.trans (Ext.trans (Ext.trans (Ext.trans e1 e2) e3) e4) e5) e6) e7) e8 (by rintro i hi rfl; omega)) e9 (by rintro i hi rfl; omega)) e10 (by rintro i hi rfl; omega)) e11 (by rintro i hi rfl; omega)) e12) e13) e14) e15) e16) e17) e18) e19) e_1) e_2) e62) e63) e64) e65) e66) e67) e68) e69) e70)) (hes.keep (Ext.trans (Ext.trans (Ext.trans (Ext.trans (Ext.trans (Ext.trans (Ext.trans (Ext.trans (Ext.trans (Ext.trans (Ext.trans (Ext.trans (Ext.trans (Ext.trans (Ext.trans (Ext.trans (Ext.trans (Ext.trans (Ext.trans (Ext.new (Ext.new (Ext.new (Ext.new (Ext.trans (Ext.trans (Ext.trans (Ext.trans (Ext.trans (Ext.trans e1 e2) e3) e4) e5) e6) e7) e8 (by rintro i hi rfl; omega)) e9 (by rintro i hi rfl; omega)) e10 (by rintro i hi rfl; omega)) e11 (by rintro i hi rfl; omega)) e12) e13) e14) e15) e16) e17) e18) e19) e_1) e_2) e62) e63) e64) e65) e66) e67) e68) e69) e70)) (her.keep (Ext.trans (Ext.trans (Ext.trans (Ext.trans (Ext.trans (Ext.trans (Ext.trans (Ext.trans (Ext.trans (Ext.trans (Ext.trans (Ext.trans (Ext.trans (Ext.trans (Ext.trans (Ext.trans (Ext.trans (Ext.trans (Ext.trans (Ext.new (Ext.new (Ext.new (Ext.new (Ext.trans (Ext.trans (Ext.trans (Ext.trans (Ext.trans (Ext.trans e1 e2) e3) e4) e5) e6) e7) e8 (by rintro i hi rfl; omega)) e9 (by rintro i hi rfl; omega)) e10 (by rintro i hi rfl; omega)) e11 (by rintro i hi rfl; omega)) e12) e13) e14) e15) e16) e17) e18) e19) e_1) e_2) e62) e63) e64) e65) e66) e67) e68) e69) e70)) g1 g2) ?_
      rintro v_114 w71 ⟨rfl, e71⟩
      have z71 := e71.size
      refine O.pickT rfl ?_
      refine O.asg ?_
      refine O.nil ?_
      refine hK10 _ _ ?_
      refine C.ret ?_
      refine Outs.one rfl rfl ?_
      exact ⟨rfl, (Ext.trans (Ext.trans (Ext.trans (Ext.trans (Ext.trans (Ext.trans (Ext.trans (Ext.trans (Ext.trans (Ext.trans (Ext.trans (Ext.trans (Ext.trans (Ext.trans (Ext.trans (Ext.trans (Ext.trans (Ext.trans (Ext.trans (Ext.trans (Ext.new (Ext.new (Ext.new (Ext.new (Ext.trans (Ext.trans (Ext.trans (Ext.trans (Ext.trans (Ext.trans e1 e2) e3) e4) e5) e6) e7) e8 (by rintro i hi rfl; omega)) e9 (by rintro i hi rfl; omega)) e10 (by rintro i hi rfl; omega)) e11 (by rintro i hi rfl; omega)) e12) e13) e14) e15) e16) e17) e18) e19) e_1) e_2) e62) e63) e64) e65) e66) e67) e68) e69) e70) e71)⟩

end Go.Proofs.YtbmbaajfkmejgaaDoor
