/-
  The walk of the stage's theorem. Conditions: slices as they lie in memory; the library's table and its errors.
-/
import Derived.Test.YtbmbaajfkmejgaaGreatDoorVectorHoldsM3
namespace Go.Proofs.YtbmbaajfkmejgaaGreatDoor
open Go.Pn Go.RowKit Go.Proofs
attribute [local irreducible] O C D

set_option maxHeartbeats 4000000 in
theorem vectorHolds_spec (v0 : Value) (a : List Dt.Dot) (v1 : Value) (b : List Dt.Dot) (v2 : Value) (c : List Dt.Dot) (d : Dt.Dot) (F F2 F3 : Nat → Prop) (es er : Value) (w : World) (ha : Sl Dt.dotF.enc w F v0 a) (hF : ∀ k, F k → k < w.heap.size) (hb : Sl Dt.dotF.enc w F2 v1 b) (hF2 : ∀ k, F2 k → k < w.heap.size) (hc : Sl Dt.dotF.enc w F3 v2 c) (hF3 : ∀ k, F3 k → k < w.heap.size) (htb : Tb w) (hes : CellIs w 3 es) (her : CellIs w 4 er) (g1 : ∃ te pe, es = .iface te pe) (g2 : ∃ te pe, er = .iface te pe) :
    Ret Tryz.prog 7 #[v0, v1, v2, Dt.dv (d)] w (fun v w' => v = .bool true ∧ Le w w') := by
  have hle := ha.le
  have hbl := hb.le
  have hcl := hc.le
  
  refine enter (args := [v0, v1, v2, Dt.dv (d)]) (n := 150) Tryz.func7 rfl rfl (Nat.le_of_ble_eq_true rfl) ?_
  refine C.seqK fun K1 hK1 => ?_
  refine C.region ?_
  refine O.box (v := Dt.dv (d)) rfl (fun b7 w1 hb7 hz7 e1 => ?_)
  have z1 := e1.size
  have h7 := hz7.own
  have hl7 := h7.lt
  refine O.asg ?_
  refine O.nil ?_
  refine hK1 _ _ ?_
  refine C.seqK fun K2 hK2 => ?_
  refine C.seqK fun K3 hK3 => ?_
  refine C.region ?_
  refine O.mv ?_
  refine O.len Tryz.underlying23 rfl (ha.keep e1) ?_
  refine O.gtrI rfl rfl ?_
  refine O.mv ?_
  refine O.splitD (x := .tmp 19) rfl (fun c19 => ?_) (fun c19 => ?_)
  ·
    refine O.no rfl (noB (isT rfl c19) rfl) ?_
    refine O.no rfl (noB (isT rfl c19) rfl) ?_
    refine O.no rfl (noB (isT rfl c19) rfl) ?_
    refine O.pickT (isT rfl c19) ?_
    refine O.mv ?_
    refine O.no rfl (noB rfl rfl) ?_
    refine O.no rfl (noB rfl rfl) ?_
    refine O.no rfl (noB rfl rfl) ?_
    refine O.pickT rfl ?_
    refine O.mv ?_
    refine O.no rfl (noB rfl rfl) ?_
    refine O.no rfl (noB rfl rfl) ?_
    refine O.no rfl (noB rfl rfl) ?_
    refine O.pickT rfl ?_
    refine O.mv ?_
    refine O.no rfl (noB rfl rfl) ?_
    refine O.no rfl (noB rfl rfl) ?_
    refine O.no rfl (noB rfl rfl) ?_
    refine O.pickT rfl ?_
    refine O.mv ?_
    refine O.no rfl (noB rfl rfl) ?_
    refine O.no rfl (noB rfl rfl) ?_
    refine O.no rfl (noB rfl rfl) ?_
    refine O.pickT rfl ?_
    refine O.nil ?_
    refine hK3 _ _ ?_
    refine C.condT rfl ?_
    refine C.seqK fun K4 hK4 => ?_
    refine C.region ?_
    refine O.call Tryz.call8 (argsN) (known_spec es er _ (htb.keep e1) (hes.keep e1) (her.keep e1) g1 g2) ?_
    rintro v_44 w2 ⟨rfl, e2⟩
    have z2 := e2.size
    refine O.asg ?_
    refine O.nil ?_
    refine hK4 _ _ ?_
    refine C.ret ?_
    refine Outs.one rfl rfl ?_
    exact ⟨rfl, (Ext.trans e1 e2)⟩
  ·
    refine O.yes rfl (isF rfl c19) ?_
    refine O.mv ?_
    refine O.yes rfl (isF rfl c19) ?_
    refine O.len Tryz.underlying23 rfl (hb.keep e1) ?_
    refine O.yes rfl (isF rfl c19) ?_
    refine O.gtrI rfl rfl ?_
    refine O.pickF (isF rfl c19) ?_
    refine O.mv ?_
    refine O.splitD (x := .tmp 24) rfl (fun c24 => ?_) (fun c24 => ?_)
    ·
      refine O.no rfl (noB (isT rfl c24) rfl) ?_
      refine O.no rfl (noB (isT rfl c24) rfl) ?_
      refine O.no rfl (noB (isT rfl c24) rfl) ?_
      refine O.pickT (isT rfl c24) ?_
      refine O.mv ?_
      refine O.no rfl (noB rfl rfl) ?_
      refine O.no rfl (noB rfl rfl) ?_
      refine O.no rfl (noB rfl rfl) ?_
      refine O.pickT rfl ?_
      refine O.mv ?_
      refine O.no rfl (noB rfl rfl) ?_
      refine O.no rfl (noB rfl rfl) ?_
      refine O.no rfl (noB rfl rfl) ?_
      refine O.pickT rfl ?_
      refine O.mv ?_
      refine O.no rfl (noB rfl rfl) ?_
      refine O.no rfl (noB rfl rfl) ?_
      refine O.no rfl (noB rfl rfl) ?_
      refine O.pickT rfl ?_
      refine O.nil ?_
      refine hK3 _ _ ?_
      refine C.condT rfl ?_
      refine C.seqK fun K5 hK5 => ?_
      refine C.region ?_
      refine O.call Tryz.call8 (argsN) (known_spec es er _ (htb.keep e1) (hes.keep e1) (her.keep e1) g1 g2) ?_
      rintro v_44 w3 ⟨rfl, e3⟩
      have z3 := e3.size
      refine O.asg ?_
      refine O.nil ?_
      refine hK5 _ _ ?_
      refine C.ret ?_
      refine Outs.one rfl rfl ?_
      exact ⟨rfl, (Ext.trans e1 e3)⟩
    ·
      refine O.yes rfl (isF rfl c24) ?_
      refine O.mv ?_
      refine O.yes rfl (isF rfl c24) ?_
      refine O.len Tryz.underlying23 rfl (hc.keep e1) ?_
      refine O.yes rfl (isF rfl c24) ?_
      refine O.gtrI rfl rfl ?_
      refine O.pickF (isF rfl c24) ?_
      refine O.mv ?_
      refine O.splitD (x := .tmp 29) rfl (fun c29 => ?_) (fun c29 => ?_)
      ·
        refine O.no rfl (noB (isT rfl c29) rfl) ?_
        refine O.no rfl (noB (isT rfl c29) rfl) ?_
        refine O.no rfl (noB (isT rfl c29) rfl) ?_
        refine O.pickT (isT rfl c29) ?_
        refine O.mv ?_
        refine O.no rfl (noB rfl rfl) ?_
        refine O.no rfl (noB rfl rfl) ?_
        refine O.no rfl (noB rfl rfl) ?_
        refine O.pickT rfl ?_
        refine O.mv ?_
        refine O.no rfl (noB rfl rfl) ?_
        refine O.no rfl (noB rfl rfl) ?_
        refine O.no rfl (noB rfl rfl) ?_
        refine O.pickT rfl ?_
        refine O.nil ?_
        refine hK3 _ _ ?_
        refine C.condT rfl ?_
        refine C.seqK fun K6 hK6 => ?_
        refine C.region ?_
        refine O.call Tryz.call8 (argsN) (known_spec es er _ (htb.keep e1) (hes.keep e1) (her.keep e1) g1 g2) ?_
        rintro v_44 w4 ⟨rfl, e4⟩
        have z4 := e4.size
        refine O.asg ?_
        refine O.nil ?_
        refine hK6 _ _ ?_
        refine C.ret ?_
        refine Outs.one rfl rfl ?_
        exact ⟨rfl, (Ext.trans e1 e4)⟩
      ·
        refine O.yes rfl (isF rfl c29) ?_
        refine O.mv ?_
        refine O.yes rfl (isF rfl c29) ?_
        refine O.call Tryz.call9 (args1 rfl) (vecValid_spec _ _ _ _ (ha.keep e1)) ?_
        rintro v_31 w5 ⟨rfl, e5⟩
        have z5 := e5.size
        refine O.yes rfl (isF rfl c29) ?_
        refine O.not rfl ?_
        refine O.pickF (isF rfl c29) ?_
        refine O.mv ?_
        refine O.split (x := .tmp 34) rfl (fun c34 => ?_) (fun c34 => ?_)
        ·
          refine O.no rfl (noB (isT' rfl c34) rfl) ?_
          refine O.no rfl (noB (isT' rfl c34) rfl) ?_
          refine O.no rfl (noB (isT' rfl c34) rfl) ?_
          refine O.pickT (isT' rfl c34) ?_
          refine O.mv ?_
          refine O.no rfl (noB rfl rfl) ?_
          refine O.no rfl (noB rfl rfl) ?_
          refine O.no rfl (noB rfl rfl) ?_
          refine O.pickT rfl ?_
          refine O.nil ?_
          refine hK3 _ _ ?_
          refine C.condT rfl ?_
          refine C.seqK fun K7 hK7 => ?_
          refine C.region ?_
          refine O.call Tryz.call8 (argsN) (known_spec es er _ ((htb.keep e1).keep e5) ((hes.keep e1).keep e5) ((her.keep e1).keep e5) g1 g2) ?_
          rintro v_44 w6 ⟨rfl, e6⟩
          have z6 := e6.size
          refine O.asg ?_
          refine O.nil ?_
          refine hK7 _ _ ?_
          refine C.ret ?_
          refine Outs.one rfl rfl ?_
          exact ⟨rfl, (Ext.trans (Ext.trans e1 e5) e6)⟩
        ·
          have hva : Cn.vecValid a = true := by simpa using c34
          refine O.yes rfl (isF' rfl c34) ?_
          refine O.mv ?_
          refine O.yes rfl (isF' rfl c34) ?_
          refine O.call Tryz.call9 (args1 rfl) (vecValid_spec _ _ _ _ ((hb.keep e1).keep e5)) ?_
          rintro v_36 w7 ⟨rfl, e7⟩
          have z7 := e7.size
          refine O.yes rfl (isF' rfl c34) ?_
          refine O.not rfl ?_
          refine O.pickF (isF' rfl c34) ?_
          refine O.mv ?_
          refine O.split (x := .tmp 39) rfl (fun c39 => ?_) (fun c39 => ?_)
          ·
            refine O.no rfl (noB (isT' rfl c39) rfl) ?_
            refine O.no rfl (noB (isT' rfl c39) rfl) ?_
            refine O.no rfl (noB (isT' rfl c39) rfl) ?_
            refine O.pickT (isT' rfl c39) ?_
            refine O.nil ?_
            refine hK3 _ _ ?_
            refine C.condT rfl ?_
            refine C.seqK fun K8 hK8 => ?_
            refine C.region ?_
            refine O.call Tryz.call8 (argsN) (known_spec es er _ (((htb.keep e1).keep e5).keep e7) (((hes.keep e1).keep e5).keep e7) (((her.keep e1).keep e5).keep e7) g1 g2) ?_
            rintro v_44 w8 ⟨rfl, e8⟩
            have z8 := e8.size
            refine O.asg ?_
            refine O.nil ?_
            refine hK8 _ _ ?_
            refine C.ret ?_
            refine Outs.one rfl rfl ?_
            exact ⟨rfl, (Ext.trans (Ext.trans (Ext.trans e1 e5) e7) e8)⟩
          ·
            have hvb : Cn.vecValid b = true := by simpa using c39
            refine O.yes rfl (isF' rfl c39) ?_
            refine O.mv ?_
            refine O.yes rfl (isF' rfl c39) ?_
            refine O.call Tryz.call9 (args1 rfl) (vecValid_spec _ _ _ _ (((hc.keep e1).keep e5).keep e7)) ?_
            rintro v_41 w9 ⟨rfl, e9⟩
            have z9 := e9.size
            refine O.yes rfl (isF' rfl c39) ?_
            refine O.not rfl ?_
            refine O.pickF (isF' rfl c39) ?_
            refine O.nil ?_
            refine hK3 _ _ ?_
            refine C.cond rfl (fun c43 => ?_) (fun c43 => ?_)
            ·
              refine C.seqK fun K9 hK9 => ?_
              refine C.region ?_
              refine O.call Tryz.call8 (argsN) (known_spec es er _ ((((htb.keep e1).keep e5).keep e7).keep e9) ((((hes.keep e1).keep e5).keep e7).keep e9) ((((her.keep e1).keep e5).keep e7).keep e9) g1 g2) ?_
              rintro v_44 w10 ⟨rfl, e10⟩
              have z10 := e10.size
              refine O.asg ?_
              refine O.nil ?_
              refine hK9 _ _ ?_
              refine C.ret ?_
              refine Outs.one rfl rfl ?_
              exact ⟨rfl, (Ext.trans (Ext.trans (Ext.trans (Ext.trans e1 e5) e7) e9) e10)⟩
            ·
              have hvc : Cn.vecValid c = true := by simpa using c43
              have hoka := Vc.ok_iff.1 hva
              have hokb := Vc.ok_iff.1 hvb
              have hokc := Vc.ok_iff.1 hvc
              have hvab := Vc.ok_iff.2 (Vc.ok_mrg hoka hokb)
              have hvbc := Vc.ok_iff.2 (Vc.ok_mrg hokb hokc)
              have hgab : (Cn.vecValid a && Cn.vecValid b) = true := by rw [hva, hvb]; rfl
              have hgba : (Cn.vecValid b && Cn.vecValid a) = true := by rw [hvb, hva]; rfl
              have hgbc : (Cn.vecValid b && Cn.vecValid c) = true := by rw [hvb, hvc]; rfl
              have hgaa : (Cn.vecValid a && Cn.vecValid a) = true := by rw [hva]; rfl
              have hgx : (Cn.vecValid (Vc.mrg a b) && Cn.vecValid c) = true := by rw [hvab, hvc]; rfl
              have hgabc : (Cn.vecValid a && Cn.vecValid (Vc.mrg b c)) = true := by rw [hva, hvbc]; rfl
              have hgaab : (Cn.vecValid a && Cn.vecValid (Vc.mrg a b)) = true := by rw [hva, hvab]; rfl
              have hlab : (Vc.mrg a b).length ≤ a.length + b.length := by have q := Vc.of_len (a ++ b); rw [List.length_append] at q; exact q
              have hlbc : (Vc.mrg b c).length ≤ b.length + c.length := by have q := Vc.of_len (b ++ c); rw [List.length_append] at q; exact q
              refine C.skip ?_
              refine hK2 _ _ ?_
              refine C.seqK fun K10 hK10 => ?_
              refine C.region ?_
              refine O.mv ?_
              refine O.mv ?_
              refine O.call Tryz.call23 (args2 rfl rfl) (vmerge_spec v0 a v1 b F F2 _ ((((ha.keep e1).keep e5).keep e7).keep e9) ((((hb.keep e1).keep e5).keep e7).keep e9) (fun j hj => by have q1 := hF j hj; omega) (fun j hj => by have q1 := hF2 j hj; omega) (by omega) (by omega)) ?_
              rintro v_48 w11 ⟨e11, uv48, rfl, h48⟩
              have z11 := e11.size
              have h48s := h48.sl
              rw [hgab, if_pos rfl] at h48s
              have hq48 := h48.bk_ge
              refine O.mv ?_
              refine O.extract rfl rfl ?_
              refine O.extract rfl rfl ?_
              refine O.asg ?_
              refine O.asg ?_
              refine O.nil ?_
              refine hK10 _ _ ?_
              refine C.seqK fun K11 hK11 => ?_
              refine C.region ?_
              refine O.mv ?_
              refine O.mv ?_
              refine O.call Tryz.call23 (args2 rfl rfl) (vmerge_spec v1 b v2 c F2 F3 _ (((((hb.keep e1).keep e5).keep e7).keep e9).keep e11) (((((hc.keep e1).keep e5).keep e7).keep e9).keep e11) (fun j hj => by have q1 := hF2 j hj; omega) (fun j hj => by have q1 := hF3 j hj; omega) (by omega) (by omega)) ?_
              rintro v_54 w12 ⟨e12, uv54, rfl, h54⟩
              have z12 := e12.size
              have h54s := h54.sl
              rw [hgbc, if_pos rfl] at h54s
              have hq54 := h54.bk_ge
              refine O.mv ?_
              refine O.extract rfl rfl ?_
              refine O.extract rfl rfl ?_
              refine O.asg ?_
              refine O.asg ?_
              refine O.nil ?_
              refine hK11 _ _ ?_
              refine C.seqK fun K12 hK12 => ?_
              refine C.seqK fun K13 hK13 => ?_
              refine C.region ?_
              refine O.mv ?_
              refine O.neqI rfl rfl ?_
              refine O.cast (v' := .bool false) (congrArg Value.bool (by simp [hgab])) ?_
              refine O.mv ?_
              refine O.yes rfl rfl ?_
              refine O.mv ?_
              refine O.yes rfl rfl ?_
              refine O.neqI rfl rfl ?_
              refine O.cast (v' := .bool false) (congrArg Value.bool (by simp [hgbc])) ?_
              refine O.pickF rfl ?_
              refine O.mv ?_
              refine O.yes rfl rfl ?_
              refine O.mv ?_
              refine O.yes rfl rfl ?_
              refine O.mv ?_
              refine O.yes rfl rfl ?_
              refine O.mv ?_
              refine O.yes rfl rfl ?_
              refine O.call Tryz.call21 (args4 rfl rfl rfl rfl) (merged_spec v1 b v0 a F2 F uv48 (Vc.mrg a b) 0 _ _ ((((((hb.keep e1).keep e5).keep e7).keep e9).keep e11).keep e12) ((((((ha.keep e1).keep e5).keep e7).keep e9).keep e11).keep e12) (fun j hj => by have q1 := hF2 j hj; omega) (fun j hj => by have q1 := hF j hj; omega) (by omega) (by omega) (h48s.keep e12) (by rw [hgba, if_pos rfl]; exact Vc.mrg_comm hokb hoka) (by rw [hgba]; rfl)) ?_
              rintro v_67 w13 ⟨rfl, e13⟩
              have z13 := e13.size
              refine O.yes rfl rfl ?_
              refine O.not rfl ?_
              refine O.cast (v' := .bool false) rfl ?_
              refine O.pickF rfl ?_
              refine O.mv ?_
              refine O.yes rfl rfl ?_
              refine O.mv ?_
              refine O.yes rfl rfl ?_
              refine O.mv ?_
              refine O.yes rfl rfl ?_
              refine O.mv ?_
              refine O.yes rfl rfl ?_
              refine O.call Tryz.call21 (args4 rfl rfl rfl rfl) (merged_spec v0 a v0 a F F v0 a 0 _ _ (((((((ha.keep e1).keep e5).keep e7).keep e9).keep e11).keep e12).keep e13) (((((((ha.keep e1).keep e5).keep e7).keep e9).keep e11).keep e12).keep e13) (fun j hj => by have q1 := hF j hj; omega) (fun j hj => by have q1 := hF j hj; omega) (by omega) (by omega) (((((((ha.keep e1).keep e5).keep e7).keep e9).keep e11).keep e12).keep e13) (by rw [hgaa, if_pos rfl]; exact Vc.mrg_self hoka) (by rw [hgaa]; rfl)) ?_
              rintro v_74 w14 ⟨rfl, e14⟩
              have z14 := e14.size
              refine O.yes rfl rfl ?_
              refine O.not rfl ?_
              refine O.cast (v' := .bool false) rfl ?_
              refine O.pickF rfl ?_
              refine O.mv ?_
              refine O.yes rfl rfl ?_
              refine O.mv ?_
              refine O.yes rfl rfl ?_
              refine O.call Tryz.call9 (args1 rfl) (vecValid_spec uv48 (Vc.mrg a b) _ _ (((h48s.keep e12).keep e13).keep e14)) ?_
              rintro v_79 w15 ⟨rfl, e15⟩
              have z15 := e15.size
              refine O.yes rfl rfl ?_
              refine O.not rfl ?_
              refine O.cast (v' := .bool false) (congrArg Value.bool (by rw [hvab]; rfl)) ?_
              refine O.pickF rfl ?_
              refine O.nil ?_
              refine hK13 _ _ ?_
              refine C.condF rfl ?_
              refine C.skip ?_
              refine hK12 _ _ ?_
              refine C.seqK fun K14 hK14 => ?_
              refine C.region ?_
              refine O.mv ?_
              refine O.mv ?_
              refine O.call Tryz.call23 (args2 rfl rfl) (vmerge_spec uv48 (Vc.mrg a b) v2 c _ F3 _ ((((h48s.keep e12).keep e13).keep e14).keep e15) (((((((((hc.keep e1).keep e5).keep e7).keep e9).keep e11).keep e12).keep e13).keep e14).keep e15) (fun j hj => by have q1 := hq48 j hj; omega) (fun j hj => by have q1 := hF3 j hj; omega) (by omega) (by omega)) ?_
              rintro v_85 w16 ⟨e16, uv85, rfl, h85⟩
              have z16 := e16.size
              have h85s := h85.sl
              rw [hgx, if_pos rfl] at h85s
              have hq85 := h85.bk_ge
              refine O.mv ?_
              refine O.extract rfl rfl ?_
              refine O.extract rfl rfl ?_
              refine O.asg ?_
              refine O.asg ?_
              refine O.nil ?_
              refine hK14 _ _ ?_
              refine C.seqK fun K15 hK15 => ?_
              refine C.seqK fun K16 hK16 => ?_
              refine C.region ?_
              refine O.mv ?_
              refine O.neqI rfl rfl ?_
              refine O.cast (v' := .bool false) (congrArg Value.bool (by simp [hgx])) ?_
              refine O.mv ?_
              refine O.yes rfl rfl ?_
              refine O.mv ?_
              refine O.yes rfl rfl ?_
              refine O.mv ?_
              refine O.yes rfl rfl ?_
              refine O.mv ?_
              refine O.yes rfl rfl ?_
              refine O.call Tryz.call21 (args4 rfl rfl rfl rfl) (merged_spec v0 a uv54 (Vc.mrg b c) F _ uv85 (Vc.mrg (Vc.mrg a b) c) 0 _ _ ((((((((((ha.keep e1).keep e5).keep e7).keep e9).keep e11).keep e12).keep e13).keep e14).keep e15).keep e16) ((((h54s.keep e13).keep e14).keep e15).keep e16) (fun j hj => by have q1 := hF j hj; omega) (fun j hj => by have q1 := hq54 j hj; omega) (by omega) (by omega) h85s (by rw [hgabc, if_pos rfl]; exact (Vc.mrg_assoc hoka hokb hokc).symm) (by rw [hgabc]; rfl)) ?_
              rintro v_94 w17 ⟨rfl, e17⟩
              have z17 := e17.size
              refine O.yes rfl rfl ?_
              refine O.not rfl ?_
              refine O.cast (v' := .bool false) rfl ?_
              refine O.pickF rfl ?_
              refine O.nil ?_
              refine hK16 _ _ ?_
              refine C.condF rfl ?_
              refine C.skip ?_
              refine hK15 _ _ ?_
              refine C.seqK fun K17 hK17 => ?_
              refine C.region ?_
              refine O.mv ?_
              refine O.mv ?_
              refine O.call Tryz.call31 (args2 rfl rfl) (vorder_spec v0 a uv48 (Vc.mrg a b) F _ _ (((((((((((ha.keep e1).keep e5).keep e7).keep e9).keep e11).keep e12).keep e13).keep e14).keep e15).keep e16).keep e17) ((((((h48s.keep e12).keep e13).keep e14).keep e15).keep e16).keep e17) (fun j hj => by have q1 := hF j hj; omega) (fun j hj => by have q1 := hq48 j hj; omega) (by omega) (by omega)) ?_
              rintro v_100 w18 ⟨rfl, e18⟩
              have z18 := e18.size
              have hord : (if Cn.vecValid a && Cn.vecValid (Vc.mrg a b) then Vc.order a (Vc.mrg a b) else 0) = if a = Vc.mrg a b then 0 else -1 := by
                rw [hgaab, if_pos rfl]
                unfold Vc.order
                rw [if_pos (Vc.mrg_left hoka hokb)]
              have q9 : decide ((if a = Vc.mrg a b then (0 : Int) else -1) = 0) = decide (a = Vc.mrg a b) := by
                by_cases h : a = Vc.mrg a b
                · rw [if_pos h, decide_eq_true h]; rfl
                · rw [if_neg h, decide_eq_false h]; rfl
              refine O.mv ?_
              refine O.extract rfl rfl ?_
              refine O.cast (v' := .int .i64 (if a = Vc.mrg a b then 0 else -1)) (congrArg (Value.int .i64) hord) ?_
              refine O.extract rfl rfl ?_
              refine O.asg ?_
              refine O.asg ?_
              refine O.nil ?_
              refine hK17 _ _ ?_
              refine C.seqK fun K18 hK18 => ?_
              refine C.seqK fun K19 hK19 => ?_
              refine C.draw (by kernel_rfl) fun w19 e19 => ?_
              have z19 := e19.size
              refine D.take (i := 0) rfl rfl rfl rfl (by kernel_rfl) (Le.refl _) ⟨pure _, rfl⟩ (fun w_ hw_ N_ hN => (O.mv (O.nil hN))) ?_
              refine D.take (i := 1) rfl rfl rfl rfl (by kernel_rfl) (Le.refl _) ⟨_, rfl⟩ (fun w_ hw_ N_ hN => (O.neqI rfl rfl (O.nil hN))) ?_
              refine D.cast (v' := .bool false) (congrArg Value.bool (by simp [hgaab])) ?_
              refine D.take (i := 2) rfl rfl rfl rfl (by kernel_rfl) (Le.refl _) ⟨pure _, rfl⟩ (fun w_ hw_ N_ hN => (O.mv (O.nil hN))) ?_
              refine D.takeYes (i := 3) rfl rfl rfl (by kernel_rfl) rfl rfl (Le.refl _) ⟨pure _, rfl⟩ (fun w_ hw_ N_ hN => (O.mv (O.nil hN))) ?_
              refine D.takeYes (i := 4) rfl rfl rfl (by kernel_rfl) rfl rfl (Le.refl _) ⟨_, rfl⟩ (fun w_ hw_ N_ hN => (O.neqI rfl rfl (O.nil hN))) ?_
              refine D.takeYes (i := 5) rfl rfl rfl (by kernel_rfl) rfl rfl (Le.refl _) ⟨pure _, rfl⟩ (fun w_ hw_ N_ hN => (O.mv (O.nil hN))) ?_
              refine D.splitD (x := .tmp 108) rfl (fun c108 => ?_) (fun c108 => ?_)
              ·
                refine D.takeYes (i := 6) rfl rfl rfl (by kernel_rfl) rfl (isT rfl c108) (Le.refl _) ⟨pure _, rfl⟩ (fun w_ hw_ N_ hN => (O.mv (O.nil hN))) ?_
                refine D.takeYes (i := 7) rfl rfl rfl (by kernel_rfl) rfl (isT rfl c108) (Le.refl _) ⟨_, rfl⟩ (fun w_ hw_ N_ hN => (O.neqI rfl rfl (O.nil hN))) ?_
                refine D.cast (v' := .bool false) (congrArg Value.bool (by rw [if_neg (show ¬ a = Vc.mrg a b from fun h => c108 (if_pos h))]; rfl)) ?_
                refine D.takeYes (i := 8) rfl rfl rfl (by kernel_rfl) rfl rfl (Le.refl _) pick_form (fun w_ hw_ N_ hN => (O.pickT (isT rfl c108) (O.nil hN))) ?_
                refine D.take (i := 9) rfl rfl rfl rfl (by kernel_rfl) (Le.refl _) pick_form (fun w_ hw_ N_ hN => (O.pickF rfl (O.nil hN))) ?_
                refine D.take (i := 10) rfl rfl rfl rfl (by kernel_rfl) (Le.refl _) ⟨pure _, rfl⟩ (fun w_ hw_ N_ hN => (O.mv (O.nil hN))) ?_
                refine D.takeYes (i := 11) rfl rfl rfl (by kernel_rfl) rfl rfl (Le.refl _) ⟨pure _, rfl⟩ (fun w_ hw_ N_ hN => (O.mv (O.nil hN))) ?_
                refine D.takeYes (i := 12) rfl rfl rfl (by kernel_rfl) rfl rfl (Le.refl _) ⟨_, rfl⟩ (fun w_ hw_ N_ hN => (O.eqlI rfl rfl (O.nil hN))) ?_
                refine D.takeYes (i := 13) rfl rfl rfl (by kernel_rfl) rfl rfl (Le.refl _) ⟨pure _, rfl⟩ (fun w_ hw_ N_ hN => (O.mv (O.nil hN))) ?_
                refine D.takeYes (i := 14) rfl rfl rfl (by kernel_rfl) rfl rfl (Le.refl _) ⟨pure _, rfl⟩ (fun w_ hw_ N_ hN => (O.mv (O.nil hN))) ?_
                refine D.oneYes (i := 15) rfl rfl rfl (by kernel_rfl) ?_
                refine O.call Tryz.call17 (args2 rfl rfl) (same_spec v0 a uv48 (Vc.mrg a b) _ _ _ (((((((((((((ha.keep e1).keep e5).keep e7).keep e9).keep e11).keep e12).keep e13).keep e14).keep e15).keep e16).keep e17).keep e18).keep e19) ((((((((h48s.keep e12).keep e13).keep e14).keep e15).keep e16).keep e17).keep e18).keep e19)) ?_
                rintro v_118 w20 ⟨rfl, e20⟩
                have z20 := e20.size
                refine O.nil ⟨e20, ?_⟩
                refine D.takeYes (i := 16) rfl rfl rfl (by kernel_rfl) rfl rfl e20 ⟨_, rfl⟩ (fun w_ hw_ N_ hN => (O.neqB Tryz.underlying4 rfl rfl (O.nil hN))) ?_
                refine D.cast (v' := .bool false) (congrArg Value.bool (by rw [q9]; simp)) ?_
                refine D.take (i := 17) rfl rfl rfl rfl (by kernel_rfl) e20 pick_form (fun w_ hw_ N_ hN => (O.pickF rfl (O.nil hN))) ?_
                refine D.take (i := 18) rfl rfl rfl rfl (by kernel_rfl) e20 ⟨pure _, rfl⟩ (fun w_ hw_ N_ hN => (O.mv (O.nil hN))) ?_
                refine D.takeYes (i := 19) rfl rfl rfl (by kernel_rfl) rfl rfl e20 ⟨pure _, rfl⟩ (fun w_ hw_ N_ hN => (O.mv (O.nil hN))) ?_
                refine D.takeYes (i := 20) rfl rfl rfl (by kernel_rfl) rfl rfl e20 ⟨_, rfl⟩ (fun w_ hw_ N_ hN => (O.loadOA Tryz.isAgg25 Tryz.sizeOf25 rfl (((((((((((((h7.keep e5).keep e7).keep e9).keep e11).keep e12).keep e13).keep e14).keep e15).keep e16).keep e17).keep e18).keep e19).keep hw_) (Nat.le_of_ble_eq_true rfl) (O.nil hN))) ?_
                refine D.takeYes (i := 22) rfl rfl rfl (by kernel_rfl) rfl rfl e20 ⟨pure _, rfl⟩ (fun w_ hw_ N_ hN => (O.mv (O.nil hN))) ?_
                refine D.takeYes (i := 23) rfl rfl rfl (by kernel_rfl) rfl rfl e20 ⟨_, rfl⟩ (fun w_ hw_ N_ hN => (O.loadOA Tryz.isAgg25 Tryz.sizeOf25 rfl (((((((((((((h7.keep e5).keep e7).keep e9).keep e11).keep e12).keep e13).keep e14).keep e15).keep e16).keep e17).keep e18).keep e19).keep hw_) (Nat.le_of_ble_eq_true rfl) (O.nil hN))) ?_
                refine D.oneYes (i := 21) rfl rfl rfl (by kernel_rfl) ?_
                refine O.call Tryz.call13 (args2 rfl rfl) (vecHas_spec uv48 (Vc.mrg a b) _ d _ (((((((((h48s.keep e12).keep e13).keep e14).keep e15).keep e16).keep e17).keep e18).keep e19).keep e20)) ?_
                rintro v_124 w21 ⟨rfl, e21⟩
                have z21 := e21.size
                refine O.nil ⟨(Ext.trans e20 e21), ?_⟩
                refine D.oneYes (i := 24) rfl rfl rfl (by kernel_rfl) ?_
                refine O.call Tryz.call13 (args2 rfl rfl) (vecHas_spec v0 a F d _ (((((((((((((((ha.keep e1).keep e5).keep e7).keep e9).keep e11).keep e12).keep e13).keep e14).keep e15).keep e16).keep e17).keep e18).keep e19).keep e20).keep e21)) ?_
                rintro v_127 w22 ⟨rfl, e22⟩
                have z22 := e22.size
                refine O.nil ⟨(Ext.trans (Ext.trans e20 e21) e22), ?_⟩
                refine D.takeYes (i := 25) rfl rfl rfl (by kernel_rfl) rfl rfl (Ext.trans (Ext.trans e20 e21) e22) ⟨pure _, rfl⟩ (fun w_ hw_ N_ hN => (O.mv (O.nil hN))) ?_
                refine D.split (x := .tmp 128) rfl (fun c128 => ?_) (fun c128 => ?_)
                ·
                  refine D.takeNo (i := 26) rfl rfl (by kernel_rfl) (Ext.trans (Ext.trans e20 e21) e22) rfl (noB (isT' rfl c128) rfl) ?_
                  refine D.takeNo (i := 27) rfl rfl (by kernel_rfl) (Ext.trans (Ext.trans e20 e21) e22) rfl (noB (isT' rfl c128) rfl) ?_
                  refine D.takeNo (i := 28) rfl rfl (by kernel_rfl) (Ext.trans (Ext.trans e20 e21) e22) rfl (noB (isT' rfl c128) rfl) ?_
                  refine D.takeYes (i := 29) rfl rfl rfl (by kernel_rfl) rfl rfl (Ext.trans (Ext.trans e20 e21) e22) pick_form (fun w_ hw_ N_ hN => (O.pickT (isT' rfl c128) (O.nil hN))) ?_
                  refine D.takeYes (i := 30) rfl rfl rfl (by kernel_rfl) rfl rfl (Ext.trans (Ext.trans e20 e21) e22) ⟨_, rfl⟩ (fun w_ hw_ N_ hN => (O.neqB Tryz.underlying4 rfl rfl (O.nil hN))) ?_
                  refine D.cast (v' := .bool false) (congrArg Value.bool (by rw [Vc.has_mrg hoka hokb d, c128]; simp)) ?_
                  refine D.take (i := 31) rfl rfl rfl rfl (by kernel_rfl) (Ext.trans (Ext.trans e20 e21) e22) pick_form (fun w_ hw_ N_ hN => (O.pickF rfl (O.nil hN))) ?_
                  refine D.done (by kernel_rfl) ?_
                  refine hK19 _ _ ?_
                  refine C.condF rfl ?_
                  refine C.skip ?_
                  refine hK18 _ _ ?_
                  refine C.seqK fun K20 hK20 => ?_
                  refine C.region ?_
                  refine O.mv ?_
                  refine O.call Tryz.call32 (args1 rfl) (vtext2_spec v0 a F _ ((((((((((((((((ha.keep e1).keep e5).keep e7).keep e9).keep e11).keep e12).keep e13).keep e14).keep e15).keep e16).keep e17).keep e18).keep e19).keep e20).keep e21).keep e22) (by omega) ((((((((((((((((htb.keep e1).keep e5).keep e7).keep e9).keep e11).keep e12).keep e13).keep e14).keep e15).keep e16).keep e17).keep e18).keep e19).keep e20).keep e21).keep e22)) ?_
                  rintro v_137 w23 ⟨rfl, e23⟩
                  have z23 := e23.size
                  have htl : (if Cn.vecValid a then Vc.vtext a else []).length ≤ 1000000000000 := by
                    rw [if_pos hva]
                    unfold Vc.vtext
                    have q := Vc.jn_len hoka.2
                    split
                    · decide
                    · omega
                  refine O.mv ?_
                  refine O.extract rfl rfl ?_
                  refine O.extract rfl rfl ?_
                  refine O.asg ?_
                  refine O.asg ?_
                  refine O.nil ?_
                  refine hK20 _ _ ?_
                  refine C.seqK fun K21 hK21 => ?_
                  refine C.region ?_
                  refine O.mv ?_
                  refine O.eqlI rfl rfl ?_
                  refine O.cast (v' := .bool true) (congrArg Value.bool (by simp [hva])) ?_
                  refine O.mv ?_
                  refine O.yes rfl rfl ?_
                  refine O.mv ?_
                  refine O.yes rfl rfl ?_
                  refine O.mv ?_
                  refine O.yes rfl rfl ?_
                  refine O.call Tryz.call30 (args3 rfl rfl rfl) (parses_spec (if Cn.vecValid a then Vc.vtext a else []) v0 a 0 F es er _ htl (((((((((((((((((ha.keep e1).keep e5).keep e7).keep e9).keep e11).keep e12).keep e13).keep e14).keep e15).keep e16).keep e17).keep e18).keep e19).keep e20).keep e21).keep e22).keep e23) (((((((((((((((((htb.keep e1).keep e5).keep e7).keep e9).keep e11).keep e12).keep e13).keep e14).keep e15).keep e16).keep e17).keep e18).keep e19).keep e20).keep e21).keep e22).keep e23) (((((((((((((((((hes.keep e1).keep e5).keep e7).keep e9).keep e11).keep e12).keep e13).keep e14).keep e15).keep e16).keep e17).keep e18).keep e19).keep e20).keep e21).keep e22).keep e23) (((((((((((((((((her.keep e1).keep e5).keep e7).keep e9).keep e11).keep e12).keep e13).keep e14).keep e15).keep e16).keep e17).keep e18).keep e19).keep e20).keep e21).keep e22).keep e23) g1 g2 (by rw [if_pos hva, Vc.parse_text hva]; rfl) (by rw [if_pos hva, Vc.parse_text hva]; rfl)) ?_
                  rintro v_145 w24 ⟨rfl, e24⟩
                  have z24 := e24.size
                  refine O.pickT rfl ?_
                  refine O.mv ?_
                  refine O.yes rfl rfl ?_
                  refine O.call Tryz.call8 (argsN) (known_spec es er _ ((((((((((((((((((htb.keep e1).keep e5).keep e7).keep e9).keep e11).keep e12).keep e13).keep e14).keep e15).keep e16).keep e17).keep e18).keep e19).keep e20).keep e21).keep e22).keep e23).keep e24) ((((((((((((((((((hes.keep e1).keep e5).keep e7).keep e9).keep e11).keep e12).keep e13).keep e14).keep e15).keep e16).keep e17).keep e18).keep e19).keep e20).keep e21).keep e22).keep e23).keep e24) ((((((((((((((((((her.keep e1).keep e5).keep e7).keep e9).keep e11).keep e12).keep e13).keep e14).keep e15).keep e16).keep e17).keep e18).keep e19).keep e20).keep e21).keep e22).keep e23).keep e24) g1 g2) ?_
                  rintro v_148 w25 ⟨rfl, e25⟩
                  have z25 := e25.size
                  refine O.pickT rfl ?_
                  refine O.asg ?_
                  refine O.nil ?_
                  refine hK21 _ _ ?_
                  refine C.ret ?_
                  refine Outs.one rfl rfl ?_
                  exact ⟨rfl, (Ext.trans (Ext.trans (Ext.trans (Ext.trans (Ext.trans (Ext.trans (Ext.trans (Ext.trans (Ext.trans (Ext.trans (Ext.trans (Ext.trans (Ext.trans (Ext.trans (Ext.trans (Ext.trans (Ext.trans (Ext.trans e1 e5) e7) e9) e11) e12) e13) e14) e15) e16) e17) e18) e19) e20) e21) e22) e23) e24) e25)⟩
                ·
                  refine D.takeYes (i := 26) rfl rfl rfl (by kernel_rfl) rfl (isF' rfl c128) (Ext.trans (Ext.trans e20 e21) e22) ⟨pure _, rfl⟩ (fun w_ hw_ N_ hN => (O.mv (O.nil hN))) ?_
                  refine D.takeYes (i := 27) rfl rfl rfl (by kernel_rfl) rfl (isF' rfl c128) (Ext.trans (Ext.trans e20 e21) e22) ⟨_, rfl⟩ (fun w_ hw_ N_ hN => (O.loadOA Tryz.isAgg25 Tryz.sizeOf25 rfl (((((((((((((h7.keep e5).keep e7).keep e9).keep e11).keep e12).keep e13).keep e14).keep e15).keep e16).keep e17).keep e18).keep e19).keep hw_) (Nat.le_of_ble_eq_true rfl) (O.nil hN))) ?_
                  refine D.oneYes (i := 28) rfl rfl (isF' rfl c128) (by kernel_rfl) ?_
                  refine O.call Tryz.call13 (args2 rfl rfl) (vecHas_spec v1 b F2 d _ ((((((((((((((((hb.keep e1).keep e5).keep e7).keep e9).keep e11).keep e12).keep e13).keep e14).keep e15).keep e16).keep e17).keep e18).keep e19).keep e20).keep e21).keep e22)) ?_
                  rintro v_131 w26 ⟨rfl, e26⟩
                  have z26 := e26.size
                  refine O.nil ⟨(Ext.trans (Ext.trans (Ext.trans e20 e21) e22) e26), ?_⟩
                  refine D.takeYes (i := 29) rfl rfl rfl (by kernel_rfl) rfl rfl (Ext.trans (Ext.trans (Ext.trans e20 e21) e22) e26) pick_form (fun w_ hw_ N_ hN => (O.pickF (isF' rfl c128) (O.nil hN))) ?_
                  refine D.takeYes (i := 30) rfl rfl rfl (by kernel_rfl) rfl rfl (Ext.trans (Ext.trans (Ext.trans e20 e21) e22) e26) ⟨_, rfl⟩ (fun w_ hw_ N_ hN => (O.neqB Tryz.underlying4 rfl rfl (O.nil hN))) ?_
                  refine D.cast (v' := .bool false) (congrArg Value.bool (by rw [Vc.has_mrg hoka hokb d, c128]; simp)) ?_
                  refine D.take (i := 31) rfl rfl rfl rfl (by kernel_rfl) (Ext.trans (Ext.trans (Ext.trans e20 e21) e22) e26) pick_form (fun w_ hw_ N_ hN => (O.pickF rfl (O.nil hN))) ?_
                  refine D.done (by kernel_rfl) ?_
                  refine hK19 _ _ ?_
                  refine C.condF rfl ?_
                  refine C.skip ?_
                  refine hK18 _ _ ?_
                  refine C.seqK fun K22 hK22 => ?_
                  refine C.region ?_
                  refine O.mv ?_
                  refine O.call Tryz.call32 (args1 rfl) (vtext2_spec v0 a F _ (((((((((((((((((ha.keep e1).keep e5).keep e7).keep e9).keep e11).keep e12).keep e13).keep e14).keep e15).keep e16).keep e17).keep e18).keep e19).keep e20).keep e21).keep e22).keep e26) (by omega) (((((((((((((((((htb.keep e1).keep e5).keep e7).keep e9).keep e11).keep e12).keep e13).keep e14).keep e15).keep e16).keep e17).keep e18).keep e19).keep e20).keep e21).keep e22).keep e26)) ?_
                  rintro v_137 w27 ⟨rfl, e27⟩
                  have z27 := e27.size
                  have htl : (if Cn.vecValid a then Vc.vtext a else []).length ≤ 1000000000000 := by
                    rw [if_pos hva]
                    unfold Vc.vtext
                    have q := Vc.jn_len hoka.2
                    split
                    · decide
                    · omega
                  refine O.mv ?_
                  refine O.extract rfl rfl ?_
                  refine O.extract rfl rfl ?_
                  refine O.asg ?_
                  refine O.asg ?_
                  refine O.nil ?_
                  refine hK22 _ _ ?_
                  refine C.seqK fun K23 hK23 => ?_
                  refine C.region ?_
                  refine O.mv ?_
                  refine O.eqlI rfl rfl ?_
                  refine O.cast (v' := .bool true) (congrArg Value.bool (by simp [hva])) ?_
                  refine O.mv ?_
                  refine O.yes rfl rfl ?_
                  refine O.mv ?_
                  refine O.yes rfl rfl ?_
                  refine O.mv ?_
                  refine O.yes rfl rfl ?_
                  refine O.call Tryz.call30 (args3 rfl rfl rfl) (parses_spec (if Cn.vecValid a then Vc.vtext a else []) v0 a 0 F es er _ htl ((((((((((((((((((ha.keep e1).keep e5).keep e7).keep e9).keep e11).keep e12).keep e13).keep e14).keep e15).keep e16).keep e17).keep e18).keep e19).keep e20).keep e21).keep e22).keep e26).keep e27) ((((((((((((((((((htb.keep e1).keep e5).keep e7).keep e9).keep e11).keep e12).keep e13).keep e14).keep e15).keep e16).keep e17).keep e18).keep e19).keep e20).keep e21).keep e22).keep e26).keep e27) ((((((((((((((((((hes.keep e1).keep e5).keep e7).keep e9).keep e11).keep e12).keep e13).keep e14).keep e15).keep e16).keep e17).keep e18).keep e19).keep e20).keep e21).keep e22).keep e26).keep e27) ((((((((((((((((((her.keep e1).keep e5).keep e7).keep e9).keep e11).keep e12).keep e13).keep e14).keep e15).keep e16).keep e17).keep e18).keep e19).keep e20).keep e21).keep e22).keep e26).keep e27) g1 g2 (by rw [if_pos hva, Vc.parse_text hva]; rfl) (by rw [if_pos hva, Vc.parse_text hva]; rfl)) ?_
                  rintro v_145 w28 ⟨rfl, e28⟩
                  have z28 := e28.size
                  refine O.pickT rfl ?_
                  refine O.mv ?_
                  refine O.yes rfl rfl ?_
                  refine O.call Tryz.call8 (argsN) (known_spec es er _ (((((((((((((((((((htb.keep e1).keep e5).keep e7).keep e9).keep e11).keep e12).keep e13).keep e14).keep e15).keep e16).keep e17).keep e18).keep e19).keep e20).keep e21).keep e22).keep e26).keep e27).keep e28) (((((((((((((((((((hes.keep e1).keep e5).keep e7).keep e9).keep e11).keep e12).keep e13).keep e14).keep e15).keep e16).keep e17).keep e18).keep e19).keep e20).keep e21).keep e22).keep e26).keep e27).keep e28) (((((((((((((((((((her.keep e1).keep e5).keep e7).keep e9).keep e11).keep e12).keep e13).keep e14).keep e15).keep e16).keep e17).keep e18).keep e19).keep e20).keep e21).keep e22).keep e26).keep e27).keep e28) g1 g2) ?_
                  rintro v_148 w29 ⟨rfl, e29⟩
                  have z29 := e29.size
                  refine O.pickT rfl ?_
                  refine O.asg ?_
                  refine O.nil ?_
                  refine hK23 _ _ ?_
                  refine C.ret ?_
                  refine Outs.one rfl rfl ?_
                  exact ⟨rfl, (Ext.trans (Ext.trans (Ext.trans (Ext.trans (Ext.trans (Ext.trans (Ext.trans (Ext.trans (Ext.trans (Ext.trans (Ext.trans (Ext.trans (Ext.trans (Ext.trans (Ext.trans (Ext.trans (Ext.trans (Ext.trans (Ext.trans e1 e5) e7) e9) e11) e12) e13) e14) e15) e16) e17) e18) e19) e20) e21) e22) e26) e27) e28) e29)⟩
              ·
                refine D.takeNo (i := 6) rfl rfl (by kernel_rfl) (Le.refl _) rfl (noB (isF rfl c108) rfl) ?_
                refine D.takeNo (i := 7) rfl rfl (by kernel_rfl) (Le.refl _) rfl (noB (isF rfl c108) rfl) ?_
                refine D.takeYes (i := 8) rfl rfl rfl (by kernel_rfl) rfl rfl (Le.refl _) pick_form (fun w_ hw_ N_ hN => (O.pickF (isF rfl c108) (O.nil hN))) ?_
                refine D.take (i := 9) rfl rfl rfl rfl (by kernel_rfl) (Le.refl _) pick_form (fun w_ hw_ N_ hN => (O.pickF rfl (O.nil hN))) ?_
                refine D.take (i := 10) rfl rfl rfl rfl (by kernel_rfl) (Le.refl _) ⟨pure _, rfl⟩ (fun w_ hw_ N_ hN => (O.mv (O.nil hN))) ?_
                refine D.takeYes (i := 11) rfl rfl rfl (by kernel_rfl) rfl rfl (Le.refl _) ⟨pure _, rfl⟩ (fun w_ hw_ N_ hN => (O.mv (O.nil hN))) ?_
                refine D.takeYes (i := 12) rfl rfl rfl (by kernel_rfl) rfl rfl (Le.refl _) ⟨_, rfl⟩ (fun w_ hw_ N_ hN => (O.eqlI rfl rfl (O.nil hN))) ?_
                refine D.takeYes (i := 13) rfl rfl rfl (by kernel_rfl) rfl rfl (Le.refl _) ⟨pure _, rfl⟩ (fun w_ hw_ N_ hN => (O.mv (O.nil hN))) ?_
                refine D.takeYes (i := 14) rfl rfl rfl (by kernel_rfl) rfl rfl (Le.refl _) ⟨pure _, rfl⟩ (fun w_ hw_ N_ hN => (O.mv (O.nil hN))) ?_
                refine D.oneYes (i := 15) rfl rfl rfl (by kernel_rfl) ?_
                refine O.call Tryz.call17 (args2 rfl rfl) (same_spec v0 a uv48 (Vc.mrg a b) _ _ _ (((((((((((((ha.keep e1).keep e5).keep e7).keep e9).keep e11).keep e12).keep e13).keep e14).keep e15).keep e16).keep e17).keep e18).keep e19) ((((((((h48s.keep e12).keep e13).keep e14).keep e15).keep e16).keep e17).keep e18).keep e19)) ?_
                rintro v_118 w30 ⟨rfl, e30⟩
                have z30 := e30.size
                refine O.nil ⟨e30, ?_⟩
                refine D.takeYes (i := 16) rfl rfl rfl (by kernel_rfl) rfl rfl e30 ⟨_, rfl⟩ (fun w_ hw_ N_ hN => (O.neqB Tryz.underlying4 rfl rfl (O.nil hN))) ?_
                refine D.cast (v' := .bool false) (congrArg Value.bool (by rw [q9]; simp)) ?_
                refine D.take (i := 17) rfl rfl rfl rfl (by kernel_rfl) e30 pick_form (fun w_ hw_ N_ hN => (O.pickF rfl (O.nil hN))) ?_
                refine D.take (i := 18) rfl rfl rfl rfl (by kernel_rfl) e30 ⟨pure _, rfl⟩ (fun w_ hw_ N_ hN => (O.mv (O.nil hN))) ?_
                refine D.takeYes (i := 19) rfl rfl rfl (by kernel_rfl) rfl rfl e30 ⟨pure _, rfl⟩ (fun w_ hw_ N_ hN => (O.mv (O.nil hN))) ?_
                refine D.takeYes (i := 20) rfl rfl rfl (by kernel_rfl) rfl rfl e30 ⟨_, rfl⟩ (fun w_ hw_ N_ hN => (O.loadOA Tryz.isAgg25 Tryz.sizeOf25 rfl (((((((((((((h7.keep e5).keep e7).keep e9).keep e11).keep e12).keep e13).keep e14).keep e15).keep e16).keep e17).keep e18).keep e19).keep hw_) (Nat.le_of_ble_eq_true rfl) (O.nil hN))) ?_
                refine D.takeYes (i := 22) rfl rfl rfl (by kernel_rfl) rfl rfl e30 ⟨pure _, rfl⟩ (fun w_ hw_ N_ hN => (O.mv (O.nil hN))) ?_
                refine D.takeYes (i := 23) rfl rfl rfl (by kernel_rfl) rfl rfl e30 ⟨_, rfl⟩ (fun w_ hw_ N_ hN => (O.loadOA Tryz.isAgg25 Tryz.sizeOf25 rfl (((((((((((((h7.keep e5).keep e7).keep e9).keep e11).keep e12).keep e13).keep e14).keep e15).keep e16).keep e17).keep e18).keep e19).keep hw_) (Nat.le_of_ble_eq_true rfl) (O.nil hN))) ?_
                refine D.oneYes (i := 21) rfl rfl rfl (by kernel_rfl) ?_
                refine O.call Tryz.call13 (args2 rfl rfl) (vecHas_spec uv48 (Vc.mrg a b) _ d _ (((((((((h48s.keep e12).keep e13).keep e14).keep e15).keep e16).keep e17).keep e18).keep e19).keep e30)) ?_
                rintro v_124 w31 ⟨rfl, e31⟩
                have z31 := e31.size
                refine O.nil ⟨(Ext.trans e30 e31), ?_⟩
                refine D.oneYes (i := 24) rfl rfl rfl (by kernel_rfl) ?_
                refine O.call Tryz.call13 (args2 rfl rfl) (vecHas_spec v0 a F d _ (((((((((((((((ha.keep e1).keep e5).keep e7).keep e9).keep e11).keep e12).keep e13).keep e14).keep e15).keep e16).keep e17).keep e18).keep e19).keep e30).keep e31)) ?_
                rintro v_127 w32 ⟨rfl, e32⟩
                have z32 := e32.size
                refine O.nil ⟨(Ext.trans (Ext.trans e30 e31) e32), ?_⟩
                refine D.takeYes (i := 25) rfl rfl rfl (by kernel_rfl) rfl rfl (Ext.trans (Ext.trans e30 e31) e32) ⟨pure _, rfl⟩ (fun w_ hw_ N_ hN => (O.mv (O.nil hN))) ?_
                refine D.split (x := .tmp 128) rfl (fun c128 => ?_) (fun c128 => ?_)
                ·
                  refine D.takeNo (i := 26) rfl rfl (by kernel_rfl) (Ext.trans (Ext.trans e30 e31) e32) rfl (noB (isT' rfl c128) rfl) ?_
                  refine D.takeNo (i := 27) rfl rfl (by kernel_rfl) (Ext.trans (Ext.trans e30 e31) e32) rfl (noB (isT' rfl c128) rfl) ?_
                  refine D.takeNo (i := 28) rfl rfl (by kernel_rfl) (Ext.trans (Ext.trans e30 e31) e32) rfl (noB (isT' rfl c128) rfl) ?_
                  refine D.takeYes (i := 29) rfl rfl rfl (by kernel_rfl) rfl rfl (Ext.trans (Ext.trans e30 e31) e32) pick_form (fun w_ hw_ N_ hN => (O.pickT (isT' rfl c128) (O.nil hN))) ?_
                  refine D.takeYes (i := 30) rfl rfl rfl (by kernel_rfl) rfl rfl (Ext.trans (Ext.trans e30 e31) e32) ⟨_, rfl⟩ (fun w_ hw_ N_ hN => (O.neqB Tryz.underlying4 rfl rfl (O.nil hN))) ?_
                  refine D.cast (v' := .bool false) (congrArg Value.bool (by rw [Vc.has_mrg hoka hokb d, c128]; simp)) ?_
                  refine D.take (i := 31) rfl rfl rfl rfl (by kernel_rfl) (Ext.trans (Ext.trans e30 e31) e32) pick_form (fun w_ hw_ N_ hN => (O.pickF rfl (O.nil hN))) ?_
                  refine D.done (by kernel_rfl) ?_
                  refine hK19 _ _ ?_
                  refine C.condF rfl ?_
                  refine C.skip ?_
                  refine hK18 _ _ ?_
                  refine C.seqK fun K24 hK24 => ?_
                  refine C.region ?_
                  refine O.mv ?_
                  refine O.call Tryz.call32 (args1 rfl) (vtext2_spec v0 a F _ ((((((((((((((((ha.keep e1).keep e5).keep e7).keep e9).keep e11).keep e12).keep e13).keep e14).keep e15).keep e16).keep e17).keep e18).keep e19).keep e30).keep e31).keep e32) (by omega) ((((((((((((((((htb.keep e1).keep e5).keep e7).keep e9).keep e11).keep e12).keep e13).keep e14).keep e15).keep e16).keep e17).keep e18).keep e19).keep e30).keep e31).keep e32)) ?_
                  rintro v_137 w33 ⟨rfl, e33⟩
                  have z33 := e33.size
                  have htl : (if Cn.vecValid a then Vc.vtext a else []).length ≤ 1000000000000 := by
                    rw [if_pos hva]
                    unfold Vc.vtext
                    have q := Vc.jn_len hoka.2
                    split
                    · decide
                    · omega
                  refine O.mv ?_
                  refine O.extract rfl rfl ?_
                  refine O.extract rfl rfl ?_
                  refine O.asg ?_
                  refine O.asg ?_
                  refine O.nil ?_
                  refine hK24 _ _ ?_
                  refine C.seqK fun K25 hK25 => ?_
                  refine C.region ?_
                  refine O.mv ?_
                  refine O.eqlI rfl rfl ?_
                  refine O.cast (v' := .bool true) (congrArg Value.bool (by simp [hva])) ?_
                  refine O.mv ?_
                  refine O.yes rfl rfl ?_
                  refine O.mv ?_
                  refine O.yes rfl rfl ?_
                  refine O.mv ?_
                  refine O.yes rfl rfl ?_
                  refine O.call Tryz.call30 (args3 rfl rfl rfl) (parses_spec (if Cn.vecValid a then Vc.vtext a else []) v0 a 0 F es er _ htl (((((((((((((((((ha.keep e1).keep e5).keep e7).keep e9).keep e11).keep e12).keep e13).keep e14).keep e15).keep e16).keep e17).keep e18).keep e19).keep e30).keep e31).keep e32).keep e33) (((((((((((((((((htb.keep e1).keep e5).keep e7).keep e9).keep e11).keep e12).keep e13).keep e14).keep e15).keep e16).keep e17).keep e18).keep e19).keep e30).keep e31).keep e32).keep e33) (((((((((((((((((hes.keep e1).keep e5).keep e7).keep e9).keep e11).keep e12).keep e13).keep e14).keep e15).keep e16).keep e17).keep e18).keep e19).keep e30).keep e31).keep e32).keep e33) (((((((((((((((((her.keep e1).keep e5).keep e7).keep e9).keep e11).keep e12).keep e13).keep e14).keep e15).keep e16).keep e17).keep e18).keep e19).keep e30).keep e31).keep e32).keep e33) g1 g2 (by rw [if_pos hva, Vc.parse_text hva]; rfl) (by rw [if_pos hva, Vc.parse_text hva]; rfl)) ?_
                  rintro v_145 w34 ⟨rfl, e34⟩
                  have z34 := e34.size
                  refine O.pickT rfl ?_
                  refine O.mv ?_
                  refine O.yes rfl rfl ?_
                  refine O.call Tryz.call8 (argsN) (known_spec es er _ ((((((((((((((((((htb.keep e1).keep e5).keep e7).keep e9).keep e11).keep e12).keep e13).keep e14).keep e15).keep e16).keep e17).keep e18).keep e19).keep e30).keep e31).keep e32).keep e33).keep e34) ((((((((((((((((((hes.keep e1).keep e5).keep e7).keep e9).keep e11).keep e12).keep e13).keep e14).keep e15).keep e16).keep e17).keep e18).keep e19).keep e30).keep e31).keep e32).keep e33).keep e34) ((((((((((((((((((her.keep e1).keep e5).keep e7).keep e9).keep e11).keep e12).keep e13).keep e14).keep e15).keep e16).keep e17).keep e18).keep e19).keep e30).keep e31).keep e32).keep e33).keep e34) g1 g2) ?_
                  rintro v_148 w35 ⟨rfl, e35⟩
                  have z35 := e35.size
                  refine O.pickT rfl ?_
                  refine O.asg ?_
                  refine O.nil ?_
                  refine hK25 _ _ ?_
                  refine C.ret ?_
                  refine Outs.one rfl rfl ?_
                  exact ⟨rfl, (Ext.trans (Ext.trans (Ext.trans (Ext.trans (Ext.trans (Ext.trans (Ext.trans (Ext.trans (Ext.trans (Ext.trans (Ext.trans (Ext.trans (Ext.trans (Ext.trans (Ext.trans (Ext.trans (Ext.trans (Ext.trans e1 e5) e7) e9) e11) e12) e13) e14) e15) e16) e17) e18) e19) e30) e31) e32) e33) e34) e35)⟩
                ·
                  refine D.takeYes (i := 26) rfl rfl rfl (by kernel_rfl) rfl (isF' rfl c128) (Ext.trans (Ext.trans e30 e31) e32) ⟨pure _, rfl⟩ (fun w_ hw_ N_ hN => (O.mv (O.nil hN))) ?_
                  refine D.takeYes (i := 27) rfl rfl rfl (by kernel_rfl) rfl (isF' rfl c128) (Ext.trans (Ext.trans e30 e31) e32) ⟨_, rfl⟩ (fun w_ hw_ N_ hN => (O.loadOA Tryz.isAgg25 Tryz.sizeOf25 rfl (((((((((((((h7.keep e5).keep e7).keep e9).keep e11).keep e12).keep e13).keep e14).keep e15).keep e16).keep e17).keep e18).keep e19).keep hw_) (Nat.le_of_ble_eq_true rfl) (O.nil hN))) ?_
                  refine D.oneYes (i := 28) rfl rfl (isF' rfl c128) (by kernel_rfl) ?_
                  refine O.call Tryz.call13 (args2 rfl rfl) (vecHas_spec v1 b F2 d _ ((((((((((((((((hb.keep e1).keep e5).keep e7).keep e9).keep e11).keep e12).keep e13).keep e14).keep e15).keep e16).keep e17).keep e18).keep e19).keep e30).keep e31).keep e32)) ?_
                  rintro v_131 w36 ⟨rfl, e36⟩
                  have z36 := e36.size
                  refine O.nil ⟨(Ext.trans (Ext.trans (Ext.trans e30 e31) e32) e36), ?_⟩
                  refine D.takeYes (i := 29) rfl rfl rfl (by kernel_rfl) rfl rfl (Ext.trans (Ext.trans (Ext.trans e30 e31) e32) e36) pick_form (fun w_ hw_ N_ hN => (O.pickF (isF' rfl c128) (O.nil hN))) ?_
                  refine D.takeYes (i := 30) rfl rfl rfl (by kernel_rfl) rfl rfl (Ext.trans (Ext.trans (Ext.trans e30 e31) e32) e36) ⟨_, rfl⟩ (fun w_ hw_ N_ hN => (O.neqB Tryz.underlying4 rfl rfl (O.nil hN))) ?_
                  refine D.cast (v' := .bool false) (congrArg Value.bool (by rw [Vc.has_mrg hoka hokb d, c128]; simp)) ?_
                  refine D.take (i := 31) rfl rfl rfl rfl (by kernel_rfl) (Ext.trans (Ext.trans (Ext.trans e30 e31) e32) e36) pick_form (fun w_ hw_ N_ hN => (O.pickF rfl (O.nil hN))) ?_
                  refine D.done (by kernel_rfl) ?_
                  refine hK19 _ _ ?_
                  refine C.condF rfl ?_
                  refine C.skip ?_
                  refine hK18 _ _ ?_
                  refine C.seqK fun K26 hK26 => ?_
                  refine C.region ?_
                  refine O.mv ?_
                  refine O.call Tryz.call32 (args1 rfl) (vtext2_spec v0 a F _ (((((((((((((((((ha.keep e1).keep e5).keep e7).keep e9).keep e11).keep e12).keep e13).keep e14).keep e15).keep e16).keep e17).keep e18).keep e19).keep e30).keep e31).keep e32).keep e36) (by omega) (((((((((((((((((htb.keep e1).keep e5).keep e7).keep e9).keep e11).keep e12).keep e13).keep e14).keep e15).keep e16).keep e17).keep e18).keep e19).keep e30).keep e31).keep e32).keep e36)) ?_
                  rintro v_137 w37 ⟨rfl, e37⟩
                  have z37 := e37.size
                  have htl : (if Cn.vecValid a then Vc.vtext a else []).length ≤ 1000000000000 := by
                    rw [if_pos hva]
                    unfold Vc.vtext
                    have q := Vc.jn_len hoka.2
                    split
                    · decide
                    · omega
                  refine O.mv ?_
                  refine O.extract rfl rfl ?_
                  refine O.extract rfl rfl ?_
                  refine O.asg ?_
                  refine O.asg ?_
                  refine O.nil ?_
                  refine hK26 _ _ ?_
                  refine C.seqK fun K27 hK27 => ?_
                  refine C.region ?_
                  refine O.mv ?_
                  refine O.eqlI rfl rfl ?_
                  refine O.cast (v' := .bool true) (congrArg Value.bool (by simp [hva])) ?_
                  refine O.mv ?_
                  refine O.yes rfl rfl ?_
                  refine O.mv ?_
                  refine O.yes rfl rfl ?_
                  refine O.mv ?_
                  refine O.yes rfl rfl ?_
                  refine O.call Tryz.call30 (args3 rfl rfl rfl) (parses_spec (if Cn.vecValid a then Vc.vtext a else []) v0 a 0 F es er _ htl ((((((((((((((((((ha.keep e1).keep e5).keep e7).keep e9).keep e11).keep e12).keep e13).keep e14).keep e15).keep e16).keep e17).keep e18).keep e19).keep e30).keep e31).keep e32).keep e36).keep e37) ((((((((((((((((((htb.keep e1).keep e5).keep e7).keep e9).keep e11).keep e12).keep e13).keep e14).keep e15).keep e16).keep e17).keep e18).keep e19).keep e30).keep e31).keep e32).keep e36).keep e37) ((((((((((((((((((hes.keep e1).keep e5).keep e7).keep e9).keep e11).keep e12).keep e13).keep e14).keep e15).keep e16).keep e17).keep e18).keep e19).keep e30).keep e31).keep e32).keep e36).keep e37) ((((((((((((((((((her.keep e1).keep e5).keep e7).keep e9).keep e11).keep e12).keep e13).keep e14).keep e15).keep e16).keep e17).keep e18).keep e19).keep e30).keep e31).keep e32).keep e36).keep e37) g1 g2 (by rw [if_pos hva, Vc.parse_text hva]; rfl) (by rw [if_pos hva, Vc.parse_text hva]; rfl)) ?_
                  rintro v_145 w38 ⟨rfl, e38⟩
                  have z38 := e38.size
                  refine O.pickT rfl ?_
                  refine O.mv ?_
                  refine O.yes rfl rfl ?_
                  refine O.call Tryz.call8 (argsN) (known_spec es er _ (((((((((((((((((((htb.keep e1).keep e5).keep e7).keep e9).keep e11).keep e12).keep e13).keep e14).keep e15).keep e16).keep e17).keep e18).keep e19).keep e30).keep e31).keep e32).keep e36).keep e37).keep e38) (((((((((((((((((((hes.keep e1).keep e5).keep e7).keep e9).keep e11).keep e12).keep e13).keep e14).keep e15).keep e16).keep e17).keep e18).keep e19).keep e30).keep e31).keep e32).keep e36).keep e37).keep e38) (((((((((((((((((((her.keep e1).keep e5).keep e7).keep e9).keep e11).keep e12).keep e13).keep e14).keep e15).keep e16).keep e17).keep e18).keep e19).keep e30).keep e31).keep e32).keep e36).keep e37).keep e38) g1 g2) ?_
                  rintro v_148 w39 ⟨rfl, e39⟩
                  have z39 := e39.size
                  refine O.pickT rfl ?_
                  refine O.asg ?_
                  refine O.nil ?_
                  refine hK27 _ _ ?_
                  refine C.ret ?_
                  refine Outs.one rfl rfl ?_
                  exact ⟨rfl, (Ext.trans (Ext.trans (Ext.trans (Ext.trans (Ext.trans (Ext.trans (Ext.trans (Ext.trans (Ext.trans (Ext.trans (Ext.trans (Ext.trans (Ext.trans (Ext.trans (Ext.trans (Ext.trans (Ext.trans (Ext.trans (Ext.trans e1 e5) e7) e9) e11) e12) e13) e14) e15) e16) e17) e18) e19) e30) e31) e32) e36) e37) e38) e39)⟩

end Go.Proofs.YtbmbaajfkmejgaaGreatDoor
