/-
 The walk of the laws of outboxes: the examples. Conditions: none but for the library's own variable.
-/
import Derived.Test.YtpbcafkcfobngaaGreatDoorCards
import Derived.Test.YtpbcafkcfobngaaGreatDoorTie
import Derived.Test.YtpbcafkcfobngaaGreatDoorOutboxM6
section
namespace Go.Proofs.YtpbcafkcfobngaaGreatDoor
open Go.Pn Go.RowKit Go.Proofs _root_.Go.Proofs.Tryz
attribute [local irreducible] O C D
set_option maxHeartbeats 16000000 in
theorem oknown_spec (w : World) (mx : Mx w) :
 Ret prog 39 #[] w (fun v w' => v = .bool true ∧ Le w w') := by
 obtain ⟨ie50, ti50, ts50, tb50, tz50⟩ := inf50
 obtain ⟨ie9, ti9, ts9, tb9, tz9⟩ := inf9
 have hgl := mx.lt
 refine enT [] 128 func39 rfl rfl (C.sr fun K1 => O.asg (K1 (C.sr fun K2 => O.call call52 (args2 rfl rfl) (someC_spec 1 1 _) ?_)))
 rintro v_10 w1 ⟨qv10, rfl, hv10, e1⟩
 have z1 := e1.size
 have sp1_ : ∃ n, n = w1.heap.size := ⟨_, rfl⟩
 obtain ⟨n1, hn1⟩ := sp1_
 have hca : CartAt w1 (fun j => j < n1) qv10 Ob.c1 := hv10.weakA
 refine O.call call52 (args2 rfl rfl) (someC_spec 2 1 _) ?_
 rintro v_11 w2 ⟨qv11, rfl, hv11, e2⟩
 have z2 := e2.size
 have sp2_ : ∃ n, n = w2.heap.size := ⟨_, rfl⟩
 obtain ⟨n2, hn2⟩ := sp2_
 have hcb : CartAt w2 (fun j => j < n2) qv11 Ob.c2 := hv11.weakA
 refine O.alloc zeroValue47 (fun b1 w3 hb1 hz1 e3 => ?_)
 have z3 := e3.size
 have h1 := hz1.own
 have hl1 := h1.lt
 refine O.alloc zeroValue47 (fun b2 w4 hb2 hz2 e4 => ?_)
 have z4 := e4.size
 have h2 := hz2.own
 have hl2 := h2.lt
 refine O.storeA (vs := [slv qv10.1.1, slv qv10.1.2, slv qv10.2]) Z47 rfl rfl rfl (by intro u hu; simp only [List.mem_cons, List.not_mem_nil, or_false] at hu; rcases hu with rfl | rfl | rfl <;> rfl) (h1.keep e4) (leB rfl) (fun w5 hs5 e5 z5 => O.storeA (vs := [slv qv11.1.1, slv qv11.1.2, slv qv11.2]) Z47 rfl rfl rfl (by intro u hu; simp only [List.mem_cons, List.not_mem_nil, or_false] at hu; rcases hu with rfl | rfl | rfl <;> rfl) (h2.keepO e5) (leB rfl) (fun w6 hs6 e6 z6 => K2 (C.sr fun K3 => O.loadOA isAgg47 Z47 rfl (hs5.keepO e6) (leB rfl) (O.loadOA isAgg47 Z47 rfl hs6 (leB rfl) ?_))))
 have t0 := (hca.keep e2).keep e3
 have t1 := (hcb.keep e3).keep e4
 have t2 := (t0.keep e4).keepA e5
 have t3 := (t1.keepA e5).keepA e6
 have t4 := Ext.trans (Ext.trans e1 e2) e3
 have t5 := Ext.nr (Ext.trans t4 e4) e5
 refine O.call call33 (args2 rfl rfl) (join_spec (slv qv10.1.1) (slv qv10.1.2) (slv qv10.2) Ob.c1 (fun j => j < n1) (slv qv11.1.1) (slv qv11.1.2) (slv qv11.2) Ob.c2 (fun j => j < n2) _ ((t2.keepA e6)).1 ((t2.keepA e6)).2.1 ((t2.keepA e6)).2.2 (t3).1 (t3).2.1 (t3).2.2 (fun j hj => by (try dsimp only at hj); omega) (fun j hj => by (try dsimp only at hj); omega) Ob.good_1 Ob.good_2 (by decide) (by decide) (fun x hx => by have := Ob.t_b1.2.2.2.2 x hx; omega) (fun x hx => by have := Ob.t_b2.2.2.2.2 x hx; omega) (by decide) (by decide) (mx.keep (Ext.nr t5 e6))) ?_
 rintro v_15 w7 ⟨e7, uav15, ubv15, ucv15, rfl, hxv15, hyv15, hzv15⟩
 have z7 := e7.size
 have hp1 := hxv15.slv
 obtain ⟨p1, hp1⟩ := hp1
 have hp2 := hyv15.slv
 obtain ⟨p2, hp2⟩ := hp2
 have hp3 := hzv15.sl.slv
 obtain ⟨p3, hp3⟩ := hp3
 subst hp1 hp2 hp3
 rw [Ob.join_12] at hxv15 hyv15 hzv15
 have sp3_ : ∃ n, n = w7.heap.size := ⟨_, rfl⟩
 obtain ⟨n3, hn3⟩ := sp3_
 have hcc : CartAt w7 (fun j => j < n3) ((p1, p2), p3) Ob.c12 := ⟨hxv15.sl.weak (fun j hj => by have := hj.2; (try dsimp only); omega), hyv15.sl.weak (fun j hj => by have := hj.2; (try dsimp only); omega), hzv15.sl.weak (fun j hj => by have := hj.2; (try dsimp only); omega)⟩
 refine O.mv (O.extract rfl rfl (O.extract rfl rfl (O.alloc zeroValue47 (fun b3 w8 hb3 hz3 e8 => ?_))))
 have z8 := e8.size
 have h3 := hz3.own
 have hl3 := h3.lt
 refine O.storeA (vs := [slv p1, slv p2, slv p3]) Z47 rfl rfl rfl (by intro u hu; simp only [List.mem_cons, List.not_mem_nil, or_false] at hu; rcases hu with rfl | rfl | rfl <;> rfl) h3 (leB rfl) (fun w9 hs9 e9 z9 => O.asg (K3 (C.sr fun K4 => O.call call45 (args1 rfl) (newOk_spec 1 _ (by decide) (by decide)) ?_)))
 rintro v_19 w10 ⟨bv19, rfl, hbv19, hov19, e10⟩
 have z10 := e10.size
 have hob19 : OB 50 112 117 114 71 9 w10 bv19 1 [] [] (.slice none 0 0) (.slice none 0 0) (.slice none 0 0) 0 0 := OB.new hov19
 have sp4_ : ∃ n, n = bv19 := ⟨_, rfl⟩
 obtain ⟨n5, hn5⟩ := sp4_
 have hbl19 := hov19.lt
 have hS0 : ∀ j, OS bv19 (.slice none 0 0) 0 0 j → n5 ≤ j := fun j hj => by
  rcases hj with g | g | g
  ·omega
  ·exact g.elim
  ·omega
 refine O.mv (O.extract rfl rfl (O.extract rfl rfl (O.asg (O.asg (K4 (C.sq fun K5 => C.sq fun K6 => C.join (fun f w f' w' => Ext (fun j => n5 ≤ j) w w' ∧ f' 0 = f 0 ∧ f' 1 = f 1 ∧ f' 3 = f 3 ∧ f' 5 = f 5 ∧ ∃ (uo4 : Value) (ud4 : Value) (us4 : Value) (lo4 : Nat) (hi4 : Nat), f' 65 = .bool false ∧ OB 50 112 117 114 71 9 w' bv19 1 [(Ob.kb, Ob.c12)] [Ob.ka] uo4 ud4 us4 lo4 hi4 ∧ (∀ j, OS bv19 us4 lo4 hi4 j → n5 ≤ j)) ?_ ?_))))))
 ·
  refine C.drawB (wB := w9) (by kernel_rfl) fun w11 e11 => ?_
  have z11 := e11.size
  have t6 := Ext.trans e10 e11
  refine D.mv 0 rfl t6 (D.t 1 rfl t6 (fun _ _ _ hN => O.eqlP0 U68 rfl (O.nil hN)) (D.mv 2 rfl t6 (D.ty 3 rfl rfl rfl rfl rfl t6 ⟨pure _, rfl⟩ (fun _ hw_ _ hN => O.mv (O.nil hN)) (D.ty 4 rfl rfl rfl rfl rfl t6 ⟨_, rfl⟩ (fun _ hw_ _ hN => O.neqI rfl rfl (O.nil hN)) (D.cast (v' := .bool false) (congrArg Value.bool (by exact decide_eq_false (fun h => h rfl))) (D.tk 5 rfl rfl rfl rfl t6 pick_form (fun _ hw_ _ hN => O.pickF rfl (O.nil hN)) (D.mv 6 rfl t6 (D.ty 7 rfl rfl rfl rfl rfl t6 ⟨pure _, rfl⟩ (fun _ hw_ _ hN => O.mv (O.nil hN)) (D.ty 8 rfl rfl rfl rfl rfl t6 ⟨_, rfl⟩ (fun _ hw_ _ hN => O.neqI rfl rfl (O.nil hN)) ?_)))))))))
  refine D.cast (v' := .bool false) (congrArg Value.bool (by exact decide_eq_false (fun h => h rfl))) (D.tk 9 rfl rfl rfl rfl t6 pick_form (fun _ hw_ _ hN => O.pickF rfl (O.nil hN)) (D.mv 10 rfl t6 (D.ty 11 rfl rfl rfl rfl rfl t6 ⟨pure _, rfl⟩ (fun _ hw_ _ hN => O.mv (O.nil hN)) (D.oneYes (i := 12) rfl rfl rfl (by kernel_rfl) (O.loadOA isAgg47 Z47 rfl ((((((hs5.keepO e6).keep e7).keep e8).keepO e9).keep e10).keep e11) (leB rfl) (O.nil ⟨t6, D.oneYes (i := 13) rfl rfl rfl (by kernel_rfl) ?_⟩))))))
  have t7 := Ext.trans (Ext.nr t5 e6) e7
  have t8 := Ext.nr (Ext.trans t7 e8) e9
  have t9 := Ext.trans t8 e10
  have t10 := Ext.trans t9 e11
  have t11 := ((t2.keepA e6).keep e7).keep e8
  have t12 := ((t11.keepA e9).keep e10).keep e11
  refine O.call call40 (args3 rfl rfl rfl) (oPut_spec bv19 1 [] [] (.slice none 0 0) (.slice none 0 0) (.slice none 0 0) 0 0 Ob.kb qv10 Ob.c1 (fun j => j < n1) _ (hob19.keep e11) (by decide) t12 (fun j hj => by (try dsimp only at hj); omega) Bt.Ord.nil List.Pairwise.nil (fun x hx => by cases hx) (fun x hx => by cases hx) (Ob.small_big (Ob.t_one Ob.t_b1)) (Ob.small_mid (Ob.t_one Ob.t_b1)) (by decide) (by decide) (mx.keep t10)) ?_
  rintro v_35 w12 ⟨e9v35, lv35, dv35, uov35, udv35, usv35, lov35, hiv35, rfl, hPv35, hOv35, e12, hSv35⟩
  have z12 := e12.size
  have t13 := Ext.new t6 e12 (by intro i hi h9; have := hS0 i (OS.of h9); omega)
  refine O.nil ⟨t13, ?_⟩
  have hq35 := hPv35.uniq (.inl ⟨Ob.ok_b1, rfl, Ob.put_1⟩)
  obtain ⟨hql35, hqd35, hqe35⟩ := hq35
  subst hql35 hqd35 hqe35
  have hS35 : ∀ j, OS bv19 usv35 lov35 hiv35 j → n5 ≤ j := fun j hj => by
   rcases hSv35 j hj with g | g
   ·exact hS0 j g
   ·omega
  refine D.ty 14 rfl rfl rfl rfl rfl t13 ⟨_, rfl⟩ (fun _ hw_ _ hN => O.neqI rfl rfl (O.nil hN)) (D.cast (v' := .bool false) (congrArg Value.bool (by exact decide_eq_false (fun h => h rfl))) (D.tk 15 rfl rfl rfl rfl t13 pick_form (fun _ hw_ _ hN => O.pickF rfl (O.nil hN)) (D.mv 16 rfl t13 (D.ty 17 rfl rfl rfl rfl rfl t13 ⟨pure _, rfl⟩ (fun _ hw_ _ hN => O.mv (O.nil hN)) (D.oneYes (i := 18) rfl rfl rfl (by kernel_rfl) (O.loadOA isAgg47 Z47 rfl ((((((hs6.keep e7).keep e8).keepO e9).keep e10).keep e11).keepM e12 (fun h9 => by have := hS0 _ (OS.of h9); omega)) (leB rfl) (O.nil ⟨t13, D.oneYes (i := 19) rfl rfl rfl (by kernel_rfl) ?_⟩)))))))
  have t14 := Ext.new t10 e12 (by intro i hi h9; have := hS0 i (OS.of h9); omega)
  refine O.call call40 (args3 rfl rfl rfl) (oPut_spec bv19 1 [(Ob.kb, Ob.c1)] [] uov35 udv35 usv35 lov35 hiv35 Ob.kb qv11 Ob.c2 (fun j => j < n2) _ hOv35 (by decide) ((((((t3.keep e7).keep e8).keepA e9).keep e10).keep e11).keepM e12 (by intro j hj h9; have := hS0 j (OS.of h9); (try dsimp only at hj); omega)) (fun j hj => by (try dsimp only at hj); omega) Ob.ord_1 List.Pairwise.nil (Ob.small_big (Ob.t_one Ob.t_b1)) (Ob.small_mid (Ob.t_one Ob.t_b1)) (Ob.small_big (Ob.t_one Ob.t_b2)) (Ob.small_mid (Ob.t_one Ob.t_b2)) (by decide) (by decide) (mx.keep t14)) ?_
  rintro v_41 w13 ⟨e9v41, lv41, dv41, uov41, udv41, usv41, lov41, hiv41, rfl, hPv41, hOv41, e13, hSv41⟩
  have z13 := e13.size
  have t15 := Ext.new t13 e13 (by intro i hi h9; have := hS35 i (OS.of h9); omega)
  refine O.nil ⟨t15, ?_⟩
  have hq41 := hPv41.uniq (.inl ⟨Ob.ok_b2, rfl, Ob.put_2⟩)
  obtain ⟨hql41, hqd41, hqe41⟩ := hq41
  subst hql41 hqd41 hqe41
  have hS41 : ∀ j, OS bv19 usv41 lov41 hiv41 j → n5 ≤ j := fun j hj => by
   rcases hSv41 j hj with g | g
   ·exact hS35 j g
   ·omega
  refine D.ty 20 rfl rfl rfl rfl rfl t15 ⟨_, rfl⟩ (fun _ hw_ _ hN => O.neqI rfl rfl (O.nil hN)) (D.cast (v' := .bool false) (congrArg Value.bool (by exact decide_eq_false (fun h => h rfl))) (D.tk 21 rfl rfl rfl rfl t15 pick_form (fun _ hw_ _ hN => O.pickF rfl (O.nil hN)) (D.mv 22 rfl t15 (D.ty 23 rfl rfl rfl rfl rfl t15 ⟨pure _, rfl⟩ (fun _ hw_ _ hN => O.mv (O.nil hN)) (D.oneYes (i := 24) rfl rfl rfl (by kernel_rfl) (O.loadOA isAgg47 Z47 rfl ((((((((hs5.keepO e6).keep e7).keep e8).keepO e9).keep e10).keep e11).keepM e12 (fun h9 => by have := hS0 _ (OS.of h9); omega)).keepM e13 (fun h9 => by have := hS35 _ (OS.of h9); omega)) (leB rfl) (O.nil ⟨t15, ?_⟩)))))))
  refine D.oneYes (i := 25) rfl rfl rfl (by kernel_rfl) ?_
  refine O.call call40 (args3 rfl rfl rfl) (oPut_spec bv19 1 [(Ob.kb, Ob.c12)] [] uov41 udv41 usv41 lov41 hiv41 Ob.ka qv10 Ob.c1 (fun j => j < n1) _ hOv41 (by decide) ((t12.keepM e12 (by intro j hj h9; have := hS0 j (OS.of h9); (try dsimp only at hj); omega)).keepM e13 (by intro j hj h9; have := hS35 j (OS.of h9); (try dsimp only at hj); omega)) (fun j hj => by (try dsimp only at hj); omega) Ob.ord_12 List.Pairwise.nil (Ob.small_big (Ob.t_one Ob.t_b12)) (Ob.small_mid (Ob.t_one Ob.t_b12)) (Ob.small_big (Ob.t_one Ob.t_a1)) (Ob.small_mid (Ob.t_one Ob.t_a1)) (by decide) (by decide) (mx.keep (Ext.new t14 e13 (by intro i hi h9; have := hS35 i (OS.of h9); omega)))) ?_
  rintro v_47 w14 ⟨e9v47, lv47, dv47, uov47, udv47, usv47, lov47, hiv47, rfl, hPv47, hOv47, e14, hSv47⟩
  have z14 := e14.size
  have t16 := Ext.new t15 e14 (by intro i hi h9; have := hS41 i (OS.of h9); omega)
  refine O.nil ⟨t16, ?_⟩
  have hq47 := hPv47.uniq (.inl ⟨Ob.ok_a1, rfl, Ob.put_3⟩)
  obtain ⟨hql47, hqd47, hqe47⟩ := hq47
  subst hql47 hqd47 hqe47
  have hS47 : ∀ j, OS bv19 usv47 lov47 hiv47 j → n5 ≤ j := fun j hj => by
   rcases hSv47 j hj with g | g
   ·exact hS41 j g
   ·omega
  refine D.ty 26 rfl rfl rfl rfl rfl t16 ⟨_, rfl⟩ (fun _ hw_ _ hN => O.neqI rfl rfl (O.nil hN)) (D.cast (v' := .bool false) (congrArg Value.bool (by exact decide_eq_false (fun h => h rfl))) (D.tk 27 rfl rfl rfl rfl t16 pick_form (fun _ hw_ _ hN => O.pickF rfl (O.nil hN)) (D.mv 28 rfl t16 (D.ty 29 rfl rfl rfl rfl rfl t16 ⟨pure _, rfl⟩ (fun _ hw_ _ hN => O.mv (O.nil hN)) (D.ty 31 rfl rfl rfl rfl rfl t16 ⟨_, rfl⟩ (fun _ hw_ _ hN => O.loadOA isAgg47 Z47 rfl (hs9.keep hw_) (leB rfl) (O.nil hN)) (D.many [30, 32] (by kernel_rfl) (by decide) ⟨?_, ?_, trivial⟩))))))
  ·
   refine D.stepG rfl rfl rfl (O.call call42 (args1 rfl) (oDeltas_spec bv19 1 [(Ob.kb, Ob.c12)] [Ob.ka] uov47 udv47 usv47 lov47 hiv47 _ hOv47 (by decide) (Ob.small_big (Ob.t_one Ob.t_b12)) (by decide)) ?_)
   rintro v_52 w15 ⟨e15, h52⟩
   have z15 := e15.size
   have t17 := Ext.trans t16 e15
   refine O.nil ⟨t17, ?_⟩
   have hr52 := h52.raws
   obtain ⟨raw52, hra52, hea52⟩ := hr52
   refine D.oneYes (i := 32) rfl rfl rfl (by kernel_rfl) (O.build (cells := #[str Ob.kb, slv p1, slv p2, slv p3]) rfl (by kernel_rfl) (O.nil ⟨t17, D.oneYes (i := 33) rfl rfl rfl (by kernel_rfl) (O.litG (G := entF) [(Ob.kb, ((p1, p2), p3))] U22 ti50 ts50 tz50 rfl (by decide) (by decide) rfl (fun b55 w16 hb55 hz55 e16 => ?_))⟩))
   have z16 := e16.size
   have h55 := hz55.own
   have hq55 := Sl.litG (n := 1) h55 rfl (by unfold maxLen; omega)
   have t18 := Ext.trans t17 e16
   refine O.nil ⟨t18, ?_⟩
   have hl55 := h55.lt
   refine D.oneYes (i := 34) rfl rfl rfl (by kernel_rfl) ?_
   refine O.call call21 (args2 rfl rfl) (sameL_spec v_52 raw52 [(Ob.kb, Ob.c12)] (fun j => j < w16.heap.size) (.slice (some ⟨b55, 0, none⟩) 1 1) [(Ob.kb, ((p1, p2), p3))] [(Ob.kb, Ob.c12)] (fun j => j < w16.heap.size) _ (((hra52.keep e16)).weakA) (((hea52.keep e16)).weakA) ((hq55).weak (fun j hj => by have h0 : j = b55 := hj; (try dsimp only); omega)) (EntL.snoc (raw := []) (l := []) EntL.nil rfl (((((((((((hcc.keep e8).keepA e9).keep e10).keep e11).keepM e12 (by intro j hj h9; have := hS0 j (OS.of h9); (try dsimp only at hj); omega)).keepM e13 (by intro j hj h9; have := hS35 j (OS.of h9); (try dsimp only at hj); omega)).keepM e14 (by intro j hj h9; have := hS41 j (OS.of h9); (try dsimp only at hj); omega)).keep e15).keep e16)).weakA)) (fun j hj => hj) (fun j hj => hj)) ?_
   rintro v_56 w17 ⟨rfl, e17⟩
   have z17 := e17.size
   have t19 := Ext.trans t18 e17
   refine O.nil ⟨t19, D.cast (v' := .bool true) (congrArg Value.bool (by exact decide_eq_true rfl)) (D.ty 35 rfl rfl rfl rfl rfl t19 ⟨_, rfl⟩ (fun _ hw_ _ hN => O.not rfl (O.cast (v' := .bool false) rfl (O.nil hN))) (D.tk 36 rfl rfl rfl rfl t19 pick_form (fun _ hw_ _ hN => O.pickF rfl (O.nil hN)) (D.mv 37 rfl t19 (D.ty 38 rfl rfl rfl rfl rfl t19 ⟨pure _, rfl⟩ (fun _ hw_ _ hN => O.mv (O.nil hN)) (D.many [39, 40] (by kernel_rfl) (by decide) ⟨?_, ?_, trivial⟩)))))⟩
   ·
    refine D.stepG rfl rfl rfl ?_
    have t20 := ((hOv47.keep e15).keep e16).keep e17
    refine O.call call43 (args1 rfl) (oDirty_spec bv19 1 [(Ob.kb, Ob.c12)] [Ob.ka] uov47 udv47 usv47 lov47 hiv47 _ t20 (by decide) (by decide)) ?_
    rintro v_61 w18 ⟨e18, h61⟩
    have z18 := e18.size
    have t21 := Ext.trans t19 e18
    refine O.nil ⟨t21, ?_⟩
    have h61s := h61.sl
    refine D.oneYes (i := 40) rfl rfl rfl (by kernel_rfl) (O.lit1 U69 ti9 ts9 tz9 rfl rfl (fun b62 w19 hb62 hz62 e19 => ?_))
    have z19 := e19.size
    have h62 := hz62.own
    have hl62 := h62.lt
    have t22 := Ext.trans t21 e19
    refine O.nil ⟨t22, ?_⟩
    have hq62 := Sl.litG (G := strF) (n := 1) (vs := [Ob.ka]) h62 rfl (by unfold maxLen; omega)
    refine D.oneYes (i := 41) rfl rfl rfl (by kernel_rfl) (O.call call86 (args2 rfl rfl) (strings2_spec v_61 [Ob.ka] _ (.slice (some ⟨b62, 0, none⟩) 1 1) [Ob.ka] _ _ (h61s.keep e19) hq62) ?_)
    rintro v_63 w20 ⟨rfl, e20⟩
    have z20 := e20.size
    have t23 := Ext.trans t22 e20
    refine O.nil ⟨t23, D.cast (v' := .bool true) (congrArg Value.bool (by exact decide_eq_true rfl)) (D.ty 42 rfl rfl rfl rfl rfl t23 ⟨_, rfl⟩ (fun _ hw_ _ hN => O.not rfl (O.cast (v' := .bool false) rfl (O.nil hN))) (D.tk 43 rfl rfl rfl rfl t23 pick_form (fun _ hw_ _ hN => O.pickF rfl (O.nil hN)) (D.dn ?_)))⟩
    exact ⟨(Ext.new (Ext.new (Ext.new (Ext.new (Ext.new (Ext.new (Ext.new (Ext.new (Ext.new (Ext.new (Ext.refl _ _) e11 (by intro i hi hk; first | exact hk.elim | exact hS0 _ (OS.of hk) | exact hS35 _ (OS.of hk) | exact hS41 _ (OS.of hk))) e12 (by intro i hi hk; first | exact hk.elim | exact hS0 _ (OS.of hk) | exact hS35 _ (OS.of hk) | exact hS41 _ (OS.of hk))) e13 (by intro i hi hk; first | exact hk.elim | exact hS0 _ (OS.of hk) | exact hS35 _ (OS.of hk) | exact hS41 _ (OS.of hk))) e14 (by intro i hi hk; first | exact hk.elim | exact hS0 _ (OS.of hk) | exact hS35 _ (OS.of hk) | exact hS41 _ (OS.of hk))) e15 (by intro i hi hk; first | exact hk.elim | exact hS0 _ (OS.of hk) | exact hS35 _ (OS.of hk) | exact hS41 _ (OS.of hk))) e16 (by intro i hi hk; first | exact hk.elim | exact hS0 _ (OS.of hk) | exact hS35 _ (OS.of hk) | exact hS41 _ (OS.of hk))) e17 (by intro i hi hk; first | exact hk.elim | exact hS0 _ (OS.of hk) | exact hS35 _ (OS.of hk) | exact hS41 _ (OS.of hk))) e18 (by intro i hi hk; first | exact hk.elim | exact hS0 _ (OS.of hk) | exact hS35 _ (OS.of hk) | exact hS41 _ (OS.of hk))) e19 (by intro i hi hk; first | exact hk.elim | exact hS0 _ (OS.of hk) | exact hS35 _ (OS.of hk) | exact hS41 _ (OS.of hk))) e20 (by intro i hi hk; first | exact hk.elim | exact hS0 _ (OS.of hk) | exact hS35 _ (OS.of hk) | exact hS41 _ (OS.of hk))), rfl, rfl, rfl, rfl, ⟨_, _, _, _, _, rfl, (((t20.keep e18).keep e19).keep e20), hS47⟩⟩
   refine D.stepG rfl rfl rfl (O.lit1 U69 ti9 ts9 tz9 rfl rfl (fun b62 w21 hb62 hz62 e21 => ?_))
   have z21 := e21.size
   have h62 := hz62.own
   have hl62 := h62.lt
   have t24 := Ext.trans t19 e21
   refine O.nil ⟨t24, ?_⟩
   have hq62 := Sl.litG (G := strF) (n := 1) (vs := [Ob.ka]) h62 rfl (by unfold maxLen; omega)
   refine D.oneYes (i := 39) rfl rfl rfl (by kernel_rfl) ?_
   have t25 := ((hOv47.keep e15).keep e16).keep e17
   refine O.call call43 (args1 rfl) (oDirty_spec bv19 1 [(Ob.kb, Ob.c12)] [Ob.ka] uov47 udv47 usv47 lov47 hiv47 _ (t25.keep e21) (by decide) (by decide)) ?_
   rintro v_61 w22 ⟨e22, h61⟩
   have z22 := e22.size
   have t26 := Ext.trans t24 e22
   refine O.nil ⟨t26, ?_⟩
   have h61s := h61.sl
   refine D.oneYes (i := 41) rfl rfl rfl (by kernel_rfl) (O.call call86 (args2 rfl rfl) (strings2_spec v_61 [Ob.ka] _ (.slice (some ⟨b62, 0, none⟩) 1 1) [Ob.ka] _ _ h61s (hq62.keep e22)) ?_)
   rintro v_63 w23 ⟨rfl, e23⟩
   have z23 := e23.size
   have t27 := Ext.trans t26 e23
   refine O.nil ⟨t27, D.cast (v' := .bool true) (congrArg Value.bool (by exact decide_eq_true rfl)) (D.ty 42 rfl rfl rfl rfl rfl t27 ⟨_, rfl⟩ (fun _ hw_ _ hN => O.not rfl (O.cast (v' := .bool false) rfl (O.nil hN))) (D.tk 43 rfl rfl rfl rfl t27 pick_form (fun _ hw_ _ hN => O.pickF rfl (O.nil hN)) (D.dn ?_)))⟩
   exact ⟨(Ext.new (Ext.new (Ext.new (Ext.new (Ext.new (Ext.new (Ext.new (Ext.new (Ext.new (Ext.new (Ext.refl _ _) e11 (by intro i hi hk; first | exact hk.elim | exact hS0 _ (OS.of hk) | exact hS35 _ (OS.of hk) | exact hS41 _ (OS.of hk))) e12 (by intro i hi hk; first | exact hk.elim | exact hS0 _ (OS.of hk) | exact hS35 _ (OS.of hk) | exact hS41 _ (OS.of hk))) e13 (by intro i hi hk; first | exact hk.elim | exact hS0 _ (OS.of hk) | exact hS35 _ (OS.of hk) | exact hS41 _ (OS.of hk))) e14 (by intro i hi hk; first | exact hk.elim | exact hS0 _ (OS.of hk) | exact hS35 _ (OS.of hk) | exact hS41 _ (OS.of hk))) e15 (by intro i hi hk; first | exact hk.elim | exact hS0 _ (OS.of hk) | exact hS35 _ (OS.of hk) | exact hS41 _ (OS.of hk))) e16 (by intro i hi hk; first | exact hk.elim | exact hS0 _ (OS.of hk) | exact hS35 _ (OS.of hk) | exact hS41 _ (OS.of hk))) e17 (by intro i hi hk; first | exact hk.elim | exact hS0 _ (OS.of hk) | exact hS35 _ (OS.of hk) | exact hS41 _ (OS.of hk))) e21 (by intro i hi hk; first | exact hk.elim | exact hS0 _ (OS.of hk) | exact hS35 _ (OS.of hk) | exact hS41 _ (OS.of hk))) e22 (by intro i hi hk; first | exact hk.elim | exact hS0 _ (OS.of hk) | exact hS35 _ (OS.of hk) | exact hS41 _ (OS.of hk))) e23 (by intro i hi hk; first | exact hk.elim | exact hS0 _ (OS.of hk) | exact hS35 _ (OS.of hk) | exact hS41 _ (OS.of hk))), rfl, rfl, rfl, rfl, ⟨_, _, _, _, _, rfl, (((t25.keep e21).keep e22).keep e23), hS47⟩⟩
  refine D.stepG rfl rfl rfl (O.build (cells := #[str Ob.kb, slv p1, slv p2, slv p3]) rfl (by kernel_rfl) (O.nil ⟨t16, D.many [30, 33] (by kernel_rfl) (by decide) ⟨?_, ?_, trivial⟩⟩))
  ·
   refine D.stepG rfl rfl rfl (O.call call42 (args1 rfl) (oDeltas_spec bv19 1 [(Ob.kb, Ob.c12)] [Ob.ka] uov47 udv47 usv47 lov47 hiv47 _ hOv47 (by decide) (Ob.small_big (Ob.t_one Ob.t_b12)) (by decide)) ?_)
   rintro v_52 w24 ⟨e24, h52⟩
   have z24 := e24.size
   have t28 := Ext.trans t16 e24
   refine O.nil ⟨t28, ?_⟩
   have hr52 := h52.raws
   obtain ⟨raw52, hra52, hea52⟩ := hr52
   refine D.oneYes (i := 33) rfl rfl rfl (by kernel_rfl) (O.litG (G := entF) [(Ob.kb, ((p1, p2), p3))] U22 ti50 ts50 tz50 rfl (by decide) (by decide) rfl (fun b55 w25 hb55 hz55 e25 => ?_))
   have z25 := e25.size
   have h55 := hz55.own
   have hq55 := Sl.litG (n := 1) h55 rfl (by unfold maxLen; omega)
   have t29 := Ext.trans t28 e25
   refine O.nil ⟨t29, ?_⟩
   have hl55 := h55.lt
   refine D.oneYes (i := 34) rfl rfl rfl (by kernel_rfl) ?_
   refine O.call call21 (args2 rfl rfl) (sameL_spec v_52 raw52 [(Ob.kb, Ob.c12)] (fun j => j < w25.heap.size) (.slice (some ⟨b55, 0, none⟩) 1 1) [(Ob.kb, ((p1, p2), p3))] [(Ob.kb, Ob.c12)] (fun j => j < w25.heap.size) _ (((hra52.keep e25)).weakA) (((hea52.keep e25)).weakA) ((hq55).weak (fun j hj => by have h0 : j = b55 := hj; (try dsimp only); omega)) (EntL.snoc (raw := []) (l := []) EntL.nil rfl (((((((((((hcc.keep e8).keepA e9).keep e10).keep e11).keepM e12 (by intro j hj h9; have := hS0 j (OS.of h9); (try dsimp only at hj); omega)).keepM e13 (by intro j hj h9; have := hS35 j (OS.of h9); (try dsimp only at hj); omega)).keepM e14 (by intro j hj h9; have := hS41 j (OS.of h9); (try dsimp only at hj); omega)).keep e24).keep e25)).weakA)) (fun j hj => hj) (fun j hj => hj)) ?_
   rintro v_56 w26 ⟨rfl, e26⟩
   have z26 := e26.size
   have t30 := Ext.trans t29 e26
   refine O.nil ⟨t30, D.cast (v' := .bool true) (congrArg Value.bool (by exact decide_eq_true rfl)) (D.ty 35 rfl rfl rfl rfl rfl t30 ⟨_, rfl⟩ (fun _ hw_ _ hN => O.not rfl (O.cast (v' := .bool false) rfl (O.nil hN))) (D.tk 36 rfl rfl rfl rfl t30 pick_form (fun _ hw_ _ hN => O.pickF rfl (O.nil hN)) (D.mv 37 rfl t30 (D.ty 38 rfl rfl rfl rfl rfl t30 ⟨pure _, rfl⟩ (fun _ hw_ _ hN => O.mv (O.nil hN)) (D.many [39, 40] (by kernel_rfl) (by decide) ⟨?_, ?_, trivial⟩)))))⟩
   ·
    refine D.stepG rfl rfl rfl ?_
    have t31 := ((hOv47.keep e24).keep e25).keep e26
    refine O.call call43 (args1 rfl) (oDirty_spec bv19 1 [(Ob.kb, Ob.c12)] [Ob.ka] uov47 udv47 usv47 lov47 hiv47 _ t31 (by decide) (by decide)) ?_
    rintro v_61 w27 ⟨e27, h61⟩
    have z27 := e27.size
    have t32 := Ext.trans t30 e27
    refine O.nil ⟨t32, ?_⟩
    have h61s := h61.sl
    refine D.oneYes (i := 40) rfl rfl rfl (by kernel_rfl) (O.lit1 U69 ti9 ts9 tz9 rfl rfl (fun b62 w28 hb62 hz62 e28 => ?_))
    have z28 := e28.size
    have h62 := hz62.own
    have hl62 := h62.lt
    have t33 := Ext.trans t32 e28
    refine O.nil ⟨t33, ?_⟩
    have hq62 := Sl.litG (G := strF) (n := 1) (vs := [Ob.ka]) h62 rfl (by unfold maxLen; omega)
    refine D.oneYes (i := 41) rfl rfl rfl (by kernel_rfl) (O.call call86 (args2 rfl rfl) (strings2_spec v_61 [Ob.ka] _ (.slice (some ⟨b62, 0, none⟩) 1 1) [Ob.ka] _ _ (h61s.keep e28) hq62) ?_)
    rintro v_63 w29 ⟨rfl, e29⟩
    have z29 := e29.size
    have t34 := Ext.trans t33 e29
    refine O.nil ⟨t34, D.cast (v' := .bool true) (congrArg Value.bool (by exact decide_eq_true rfl)) (D.ty 42 rfl rfl rfl rfl rfl t34 ⟨_, rfl⟩ (fun _ hw_ _ hN => O.not rfl (O.cast (v' := .bool false) rfl (O.nil hN))) (D.tk 43 rfl rfl rfl rfl t34 pick_form (fun _ hw_ _ hN => O.pickF rfl (O.nil hN)) (D.dn ?_)))⟩
    exact ⟨(Ext.new (Ext.new (Ext.new (Ext.new (Ext.new (Ext.new (Ext.new (Ext.new (Ext.new (Ext.new (Ext.refl _ _) e11 (by intro i hi hk; first | exact hk.elim | exact hS0 _ (OS.of hk) | exact hS35 _ (OS.of hk) | exact hS41 _ (OS.of hk))) e12 (by intro i hi hk; first | exact hk.elim | exact hS0 _ (OS.of hk) | exact hS35 _ (OS.of hk) | exact hS41 _ (OS.of hk))) e13 (by intro i hi hk; first | exact hk.elim | exact hS0 _ (OS.of hk) | exact hS35 _ (OS.of hk) | exact hS41 _ (OS.of hk))) e14 (by intro i hi hk; first | exact hk.elim | exact hS0 _ (OS.of hk) | exact hS35 _ (OS.of hk) | exact hS41 _ (OS.of hk))) e24 (by intro i hi hk; first | exact hk.elim | exact hS0 _ (OS.of hk) | exact hS35 _ (OS.of hk) | exact hS41 _ (OS.of hk))) e25 (by intro i hi hk; first | exact hk.elim | exact hS0 _ (OS.of hk) | exact hS35 _ (OS.of hk) | exact hS41 _ (OS.of hk))) e26 (by intro i hi hk; first | exact hk.elim | exact hS0 _ (OS.of hk) | exact hS35 _ (OS.of hk) | exact hS41 _ (OS.of hk))) e27 (by intro i hi hk; first | exact hk.elim | exact hS0 _ (OS.of hk) | exact hS35 _ (OS.of hk) | exact hS41 _ (OS.of hk))) e28 (by intro i hi hk; first | exact hk.elim | exact hS0 _ (OS.of hk) | exact hS35 _ (OS.of hk) | exact hS41 _ (OS.of hk))) e29 (by intro i hi hk; first | exact hk.elim | exact hS0 _ (OS.of hk) | exact hS35 _ (OS.of hk) | exact hS41 _ (OS.of hk))), rfl, rfl, rfl, rfl, ⟨_, _, _, _, _, rfl, (((t31.keep e27).keep e28).keep e29), hS47⟩⟩
   refine D.stepG rfl rfl rfl (O.lit1 U69 ti9 ts9 tz9 rfl rfl (fun b62 w30 hb62 hz62 e30 => ?_))
   have z30 := e30.size
   have h62 := hz62.own
   have hl62 := h62.lt
   have t35 := Ext.trans t30 e30
   refine O.nil ⟨t35, ?_⟩
   have hq62 := Sl.litG (G := strF) (n := 1) (vs := [Ob.ka]) h62 rfl (by unfold maxLen; omega)
   refine D.oneYes (i := 39) rfl rfl rfl (by kernel_rfl) ?_
   have t36 := ((hOv47.keep e24).keep e25).keep e26
   refine O.call call43 (args1 rfl) (oDirty_spec bv19 1 [(Ob.kb, Ob.c12)] [Ob.ka] uov47 udv47 usv47 lov47 hiv47 _ (t36.keep e30) (by decide) (by decide)) ?_
   rintro v_61 w31 ⟨e31, h61⟩
   have z31 := e31.size
   have t37 := Ext.trans t35 e31
   refine O.nil ⟨t37, ?_⟩
   have h61s := h61.sl
   refine D.oneYes (i := 41) rfl rfl rfl (by kernel_rfl) (O.call call86 (args2 rfl rfl) (strings2_spec v_61 [Ob.ka] _ (.slice (some ⟨b62, 0, none⟩) 1 1) [Ob.ka] _ _ h61s (hq62.keep e31)) ?_)
   rintro v_63 w32 ⟨rfl, e32⟩
   have z32 := e32.size
   have t38 := Ext.trans t37 e32
   refine O.nil ⟨t38, D.cast (v' := .bool true) (congrArg Value.bool (by exact decide_eq_true rfl)) (D.ty 42 rfl rfl rfl rfl rfl t38 ⟨_, rfl⟩ (fun _ hw_ _ hN => O.not rfl (O.cast (v' := .bool false) rfl (O.nil hN))) (D.tk 43 rfl rfl rfl rfl t38 pick_form (fun _ hw_ _ hN => O.pickF rfl (O.nil hN)) (D.dn ?_)))⟩
   exact ⟨(Ext.new (Ext.new (Ext.new (Ext.new (Ext.new (Ext.new (Ext.new (Ext.new (Ext.new (Ext.new (Ext.refl _ _) e11 (by intro i hi hk; first | exact hk.elim | exact hS0 _ (OS.of hk) | exact hS35 _ (OS.of hk) | exact hS41 _ (OS.of hk))) e12 (by intro i hi hk; first | exact hk.elim | exact hS0 _ (OS.of hk) | exact hS35 _ (OS.of hk) | exact hS41 _ (OS.of hk))) e13 (by intro i hi hk; first | exact hk.elim | exact hS0 _ (OS.of hk) | exact hS35 _ (OS.of hk) | exact hS41 _ (OS.of hk))) e14 (by intro i hi hk; first | exact hk.elim | exact hS0 _ (OS.of hk) | exact hS35 _ (OS.of hk) | exact hS41 _ (OS.of hk))) e24 (by intro i hi hk; first | exact hk.elim | exact hS0 _ (OS.of hk) | exact hS35 _ (OS.of hk) | exact hS41 _ (OS.of hk))) e25 (by intro i hi hk; first | exact hk.elim | exact hS0 _ (OS.of hk) | exact hS35 _ (OS.of hk) | exact hS41 _ (OS.of hk))) e26 (by intro i hi hk; first | exact hk.elim | exact hS0 _ (OS.of hk) | exact hS35 _ (OS.of hk) | exact hS41 _ (OS.of hk))) e30 (by intro i hi hk; first | exact hk.elim | exact hS0 _ (OS.of hk) | exact hS35 _ (OS.of hk) | exact hS41 _ (OS.of hk))) e31 (by intro i hi hk; first | exact hk.elim | exact hS0 _ (OS.of hk) | exact hS35 _ (OS.of hk) | exact hS41 _ (OS.of hk))) e32 (by intro i hi hk; first | exact hk.elim | exact hS0 _ (OS.of hk) | exact hS35 _ (OS.of hk) | exact hS41 _ (OS.of hk))), rfl, rfl, rfl, rfl, ⟨_, _, _, _, _, rfl, (((t36.keep e30).keep e31).keep e32), hS47⟩⟩
  refine D.stepG rfl rfl rfl (O.litG (G := entF) [(Ob.kb, ((p1, p2), p3))] U22 ti50 ts50 tz50 rfl (by decide) (by decide) rfl (fun b55 w33 hb55 hz55 e33 => ?_))
  have z33 := e33.size
  have h55 := hz55.own
  have hq55 := Sl.litG (n := 1) h55 rfl (by unfold maxLen; omega)
  have t39 := Ext.trans t16 e33
  refine O.nil ⟨t39, ?_⟩
  have hl55 := h55.lt
  refine D.oneYes (i := 30) rfl rfl rfl (by kernel_rfl) (O.call call42 (args1 rfl) (oDeltas_spec bv19 1 [(Ob.kb, Ob.c12)] [Ob.ka] uov47 udv47 usv47 lov47 hiv47 _ (hOv47.keep e33) (by decide) (Ob.small_big (Ob.t_one Ob.t_b12)) (by decide)) ?_)
  rintro v_52 w34 ⟨e34, h52⟩
  have z34 := e34.size
  have t40 := Ext.trans t39 e34
  refine O.nil ⟨t40, ?_⟩
  have hr52 := h52.raws
  obtain ⟨raw52, hra52, hea52⟩ := hr52
  refine D.oneYes (i := 34) rfl rfl rfl (by kernel_rfl) ?_
  refine O.call call21 (args2 rfl rfl) (sameL_spec v_52 raw52 [(Ob.kb, Ob.c12)] (fun j => j < w34.heap.size) (.slice (some ⟨b55, 0, none⟩) 1 1) [(Ob.kb, ((p1, p2), p3))] [(Ob.kb, Ob.c12)] (fun j => j < w34.heap.size) _ ((hra52).weakA) ((hea52).weakA) (((hq55.keep e34)).weak (fun j hj => by have h0 : j = b55 := hj; (try dsimp only); omega)) (EntL.snoc (raw := []) (l := []) EntL.nil rfl (((((((((((hcc.keep e8).keepA e9).keep e10).keep e11).keepM e12 (by intro j hj h9; have := hS0 j (OS.of h9); (try dsimp only at hj); omega)).keepM e13 (by intro j hj h9; have := hS35 j (OS.of h9); (try dsimp only at hj); omega)).keepM e14 (by intro j hj h9; have := hS41 j (OS.of h9); (try dsimp only at hj); omega)).keep e33).keep e34)).weakA)) (fun j hj => hj) (fun j hj => hj)) ?_
  rintro v_56 w35 ⟨rfl, e35⟩
  have z35 := e35.size
  have t41 := Ext.trans t40 e35
  refine O.nil ⟨t41, D.cast (v' := .bool true) (congrArg Value.bool (by exact decide_eq_true rfl)) (D.ty 35 rfl rfl rfl rfl rfl t41 ⟨_, rfl⟩ (fun _ hw_ _ hN => O.not rfl (O.cast (v' := .bool false) rfl (O.nil hN))) (D.tk 36 rfl rfl rfl rfl t41 pick_form (fun _ hw_ _ hN => O.pickF rfl (O.nil hN)) (D.mv 37 rfl t41 (D.ty 38 rfl rfl rfl rfl rfl t41 ⟨pure _, rfl⟩ (fun _ hw_ _ hN => O.mv (O.nil hN)) (D.many [39, 40] (by kernel_rfl) (by decide) ⟨?_, ?_, trivial⟩)))))⟩
  ·
   refine D.stepG rfl rfl rfl ?_
   have t42 := ((hOv47.keep e33).keep e34).keep e35
   refine O.call call43 (args1 rfl) (oDirty_spec bv19 1 [(Ob.kb, Ob.c12)] [Ob.ka] uov47 udv47 usv47 lov47 hiv47 _ t42 (by decide) (by decide)) ?_
   rintro v_61 w36 ⟨e36, h61⟩
   have z36 := e36.size
   have t43 := Ext.trans t41 e36
   refine O.nil ⟨t43, ?_⟩
   have h61s := h61.sl
   refine D.oneYes (i := 40) rfl rfl rfl (by kernel_rfl) (O.lit1 U69 ti9 ts9 tz9 rfl rfl (fun b62 w37 hb62 hz62 e37 => ?_))
   have z37 := e37.size
   have h62 := hz62.own
   have hl62 := h62.lt
   have t44 := Ext.trans t43 e37
   refine O.nil ⟨t44, ?_⟩
   have hq62 := Sl.litG (G := strF) (n := 1) (vs := [Ob.ka]) h62 rfl (by unfold maxLen; omega)
   refine D.oneYes (i := 41) rfl rfl rfl (by kernel_rfl) (O.call call86 (args2 rfl rfl) (strings2_spec v_61 [Ob.ka] _ (.slice (some ⟨b62, 0, none⟩) 1 1) [Ob.ka] _ _ (h61s.keep e37) hq62) ?_)
   rintro v_63 w38 ⟨rfl, e38⟩
   have z38 := e38.size
   have t45 := Ext.trans t44 e38
   refine O.nil ⟨t45, D.cast (v' := .bool true) (congrArg Value.bool (by exact decide_eq_true rfl)) (D.ty 42 rfl rfl rfl rfl rfl t45 ⟨_, rfl⟩ (fun _ hw_ _ hN => O.not rfl (O.cast (v' := .bool false) rfl (O.nil hN))) (D.tk 43 rfl rfl rfl rfl t45 pick_form (fun _ hw_ _ hN => O.pickF rfl (O.nil hN)) (D.dn ?_)))⟩
   exact ⟨(Ext.new (Ext.new (Ext.new (Ext.new (Ext.new (Ext.new (Ext.new (Ext.new (Ext.new (Ext.new (Ext.refl _ _) e11 (by intro i hi hk; first | exact hk.elim | exact hS0 _ (OS.of hk) | exact hS35 _ (OS.of hk) | exact hS41 _ (OS.of hk))) e12 (by intro i hi hk; first | exact hk.elim | exact hS0 _ (OS.of hk) | exact hS35 _ (OS.of hk) | exact hS41 _ (OS.of hk))) e13 (by intro i hi hk; first | exact hk.elim | exact hS0 _ (OS.of hk) | exact hS35 _ (OS.of hk) | exact hS41 _ (OS.of hk))) e14 (by intro i hi hk; first | exact hk.elim | exact hS0 _ (OS.of hk) | exact hS35 _ (OS.of hk) | exact hS41 _ (OS.of hk))) e33 (by intro i hi hk; first | exact hk.elim | exact hS0 _ (OS.of hk) | exact hS35 _ (OS.of hk) | exact hS41 _ (OS.of hk))) e34 (by intro i hi hk; first | exact hk.elim | exact hS0 _ (OS.of hk) | exact hS35 _ (OS.of hk) | exact hS41 _ (OS.of hk))) e35 (by intro i hi hk; first | exact hk.elim | exact hS0 _ (OS.of hk) | exact hS35 _ (OS.of hk) | exact hS41 _ (OS.of hk))) e36 (by intro i hi hk; first | exact hk.elim | exact hS0 _ (OS.of hk) | exact hS35 _ (OS.of hk) | exact hS41 _ (OS.of hk))) e37 (by intro i hi hk; first | exact hk.elim | exact hS0 _ (OS.of hk) | exact hS35 _ (OS.of hk) | exact hS41 _ (OS.of hk))) e38 (by intro i hi hk; first | exact hk.elim | exact hS0 _ (OS.of hk) | exact hS35 _ (OS.of hk) | exact hS41 _ (OS.of hk))), rfl, rfl, rfl, rfl, ⟨_, _, _, _, _, rfl, (((t42.keep e36).keep e37).keep e38), hS47⟩⟩
  refine D.stepG rfl rfl rfl (O.lit1 U69 ti9 ts9 tz9 rfl rfl (fun b62 w39 hb62 hz62 e39 => ?_))
  have z39 := e39.size
  have h62 := hz62.own
  have hl62 := h62.lt
  have t46 := Ext.trans t41 e39
  refine O.nil ⟨t46, ?_⟩
  have hq62 := Sl.litG (G := strF) (n := 1) (vs := [Ob.ka]) h62 rfl (by unfold maxLen; omega)
  refine D.oneYes (i := 39) rfl rfl rfl (by kernel_rfl) ?_
  have t47 := (hOv47.keep e33).keep e34
  refine O.call call43 (args1 rfl) (oDirty_spec bv19 1 [(Ob.kb, Ob.c12)] [Ob.ka] uov47 udv47 usv47 lov47 hiv47 _ ((t47.keep e35).keep e39) (by decide) (by decide)) ?_
  rintro v_61 w40 ⟨e40, h61⟩
  have z40 := e40.size
  have t48 := Ext.trans t46 e40
  refine O.nil ⟨t48, ?_⟩
  have h61s := h61.sl
  refine D.oneYes (i := 41) rfl rfl rfl (by kernel_rfl) (O.call call86 (args2 rfl rfl) (strings2_spec v_61 [Ob.ka] _ (.slice (some ⟨b62, 0, none⟩) 1 1) [Ob.ka] _ _ h61s (hq62.keep e40)) ?_)
  rintro v_63 w41 ⟨rfl, e41⟩
  have z41 := e41.size
  have t49 := Ext.trans t48 e41
  refine O.nil ⟨t49, D.cast (v' := .bool true) (congrArg Value.bool (by exact decide_eq_true rfl)) (D.ty 42 rfl rfl rfl rfl rfl t49 ⟨_, rfl⟩ (fun _ hw_ _ hN => O.not rfl (O.cast (v' := .bool false) rfl (O.nil hN))) (D.tk 43 rfl rfl rfl rfl t49 pick_form (fun _ hw_ _ hN => O.pickF rfl (O.nil hN)) (D.dn ?_)))⟩
  exact ⟨(Ext.new (Ext.new (Ext.new (Ext.new (Ext.new (Ext.new (Ext.new (Ext.new (Ext.new (Ext.new (Ext.refl _ _) e11 (by intro i hi hk; first | exact hk.elim | exact hS0 _ (OS.of hk) | exact hS35 _ (OS.of hk) | exact hS41 _ (OS.of hk))) e12 (by intro i hi hk; first | exact hk.elim | exact hS0 _ (OS.of hk) | exact hS35 _ (OS.of hk) | exact hS41 _ (OS.of hk))) e13 (by intro i hi hk; first | exact hk.elim | exact hS0 _ (OS.of hk) | exact hS35 _ (OS.of hk) | exact hS41 _ (OS.of hk))) e14 (by intro i hi hk; first | exact hk.elim | exact hS0 _ (OS.of hk) | exact hS35 _ (OS.of hk) | exact hS41 _ (OS.of hk))) e33 (by intro i hi hk; first | exact hk.elim | exact hS0 _ (OS.of hk) | exact hS35 _ (OS.of hk) | exact hS41 _ (OS.of hk))) e34 (by intro i hi hk; first | exact hk.elim | exact hS0 _ (OS.of hk) | exact hS35 _ (OS.of hk) | exact hS41 _ (OS.of hk))) e35 (by intro i hi hk; first | exact hk.elim | exact hS0 _ (OS.of hk) | exact hS35 _ (OS.of hk) | exact hS41 _ (OS.of hk))) e39 (by intro i hi hk; first | exact hk.elim | exact hS0 _ (OS.of hk) | exact hS35 _ (OS.of hk) | exact hS41 _ (OS.of hk))) e40 (by intro i hi hk; first | exact hk.elim | exact hS0 _ (OS.of hk) | exact hS35 _ (OS.of hk) | exact hS41 _ (OS.of hk))) e41 (by intro i hi hk; first | exact hk.elim | exact hS0 _ (OS.of hk) | exact hS35 _ (OS.of hk) | exact hS41 _ (OS.of hk))), rfl, rfl, rfl, rfl, ⟨_, _, _, _, _, rfl, ((((t47.keep e35).keep e39).keep e40).keep e41), hS47⟩⟩
 rintro f_1 w42 ⟨e_1, s0_1, s1_1, s3_1, s5_1, ⟨uo4, ud4, us4, lo4, hi4, s65_1, q0_1, q1_1⟩⟩
 have z_1 := e_1.size
 have hS4 := q1_1
 have hbl4 := (q0_1).own.lt
 refine K6 (C.condF s65_1 (C.skip (K5 (C.sr fun K7 => O.call call52 (args2 rfl rfl) (someC_spec 3 3 _) ?_))))
 rintro v_66 w43 ⟨qv66, rfl, hv66, e43⟩
 have z43 := e43.size
 have hobl4 := ((q0_1.keep e43)).lt
 have sp5_ : ∃ n, n = w43.heap.size := ⟨_, rfl⟩
 obtain ⟨n6, hn6⟩ := sp5_
 have hcw : CartAt w43 (fun j => n5 < j ∧ j < n6) qv66 Ob.c3 := hv66.weakA
 refine O.alloc zeroValue47 (fun b7 w44 hb7 hz7 e44 => ?_)
 have z44 := e44.size
 have h7 := hz7.own
 have hl7 := h7.lt
 refine O.storeA (vs := [slv qv66.1.1, slv qv66.1.2, slv qv66.2]) Z47 rfl rfl rfl (by intro u hu; simp only [List.mem_cons, List.not_mem_nil, or_false] at hu; rcases hu with rfl | rfl | rfl <;> rfl) h7 (leB rfl) (fun w45 hs45 e45 z45 => K7 (C.sq fun K8 => C.sr fun K9 => O.mv ?_))
 have t50 := Ext.trans (Ext.nr t5 e6) e7
 have t51 := Ext.trans t50 e8
 have t52 := Ext.trans (Ext.nr t51 e9) e10
 have t53 := Ext.new t52 e_1 (by intro i hi h; have h0 : n5 ≤ i := h; omega)
 have t54 := Ext.trans t53 e43
 have t55 := Ext.trans t54 e44
 refine O.call call41 (args4 s5_1 rfl rfl rfl) (sends_spec bv19 1 [(Ob.kb, Ob.c12)] [Ob.ka] uo4 ud4 us4 lo4 hi4 (.slice none 0 0) [] [] (fun _ => False) (.slice none 0 0) [] [] (fun _ => False) 9 _ (((q0_1.keep e43).keep e44).keepM e45 (by intro k hk h; have h0 : k = b7 := h; have := hobl4 k hk; omega)) (by decide) (Sl.nil _ _ _) EntL.nil (Sl.nil _ _ _) EntL.nil (fun _ h => h.elim) (fun _ h => h.elim) (fun _ h => h.elim) (by omega) Ob.ord_12 (List.pairwise_singleton _ _) (Ob.small_big (Ob.t_one Ob.t_b12)) (Ob.small_mid (Ob.t_one Ob.t_b12)) (fun x hx => by cases hx) (fun x hx => by cases hx) (fun _ => by rw [Ob.mp_1]; exact Ob.small_big (Ob.t_one Ob.t_b12)) (fun _ x hx => by rw [Ob.mp_1] at hx; exact Ob.e_two x (List.mem_cons_of_mem _ hx)) (by decide) (by decide) (by decide) (mx.keep (Ext.nr t55 e45))) ?_
 rintro v_68 w46 ⟨uov68, udv68, usv68, lov68, hiv68, rfl, hOv68, hSv68, e46⟩
 have z46 := e46.size
 refine O.cast (v' := .bool true) (congrArg Value.bool (by exact decide_eq_true ⟨Ob.dl_1, Ob.dr_1⟩)) ?_
 rw [if_neg (by rw [Ob.dr_1]; decide), if_neg (by rw [Ob.dr_1]; decide)] at hOv68
 have hS68 : ∀ j, OS bv19 usv68 lov68 hiv68 j → n5 ≤ j := fun j hj => hS4 j (hSv68 j hj)
 refine O.not rfl (O.cast (v' := .bool false) rfl (O.mv (O.yes rfl rfl (O.mv (O.yes rfl rfl ?_)))))
 have t56 := hs45.keepM e46 (fun h9 => by have h0 : _ = bv19 := h9; have := hS4 _ OS.b; omega)
 refine O.loadOA isAgg47 Z47 rfl t56 (leB rfl) (O.yes rfl rfl (O.build (cells := #[str Ob.ka, slv qv66.1.1, slv qv66.1.2, slv qv66.2]) rfl (by kernel_rfl) (O.yes rfl rfl (O.litG (G := entF) [(Ob.ka, qv66)] U22 ti50 ts50 tz50 rfl (by decide) (by decide) rfl (fun b74 w47 hb74 hz74 e47 => ?_)))))
 have z47 := e47.size
 have h74 := hz74.own
 have hq74 := Sl.litG (n := 1) h74 rfl (by unfold maxLen; omega)
 have hl74 := h74.lt
 refine O.yes rfl rfl (O.loadOA isAgg47 Z47 rfl (t56.keep e47) (leB rfl) (O.yes rfl rfl (O.build (cells := #[str Ob.ka, slv qv66.1.1, slv qv66.1.2, slv qv66.2]) rfl (by kernel_rfl) (O.yes rfl rfl (O.loadOA isAgg47 Z47 s3_1 (((((((hs9.keep e10).keepM e_1 (by intro h; have h0 : n5 ≤ _ := h; omega)).keep e43).keep e44).keepO e45).keepM e46 (fun h9 => by have h0 : _ = bv19 := h9; have := hS4 _ OS.b; omega)).keep e47) (leB rfl) (O.yes rfl rfl (O.build (cells := #[str Ob.kb, slv p1, slv p2, slv p3]) rfl (by kernel_rfl) (O.yes rfl rfl ?_))))))))
 refine O.litG (G := entF) [(Ob.ka, qv66), (Ob.kb, ((p1, p2), p3))] U22 ti50 ts50 tz50 rfl (by decide) (by decide) rfl (fun b79 w48 hb79 hz79 e48 => ?_)
 have z48 := e48.size
 have h79 := hz79.own
 have hq79 := Sl.litG (n := 2) h79 rfl (by unfold maxLen; omega)
 have hl79 := h79.lt
 refine O.yes rfl rfl ?_
 have t57 := (hcw.keep e44).keepA e45
 have t58 := Ext.new (Ext.nr t55 e45) e46 (by intro i hi h9; have h0 : i = bv19 := h9; have := hS4 _ OS.b; omega)
 have t59 := Ext.trans t58 e47
 have t60 := Ext.trans t59 e48
 have t61 := t57.keepM e46 (by intro j hj h9; have h0 : j = bv19 := h9; have := hS4 _ OS.b; (try dsimp only at hj); omega)
 have t62 := (t61.keep e47).keep e48
 refine O.call call41 (args4 s5_1 rfl rfl rfl) (sends_spec bv19 1 [(Ob.kb, Ob.c12)] [Ob.ka] uov68 udv68 usv68 lov68 hiv68 (.slice (some ⟨b74, 0, none⟩) 1 1) [(Ob.ka, qv66)] [(Ob.ka, Ob.c3)] (fun j => n5 ≤ j ∧ j < w48.heap.size ∧ j ≠ bv19) (.slice (some ⟨b79, 0, none⟩) 2 2) [(Ob.ka, qv66), (Ob.kb, ((p1, p2), p3))] [(Ob.ka, Ob.c3), (Ob.kb, Ob.c12)] (fun j => j < w48.heap.size ∧ j ≠ bv19) 0 _ ((hOv68.keep e47).keep e48) (by decide) (((hq74.keep e48)).weak (fun j hj => by have h0 : j = b74 := hj; (try dsimp only); omega)) (EntL.snoc (raw := []) (l := []) EntL.nil rfl ((t62).weakA)) ((hq79).weak (fun j hj => by have h0 : j = b79 := hj; (try dsimp only); omega)) (EntL.snoc (raw := [(Ob.ka, qv66)]) (l := [(Ob.ka, Ob.c3)]) (EntL.snoc (raw := []) (l := []) EntL.nil rfl ((t62).weakA)) rfl ((((((((((((hcc.keep e8).keepA e9).keep e10).keepM e_1 (by intro j hj h; have h0 : n5 ≤ j := h; (try dsimp only at hj); omega)).keep e43).keep e44).keepA e45).keepM e46 (by intro j hj h9; have h0 : j = bv19 := h9; have := hS4 _ OS.b; (try dsimp only at hj); omega)).keep e47).keep e48)).weakA)) (fun j hj => by (try dsimp only at hj); omega) (fun j hj => by (try dsimp only at hj); omega) (fun j hj => by (try dsimp only at hj); omega) (by omega) Ob.ord_12 (List.pairwise_singleton _ _) (Ob.small_big (Ob.t_one Ob.t_b12)) (Ob.small_mid (Ob.t_one Ob.t_b12)) (Ob.small_big (Ob.t_one Ob.t_a3)) (Ob.small_mid (Ob.t_one Ob.t_a3)) (fun _ => by rw [Ob.mp_2]; exact Ob.small_big (Ob.t_two Ob.t_a3 Ob.t_b12)) (fun _ x hx => by rw [Ob.mp_2] at hx; exact Ob.e_two x hx) (by decide) (by decide) (by decide) (mx.keep t60)) ?_
 rintro v_80 w49 ⟨uov80, udv80, usv80, lov80, hiv80, rfl, hOv80, hSv80, e49⟩
 have z49 := e49.size
 refine O.cast (v' := .bool true) (congrArg Value.bool (by exact decide_eq_true ⟨Ob.dl_2, Ob.dr_2⟩)) ?_
 rw [if_pos Ob.dr_2, if_pos Ob.dr_2] at hOv80
 have hS80 : ∀ j, OS bv19 usv80 lov80 hiv80 j → n5 ≤ j := fun j hj => hS68 j (hSv80 j hj)
 refine O.yes rfl rfl (O.not rfl (O.cast (v' := .bool false) rfl (O.pickF rfl (O.mv (O.yes rfl rfl (O.mv (O.yes rfl rfl (O.call call42 (args1 s5_1) (oDeltas_spec bv19 1 [] [] uov80 udv80 usv80 lov80 hiv80 _ hOv80 (by decide) (fun x hx => by cases hx) (by decide)) ?_))))))))
 rintro v_85 w50 ⟨e50, h85⟩
 have z50 := e50.size
 have hr85 := h85.raws
 obtain ⟨raw85, hra85, hea85⟩ := hr85
 refine O.yes rfl rfl (O.len U22 rfl hra85 (O.yes rfl rfl (O.neqI rfl rfl (O.cast (v' := .bool false) (congrArg Value.bool (by exact decide_eq_false (fun h => h (by rw [hea85.1]; rfl)))) (O.pickF rfl (O.mv (O.yes rfl rfl (O.mv (O.yes rfl rfl (O.call call43 (args1 s5_1) (oDirty_spec bv19 1 [] [] uov80 udv80 usv80 lov80 hiv80 _ (hOv80.keep e50) (by decide) (by decide)) ?_))))))))))
 rintro v_91 w51 ⟨e51, h91⟩
 have z51 := e51.size
 have h91s := h91.sl
 refine O.yes rfl rfl (O.len U69 rfl h91s (O.yes rfl rfl (O.neqI rfl rfl (O.cast (v' := .bool false) (congrArg Value.bool (by exact decide_eq_false (fun h => h rfl))) (O.pickF rfl (O.mv (O.yes rfl rfl (O.mv (O.yes rfl rfl ?_)))))))))
 have t63 := Ext.new t60 e49 (by intro i hi h9; have h0 : i = bv19 := h9; have := hS68 _ OS.b; omega)
 have t64 := Ext.trans t63 e50
 have t65 := Ext.trans t64 e51
 refine O.call call41 (args4 s5_1 rfl rfl rfl) (sends_spec bv19 1 [] [] uov80 udv80 usv80 lov80 hiv80 (.slice none 0 0) [] [] (fun _ => False) (.slice none 0 0) [] [] (fun _ => False) 0 _ ((hOv80.keep e50).keep e51) (by decide) (Sl.nil _ _ _) EntL.nil (Sl.nil _ _ _) EntL.nil (fun _ h => h.elim) (fun _ h => h.elim) (fun _ h => h.elim) (by omega) Bt.Ord.nil List.Pairwise.nil (fun x hx => by cases hx) (fun x hx => by cases hx) (fun x hx => by cases hx) (fun x hx => by cases hx) (fun _ => by rw [Ob.mp_3]; intro x hx; cases hx) (fun _ x hx => by rw [Ob.mp_3] at hx; cases hx) (by decide) (by decide) (by decide) (mx.keep t65)) ?_
 rintro v_97 w52 ⟨uov97, udv97, usv97, lov97, hiv97, rfl, hOv97, hSv97, e52⟩
 have z52 := e52.size
 refine O.cast (v' := .bool true) (congrArg Value.bool (by exact decide_eq_true ⟨Ob.dl_3, Ob.dr_3⟩)) ?_
 rw [if_pos Ob.dr_3, if_pos Ob.dr_3] at hOv97
 have hS97 : ∀ j, OS bv19 usv97 lov97 hiv97 j → n5 ≤ j := fun j hj => hS80 j (hSv97 j hj)
 refine O.yes rfl rfl (O.not rfl (O.cast (v' := .bool false) rfl (O.pickF rfl (O.mv (O.yes rfl rfl (O.mv (O.yes rfl rfl (O.loadOA isAgg47 Z47 s1_1 ((((((((((((((((hs5.keepO e6).keep e7).keep e8).keepO e9).keep e10).keepM e_1 (by intro h; have h0 : n5 ≤ _ := h; omega)).keep e43).keep e44).keepO e45).keepM e46 (fun h9 => by have h0 : _ = bv19 := h9; have := hS4 _ OS.b; omega)).keep e47).keep e48).keepM e49 (fun h9 => by have h0 : _ = bv19 := h9; have := hS68 _ OS.b; omega)).keep e50).keep e51).keepM e52 (fun h9 => by have h0 : _ = bv19 := h9; have := hS80 _ OS.b; omega)) (leB rfl) (O.yes rfl rfl ?_)))))))))
 have t66 := Ext.new t65 e52 (by intro i hi h9; have h0 : i = bv19 := h9; have := hS80 _ OS.b; omega)
 refine O.call call40 (args3 s5_1 rfl rfl) (oPut_spec bv19 1 [] [] uov97 udv97 usv97 lov97 hiv97 Ob.kA qv10 Ob.c1 (fun j => j < n1) _ hOv97 (by decide) ((((((((((((((((t2.keepA e6).keep e7).keep e8).keepA e9).keep e10).keepM e_1 (by intro j hj h; have h0 : n5 ≤ j := h; (try dsimp only at hj); omega)).keep e43).keep e44).keepA e45).keepM e46 (by intro j hj h9; have h0 : j = bv19 := h9; have := hS4 _ OS.b; (try dsimp only at hj); omega)).keep e47).keep e48).keepM e49 (by intro j hj h9; have h0 : j = bv19 := h9; have := hS68 _ OS.b; (try dsimp only at hj); omega)).keep e50).keep e51).keepM e52 (by intro j hj h9; have h0 : j = bv19 := h9; have := hS80 _ OS.b; (try dsimp only at hj); omega)) (fun j hj => by (try dsimp only at hj); omega) Bt.Ord.nil List.Pairwise.nil (fun x hx => by cases hx) (fun x hx => by cases hx) (Ob.small_big (Ob.t_one Ob.t_A1)) (Ob.small_mid (Ob.t_one Ob.t_A1)) (by decide) (by decide) (mx.keep t66)) ?_
 rintro v_103 w53 ⟨e9v103, lv103, dv103, uov103, udv103, usv103, lov103, hiv103, rfl, hPv103, hOv103, e53, hSv103⟩
 have z53 := e53.size
 have hq103 := hPv103.uniq (.inr ⟨Ob.no_A1, rfl, rfl, rfl⟩)
 obtain ⟨hql103, hqd103, hqe103⟩ := hq103
 subst hql103 hqd103 hqe103
 have hS103 : ∀ j, OS bv19 usv103 lov103 hiv103 j → n5 ≤ j := fun j hj => by
  rcases hSv103 j hj with g | g
  ·exact hS97 j g
  ·omega
 refine O.yes rfl rfl (O.neqI rfl rfl (O.cast (v' := .bool false) (congrArg Value.bool (by exact decide_eq_false (fun h => h rfl))) (O.pickF rfl (K9 (C.condF rfl (C.skip (K8 (C.sr fun K10 => O.call call45 (args1 rfl) (newNo_spec 0 _ (.inl (by decide))) ?_))))))))
 rintro v_107 w54 ⟨rfl, hw_⟩
 replace hw_ := hw_.symm
 subst hw_
 refine O.mv (O.extract rfl rfl (O.extract rfl rfl (O.asg (O.asg (K10 (C.sr fun K11 => O.call call45 (args1 rfl) (newNo_spec 257 _ (.inr (by decide))) ?_))))))
 rintro v_111 w54 ⟨rfl, hw_⟩
 replace hw_ := hw_.symm
 subst hw_
 refine O.mv (O.extract rfl rfl (O.extract rfl rfl (O.asg (O.asg (K11 (C.sr fun K12 => O.mv (O.eqlN U68 rfl (O.mv (O.yes rfl rfl (O.mv (O.yes rfl rfl (O.eqlI rfl rfl (O.cast (v' := .bool true) (congrArg Value.bool (by exact decide_eq_true rfl)) (O.pickT rfl (O.mv (O.yes rfl rfl (O.mv (O.yes rfl rfl (O.eqlN U68 rfl (O.pickT rfl (O.mv (O.yes rfl rfl (O.mv (O.yes rfl rfl (O.eqlI rfl rfl (O.cast (v' := .bool true) (congrArg Value.bool (by exact decide_eq_true rfl)) (O.pickT rfl (O.asg (K12 (C.ret (Outs.one rfl rfl ?_)))))))))))))))))))))))))))))))
 exact ⟨rfl, (Ext.new t66 e53 (by intro i hi h9; have := hS97 i (OS.of h9); omega))⟩
end Go.Proofs.YtpbcafkcfobngaaGreatDoor
end
section
namespace Go.Proofs.YtpbcafkcfobngaaGreatDoor
open Go.Pn Go.ChangeShapes Go.WideShapes Go.ChangeAt Go.RowKit
theorem pOwn : ownKnob Tryz.prog.godebug = none := by kernel_rfl
theorem pLaidOut : laidOutB Tryz.prog = true := by kernel_rfl
theorem opensDot (W : World) : Opens Tryz.prog W Dt.dotF.enc (fun _ => True) 112 :=
 (Opens.struct2 Tryz.underlying112 (Opens.int Tryz.underlying3 (by kernel_rfl)) (Opens.int Tryz.underlying3 (by kernel_rfl)) rfl rfl (by kernel_rfl)).imp rfl fun cs d h _ => by
   obtain ⟨a, b, rfl, ha, hb⟩ := h
   exact ⟨d, by rw [show a = [.int .i64 d.1] from ha, show b = [.int .i64 d.2] from hb]; rfl, trivial⟩
theorem opensItem (W : World) : Opens Tryz.prog W itemE (fun _ => True) 117 :=
 Opens.item (Opens.marks Tryz.underlying114 Tryz.underlying112 Tryz.underlying3 Tryz.underlying3 Tryz.underlying3 Tryz.underlying110 (by kernel_rfl) (by kernel_rfl) (by kernel_rfl) (by kernel_rfl) (by kernel_rfl) (by kernel_rfl) rfl rfl rfl rfl rfl) Tryz.underlying117 Tryz.underlying9 Tryz.underlying115 (by kernel_rfl) (by kernel_rfl) (by kernel_rfl) rfl rfl
theorem opensCart (W : World) : Opens Tryz.prog W cartE (fun _ => True) 47 :=
 (Opens.struct2 Tryz.underlying47 (Opens.struct2 Tryz.underlying44 ((opensDot W).slice Tryz.underlying42 (by kernel_rfl) (by decide)) ((opensDot W).slice Tryz.underlying41 (by kernel_rfl) (by decide)) rfl rfl (by kernel_rfl)) ((opensItem W).slice Tryz.underlying45 (by kernel_rfl) (by decide)) rfl rfl (by kernel_rfl)).imp rfl fun cs d h _ => ⟨d, h, trivial⟩
theorem opensEntry (W : World) : Opens Tryz.prog W entE (fun _ => True) 50 :=
 (Opens.struct2 Tryz.underlying50 (Opens.str Tryz.underlying9 (by kernel_rfl)) (opensCart W) rfl rfl (by kernel_rfl)).imp rfl fun cs d h _ => ⟨d, h, trivial⟩
set_option maxRecDepth 100000 in
theorem ents_of {W : World} {H : Type} {enc : TypeId × Value → H} {base : Nat} {v : Value} {d : DataW H} {p : List MemPlace} (hval : Value.okWide Tryz.prog W .any base 22 v) (h : DataW.Trod enc Tryz.prog W 0 (fun _ => true) true 22 v d p) :
 ∃ l : List EntT, Sl entE W (fun k => k < W.heap.size) v l := by
 obtain ⟨l, h1, _⟩ := arg_slice (opensEntry W) Tryz.underlying22 (by kernel_rfl) (by decide) hval h
 exact ⟨l, h1⟩
theorem mx_of {W : World} (h : W.ShapedOpen Tryz.prog) : Mx W := ⟨Tryz.laysM144.s1_3 W h⟩
def pFlat : DataW Unit → List Value
 | .agg l => l.flatMap fun
   | .lit (.int k n) => [Value.int k n]
   | .agg l2 => l2.map fun
     | .lit (.int k n) => Value.int k n
     | _ => .nilIface
   | _ => [.nilIface]
 | _ => []
def pPut (h : Array Obj) (g : Nat) (cs : List Value) : Array Obj := h.modify g fun
 | .cells _ t frozen => .cells cs.toArray t frozen
 | o => o
noncomputable def pWorld (os : Os) : World :=
 { World.holding Tryz.prog os ⟨#[], #[], []⟩ with heap := (pPut (pPut (World.holding Tryz.prog os ⟨#[], #[], []⟩).heap 2 (pFlat Rows.laid_unicode_utf8_acceptRanges)) 1 (pFlat Rows.laid_unicode_utf8_first)) }
set_option maxRecDepth 100000 in
theorem pMet (os : Os) (args : Array Value) : laidMet Tryz.prog Rows.batchEncodesRow.laid ((pWorld os).forCall (fun _ _ => 0) ⟨#[], args, []⟩).memory :=
 laidMet_of_run' 8 (by kernel_rfl) (by kernel_rfl)
end Go.Proofs.YtpbcafkcfobngaaGreatDoor
end
