/-
  THE CARD of a law of carts as bytes: whatever the input, it returns true, and the input reads as it did.
-/
import Derived.Test.YtnkcmaoaagnopaaGreatDoorBase
import Derived.Test.YtnkcmaoaagnopaaGreatDoorC16
namespace Go.Proofs.YtnkcmaoaagnopaaGreatDoor.canonLongs
open Go.Pn Go.ChangeShapes Go.WideShapes Go.ChangeAt Go.RowKit
set_option maxRecDepth 100000 in
theorem contract (H : Type) (enc : TypeId × Value → H) (W : World) (base : Nat) (args : Array Value) (ds gs : List (DataW H)) (before : List MemPlace)
    (hval : ∀ (j : Nat) t v, Tryz.f6.params[j]? = some t → args[j]? = some v → Value.okWide Tryz.prog W .any base t v)
    (hW : DataW.Whole enc Tryz.prog Tryz.f6.params.toList Rows.canonLongsSpec.vars false W args.toList ds gs before) (hsh : W.ShapedOpen Tryz.prog) :
    Calls Tryz.prog 6 args W fun e W' => ∃ v, e = .returned v ∧ Rows.canonLongsSpec.post enc Tryz.prog Tryz.f6 false true false false W args v W' := by
  have hW' := hW
  obtain ⟨p, q, hA0, hV, rfl, hfz, hnd⟩ := hW
  have hA : DataW.TrodAll enc Tryz.prog W 0 (fun _ => true) true Tryz.f6.params.toList args.toList ds p := hA0
  rw [Tryz.params6] at hA hval
  obtain ⟨v0, vs0, d0, ds0, p0, q0, hargs, rfl, rfl, h0, r0⟩ := trodAll_cons hA
  obtain ⟨v1, vs1, d1, ds1, p1, q1, rfl, rfl, rfl, h1, r1⟩ := trodAll_cons r0
  obtain ⟨v2, vs2, d2, ds2, p2, q2, rfl, rfl, rfl, h2, r2⟩ := trodAll_cons r1
  obtain ⟨v3, vs3, d3, ds3, p3, q3, rfl, rfl, rfl, h3, r3⟩ := trodAll_cons r2
  obtain ⟨v4, vs4, d4, ds4, p4, q4, rfl, rfl, rfl, h4, r4⟩ := trodAll_cons r3
  obtain ⟨rfl, rfl, rfl⟩ := trodAll_nil r4
  obtain rfl : args = #[v0, v1, v2, v3, v4] := by cases args; simp_all
  obtain ⟨rfl, rfl⟩ := trodVars_none hV
  obtain ⟨x0, rfl⟩ := u_of (m := 16) Tryz.underlying47 (by decide) (by decide +kernel) (hval 0 47 v0 rfl rfl) h0
  obtain ⟨x1, rfl⟩ := u_of (m := 32) Tryz.underlying48 (by decide) (by decide +kernel) (hval 1 48 v1 rfl rfl) h1
  obtain ⟨x2, rfl, hx2⟩ := i32_of Tryz.underlying21 (hval 2 21 v2 rfl rfl) h2
  obtain ⟨x3, rfl⟩ := u_of (m := 64) Tryz.underlying49 (by decide) (by decide +kernel) (hval 3 49 v3 rfl rfl) h3
  obtain ⟨x4, rfl⟩ := bool_of Tryz.underlying4 (hval 4 4 v4 rfl rfl)
  exact calls_of (canonLongs_spec x0 x1 x2 x3 x4 W hx2 (mx_of hsh)) fun w' e => post_of_le pLaidOut (by kernel_rfl) rfl rfl Tryz.underlying4 hW' e rfl
def args : Array Value := #[.int .u16 0, .int .u32 0, .int .i32 0, .int .u64 0, .bool false]
set_option maxRecDepth 100000 in
theorem reads (os : Os) {H : Type} (enc : TypeId × Value → H) : ∃ places, DataW.whole enc Tryz.prog ((pWorld os).forCall (fun _ _ => 0) ⟨#[], args, []⟩).memory Tryz.f6.params.toList Rows.canonLongsSpec.vars false args.toList 8 = some ([.lit (.int .u16 0), .lit (.int .u32 0), .lit (.int .i32 0), .lit (.int .u64 0), .lit (.bool false)], [], places) :=
  ⟨[], by kernel_rfl⟩
set_option maxRecDepth 100000 in
theorem lifted (os : Os) (started : os.Started) (H : Type) (enc : TypeId × Value → H) (F : Stop.Interp) :
    ReturnsInHanded {} Tryz.checked os 6 .any ((OpenSpec.ofChange Rows.canonLongsSpec).preRow enc Tryz.prog Tryz.f6 Rows.canonLongsRow.domain false Rows.canonLongsRow.laid) (((OpenSpec.ofChange Rows.canonLongsSpec).at F).post enc Tryz.prog Tryz.f6 false true false false) := by
  obtain ⟨places, hx⟩ := reads os enc
  refine returnsInHanded_of_row (C := Tryz.checked) (s := OpenSpec.ofChange Rows.canonLongsSpec) pOwn started (by kernel_rfl) Tryz.func6
    (witness_row_atRef (enc := enc) (C := Tryz.checked) false (pWorld os) args rfl (by kernel_rfl) (by kernel_rfl) (by kernel_rfl)
      (OpenSpec.preRow_of_cond 8 hx (by kernel_rfl) (fun k hk => by cases hk) (by kernel_rfl) (pMet os args))) ?_
  intro W base args ds gs before hval hW _ _ _ _ hsh _
  exact contract H enc W base args ds gs before hval hW hsh
theorem said : Rows.CanonLongsSaid :=
  OpenClaim.holds_of_cond 6 Tryz.f6 rfl rfl rfl rfl rfl rfl rfl ⟨rfl, rfl, rfl, rfl, rfl⟩ rfl rfl rfl rfl rfl (by kernel_rfl) Tryz.func6 (by kernel_rfl)
    (of_decide_eq_true (by kernel_rfl)) (by unfold Func.isWrapper; first | (rw [if_pos (by decide +kernel)]; kernel_rfl) | (rw [if_neg (by decide +kernel)]; exact ⟨rfl, rfl⟩))
    (fun os started H enc _ F => by rw [OpenClaim.pre_eq_preRow]; exact lifted os started H enc F)
theorem plain (f : FuncId) (fn : Func) (hf : Tryz.pinned.checked.prog.funcNamed "pannier/pannierlaw14.CanonLongs" = some f) (hfn : Tryz.pinned.checked.prog.funcs[f]? = some fn) :
    true = Tryz.pinned.checked.prog.looks [] ∧ ∀ (j : Nat) t, fn.params[j]? = some t → Tryz.pinned.checked.prog.wantsStandIn t = false := by
  obtain rfl : f = 6 := Option.some.inj ((show Tryz.prog.funcNamed "pannier/pannierlaw14.CanonLongs" = some 6 by kernel_rfl).symm.trans hf) |>.symm
  obtain rfl : fn = Tryz.f6 := (Option.some.inj (Tryz.func6.symm.trans hfn)).symm
  refine ⟨by kernel_rfl, fun j t ht => ?_⟩
  have h : (Tryz.f6.params.toList.all fun t => Tryz.prog.wantsStandIn t == false) = true := by kernel_rfl
  have hm : t ∈ Tryz.f6.params.toList := List.mem_of_getElem? (i := j) (by simpa using ht)
  exact (show Tryz.prog.wantsStandIn t = false by simpa using List.all_eq_true.1 h t hm)
/-- THE CARD. -/
theorem card : Rows.CanonLongsCardSaid :=
  Claim7.holds_tied_plain_at .later [] _ _ _ _ said (fun _ h => by cases h) (by kernel_rfl) (fun _ h => by cases h) canonLongs_row_tie rfl ⟨rfl, rfl⟩ (by kernel_rfl) rfl plain (by kernel_rfl)
end Go.Proofs.YtnkcmaoaagnopaaGreatDoor.canonLongs

