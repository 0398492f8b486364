/-
  The walks of dots: what is allowed, their order. Conditions: slices as they lie in memory.
-/
import Derived.Test.YtbmbaajfkmejgaaGreatDoorVectorTextsM1
import Derived.Test.YtbmbaajfkmejgaaGreatDoorRows
import Derived.Shelf.Strings.Builder1
import Derived.Shelf.Strings.Builder2
import Derived.Shelf.Strings.OnBuilder
import Derived.Shelf.Small.Bits
import Derived.Shelf.Small.Wraps
import Derived.Shelf.Strings.BuilderF
import Derived.Shelf.Strings.BuilderK
import Derived.Shelf.Strings.Builder2Cap
import Derived.Shelf.Strconv.Atoi
import Derived.Shelf.Strconv.Itoa0
import Derived.Shelf.Strconv.Itoa1
import Derived.Shelf.LaysM
import Derived.Shelf.Strconv.Itoa2
import Derived.Shelf.Strconv.Itoa3
import Derived.Shelf.Strconv.AtoiErrFast
import Derived.Shelf.Strconv.ParseIntEmpty
import Derived.Shelf.Strconv.AtoiFail
import Derived.Shelf.Strconv.Clone
import Derived.Shelf.Strconv.SyntaxError
import Derived.Shelf.LaysC
import Derived.Shelf.Strconv.ToError
import Derived.Shelf.Strconv.AtoiErr
import Derived.Shelf.Strconv.ErrVar
import Derived.Shelf.Strconv.Lower
import Derived.Shelf.Strconv.ParseUint10
import Derived.Shelf.Strconv.ParseUint10Empty
import Derived.Shelf.Strconv.ParseUint10Any
import Derived.Shelf.Strconv.ParseInt10
import Derived.Shelf.Strconv.AtoiLong
import Derived.Shelf.Strconv.AtoiInnerAll
import Derived.Shelf.Strconv.RangeError
import Derived.Shelf.Strconv.ToErrorRange
import Derived.Shelf.Strconv.AtoiAll
import Derived.Shelf.Strconv.ErrVarAll
import Derived.Shelf.Strings.Search1
import Derived.Shelf.Strings.Search2
import Derived.Shelf.Strings.Search3
import Derived.Shelf.Strings.Cut
import Derived.Shelf.Strings.Shaped
import Derived.Shelf.Unicode.Decode
import Derived.Shelf.Unicode.DecodeSlow
import Derived.Shelf.Unicode.DecodeAny
import Derived.Shelf.Strings.BuilderCap
import Derived.Ground.Names2Prog
import Derived.Shelf.Slices.SearchI
import Derived.Test.YtbmbaajfkmejgaaGreatDoorProg
import Derived.Shelf.SlLaysF0
import Derived.Ground.SlsfProg
import Derived.Shelf.SlSortCmp.WholeK
import Derived.Lib.SmallJoins
import Derived.Test.YtbmbaajfkmejgaaGreatDoorVectorTextsM2
section
namespace Go.Proofs.YtbmbaajfkmejgaaGreatDoor
open Go.Pn Go.RowKit

theorem inf25 : ∃ ie, Tryz.prog.info? 25 = some ie ∧ ie.size = 2 ∧ ie.bytes = 16 ∧ ie.zero = some (.agg #[.int .i64 0, .int .i64 0]) := by
  have h : (Tryz.prog.info? 25).isSome = true := by kernel_rfl
  exact ⟨(Tryz.prog.info? 25).get h, (Option.some_get h).symm, by kernel_rfl, by kernel_rfl, by kernel_rfl⟩
theorem valid_spec (d : Dt.Dot) (w : World) :
    Ret Tryz.prog 38 #[Dt.dv (d)] w (fun v w' => v = .bool (decide (Dt.Valid d)) ∧ Le w w') := by
  refine enter (args := [Dt.dv (d)]) (n := 21) Tryz.func38 rfl rfl (Nat.le_of_ble_eq_true rfl) ?_
  refine C.seqK fun K1 hK1 => ?_
  refine C.region ?_
  refine O.box (v := Dt.dv (d)) rfl (fun b1 w1 hb1 hz1 e1 => ?_)
  have z1 := e1.size
  have h1 := hz1.own
  have hl1 := h1.lt
  refine O.asg ?_
  refine O.nil ?_
  refine hK1 _ _ ?_
  refine C.seqK fun K2 hK2 => ?_
  refine C.region ?_
  refine O.fieldAd Tryz.underlying25 rfl Tryz.sizeOf3 (by decide) rfl ?_
  refine O.loadO Tryz.isAgg3 rfl h1 rfl ?_
  refine O.geqI rfl rfl ?_
  refine O.mv ?_
  refine O.cut 4 (fun f f' => f' 10 = .bool (decide (1 ≤ d.1 ∧ d.1 ≤ 65535)) ∧ f' 1 = f 1) ?_ ?_
  ·
    refine O.splitD (x := .tmp 6) rfl (fun c6 => ?_) (fun c6 => ?_)
    ·
      refine O.yes rfl (isT rfl c6) ?_
      refine O.fieldAd Tryz.underlying25 rfl Tryz.sizeOf3 (by decide) rfl ?_
      refine O.yes rfl (isT rfl c6) ?_
      refine O.loadO Tryz.isAgg3 rfl h1 rfl ?_
      refine O.yes rfl (isT rfl c6) ?_
      refine O.leqI rfl rfl ?_
      refine O.pickT (isT rfl c6) ?_
      refine O.nil ?_
      refine ⟨⟨?_, rfl⟩, rfl⟩
      first | exact rfl | exact Eq.trans rfl (congrArg Value.bool (dAnd (by assumption))) | exact Eq.trans rfl (congrArg Value.bool (dAndF (by assumption))) | exact Eq.trans rfl (congrArg Value.bool (dOr (by assumption))) | exact Eq.trans rfl (congrArg Value.bool (dOrT (by assumption)))
    ·
      refine O.no rfl (noB (isF rfl c6) rfl) ?_
      refine O.no rfl (noB (isF rfl c6) rfl) ?_
      refine O.no rfl (noB (isF rfl c6) rfl) ?_
      refine O.pickF (isF rfl c6) ?_
      refine O.nil ?_
      refine ⟨⟨?_, rfl⟩, rfl⟩
      first | exact rfl | exact Eq.trans rfl (congrArg Value.bool (dAnd (by assumption))) | exact Eq.trans rfl (congrArg Value.bool (dAndF (by assumption))) | exact Eq.trans rfl (congrArg Value.bool (dOr (by assumption))) | exact Eq.trans rfl (congrArg Value.bool (dOrT (by assumption)))
  ·
    rintro f_1 ⟨s10_1, s1_1⟩
    refine O.mv ?_
    refine O.cut 4 (fun f f' => f' 15 = .bool (decide ((1 ≤ d.1 ∧ d.1 ≤ 65535) ∧ 1 ≤ d.2)) ∧ f' 1 = f 1) ?_ ?_
    ·
      refine O.splitD (x := .tmp 11) s10_1 (fun c11 => ?_) (fun c11 => ?_)
      ·
        refine O.yes rfl (isT s10_1 c11) ?_
        refine O.fieldAd Tryz.underlying25 rfl Tryz.sizeOf3 (by decide) s1_1 ?_
        refine O.yes rfl (isT s10_1 c11) ?_
        refine O.loadO Tryz.isAgg3 rfl h1 rfl ?_
        refine O.yes rfl (isT s10_1 c11) ?_
        refine O.geqI rfl rfl ?_
        refine O.pickT (isT s10_1 c11) ?_
        refine O.nil ?_
        refine ⟨⟨?_, rfl⟩, rfl⟩
        first | exact rfl | exact Eq.trans rfl (congrArg Value.bool (dAnd (by assumption))) | exact Eq.trans rfl (congrArg Value.bool (dAndF (by assumption))) | exact Eq.trans rfl (congrArg Value.bool (dOr (by assumption))) | exact Eq.trans rfl (congrArg Value.bool (dOrT (by assumption)))
      ·
        refine O.no rfl (noB (isF s10_1 c11) rfl) ?_
        refine O.no rfl (noB (isF s10_1 c11) rfl) ?_
        refine O.no rfl (noB (isF s10_1 c11) rfl) ?_
        refine O.pickF (isF s10_1 c11) ?_
        refine O.nil ?_
        refine ⟨⟨?_, rfl⟩, rfl⟩
        first | exact rfl | exact Eq.trans rfl (congrArg Value.bool (dAnd (by assumption))) | exact Eq.trans rfl (congrArg Value.bool (dAndF (by assumption))) | exact Eq.trans rfl (congrArg Value.bool (dOr (by assumption))) | exact Eq.trans rfl (congrArg Value.bool (dOrT (by assumption)))
    ·
      rintro f_2 ⟨s15_2, s1_2⟩
      refine O.mv ?_
      refine O.cut 4 (fun f f' => f' 20 = .bool (decide (((1 ≤ d.1 ∧ d.1 ≤ 65535) ∧ 1 ≤ d.2) ∧ d.2 ≤ 4294967295))) ?_ ?_
      ·
        refine O.splitD (x := .tmp 16) s15_2 (fun c16 => ?_) (fun c16 => ?_)
        ·
          refine O.yes rfl (isT s15_2 c16) ?_
          refine O.fieldAd Tryz.underlying25 rfl Tryz.sizeOf3 (by decide) (Eq.trans s1_2 s1_1) ?_
          refine O.yes rfl (isT s15_2 c16) ?_
          refine O.loadO Tryz.isAgg3 rfl h1 rfl ?_
          refine O.yes rfl (isT s15_2 c16) ?_
          refine O.leqI rfl rfl ?_
          refine O.pickT (isT s15_2 c16) ?_
          refine O.nil ?_
          refine ⟨?_, rfl⟩
          first | exact rfl | exact Eq.trans rfl (congrArg Value.bool (dAnd (by assumption))) | exact Eq.trans rfl (congrArg Value.bool (dAndF (by assumption))) | exact Eq.trans rfl (congrArg Value.bool (dOr (by assumption))) | exact Eq.trans rfl (congrArg Value.bool (dOrT (by assumption)))
        ·
          refine O.no rfl (noB (isF s15_2 c16) rfl) ?_
          refine O.no rfl (noB (isF s15_2 c16) rfl) ?_
          refine O.no rfl (noB (isF s15_2 c16) rfl) ?_
          refine O.pickF (isF s15_2 c16) ?_
          refine O.nil ?_
          refine ⟨?_, rfl⟩
          first | exact rfl | exact Eq.trans rfl (congrArg Value.bool (dAnd (by assumption))) | exact Eq.trans rfl (congrArg Value.bool (dAndF (by assumption))) | exact Eq.trans rfl (congrArg Value.bool (dOr (by assumption))) | exact Eq.trans rfl (congrArg Value.bool (dOrT (by assumption)))
      ·
        intro f_3 s20_3
        refine O.asg ?_
        refine O.nil ?_
        refine hK2 _ _ ?_
        refine C.ret ?_
        refine Outs.one rfl s20_3 ?_
        exact ⟨congrArg Value.bool (decide_eq_decide.2 (by unfold Dt.Valid; omega)), e1⟩

theorem rvalid_spec (d : Dt.Dot) (w : World) :
    Ret Tryz.prog 18 #[Dt.dv (d)] w (fun v w' => v = .bool (decide (Dt.Valid d)) ∧ Le w w') := by
  refine enter (args := [Dt.dv (d)]) (n := 21) Tryz.func18 rfl rfl (Nat.le_of_ble_eq_true rfl) ?_
  refine C.seqK fun K1 hK1 => ?_
  refine C.region ?_
  refine O.box (v := Dt.dv (d)) rfl (fun b1 w1 hb1 hz1 e1 => ?_)
  have z1 := e1.size
  have h1 := hz1.own
  have hl1 := h1.lt
  refine O.asg ?_
  refine O.nil ?_
  refine hK1 _ _ ?_
  refine C.seqK fun K2 hK2 => ?_
  refine C.region ?_
  refine O.fieldAd Tryz.underlying25 rfl Tryz.sizeOf3 (by decide) rfl ?_
  refine O.loadO Tryz.isAgg3 rfl h1 rfl ?_
  refine O.gtrI rfl rfl ?_
  refine O.mv ?_
  refine O.cut 4 (fun f f' => f' 10 = .bool (decide (d.1 > 0 ∧ d.1 ≤ 65535)) ∧ f' 1 = f 1) ?_ ?_
  ·
    refine O.splitD (x := .tmp 6) rfl (fun c6 => ?_) (fun c6 => ?_)
    ·
      refine O.yes rfl (isT rfl c6) ?_
      refine O.fieldAd Tryz.underlying25 rfl Tryz.sizeOf3 (by decide) rfl ?_
      refine O.yes rfl (isT rfl c6) ?_
      refine O.loadO Tryz.isAgg3 rfl h1 rfl ?_
      refine O.yes rfl (isT rfl c6) ?_
      refine O.leqI rfl rfl ?_
      refine O.pickT (isT rfl c6) ?_
      refine O.nil ?_
      refine ⟨⟨?_, rfl⟩, rfl⟩
      first | exact rfl | exact Eq.trans rfl (congrArg Value.bool (dAnd (by assumption))) | exact Eq.trans rfl (congrArg Value.bool (dAndF (by assumption))) | exact Eq.trans rfl (congrArg Value.bool (dOr (by assumption))) | exact Eq.trans rfl (congrArg Value.bool (dOrT (by assumption)))
    ·
      refine O.no rfl (noB (isF rfl c6) rfl) ?_
      refine O.no rfl (noB (isF rfl c6) rfl) ?_
      refine O.no rfl (noB (isF rfl c6) rfl) ?_
      refine O.pickF (isF rfl c6) ?_
      refine O.nil ?_
      refine ⟨⟨?_, rfl⟩, rfl⟩
      first | exact rfl | exact Eq.trans rfl (congrArg Value.bool (dAnd (by assumption))) | exact Eq.trans rfl (congrArg Value.bool (dAndF (by assumption))) | exact Eq.trans rfl (congrArg Value.bool (dOr (by assumption))) | exact Eq.trans rfl (congrArg Value.bool (dOrT (by assumption)))
  ·
    rintro f_1 ⟨s10_1, s1_1⟩
    refine O.mv ?_
    refine O.cut 4 (fun f f' => f' 15 = .bool (decide ((d.1 > 0 ∧ d.1 ≤ 65535) ∧ d.2 > 0)) ∧ f' 1 = f 1) ?_ ?_
    ·
      refine O.splitD (x := .tmp 11) s10_1 (fun c11 => ?_) (fun c11 => ?_)
      ·
        refine O.yes rfl (isT s10_1 c11) ?_
        refine O.fieldAd Tryz.underlying25 rfl Tryz.sizeOf3 (by decide) s1_1 ?_
        refine O.yes rfl (isT s10_1 c11) ?_
        refine O.loadO Tryz.isAgg3 rfl h1 rfl ?_
        refine O.yes rfl (isT s10_1 c11) ?_
        refine O.gtrI rfl rfl ?_
        refine O.pickT (isT s10_1 c11) ?_
        refine O.nil ?_
        refine ⟨⟨?_, rfl⟩, rfl⟩
        first | exact rfl | exact Eq.trans rfl (congrArg Value.bool (dAnd (by assumption))) | exact Eq.trans rfl (congrArg Value.bool (dAndF (by assumption))) | exact Eq.trans rfl (congrArg Value.bool (dOr (by assumption))) | exact Eq.trans rfl (congrArg Value.bool (dOrT (by assumption)))
      ·
        refine O.no rfl (noB (isF s10_1 c11) rfl) ?_
        refine O.no rfl (noB (isF s10_1 c11) rfl) ?_
        refine O.no rfl (noB (isF s10_1 c11) rfl) ?_
        refine O.pickF (isF s10_1 c11) ?_
        refine O.nil ?_
        refine ⟨⟨?_, rfl⟩, rfl⟩
        first | exact rfl | exact Eq.trans rfl (congrArg Value.bool (dAnd (by assumption))) | exact Eq.trans rfl (congrArg Value.bool (dAndF (by assumption))) | exact Eq.trans rfl (congrArg Value.bool (dOr (by assumption))) | exact Eq.trans rfl (congrArg Value.bool (dOrT (by assumption)))
    ·
      rintro f_2 ⟨s15_2, s1_2⟩
      refine O.mv ?_
      refine O.cut 4 (fun f f' => f' 20 = .bool (decide (((d.1 > 0 ∧ d.1 ≤ 65535) ∧ d.2 > 0) ∧ d.2 ≤ 4294967295))) ?_ ?_
      ·
        refine O.splitD (x := .tmp 16) s15_2 (fun c16 => ?_) (fun c16 => ?_)
        ·
          refine O.yes rfl (isT s15_2 c16) ?_
          refine O.fieldAd Tryz.underlying25 rfl Tryz.sizeOf3 (by decide) (Eq.trans s1_2 s1_1) ?_
          refine O.yes rfl (isT s15_2 c16) ?_
          refine O.loadO Tryz.isAgg3 rfl h1 rfl ?_
          refine O.yes rfl (isT s15_2 c16) ?_
          refine O.leqI rfl rfl ?_
          refine O.pickT (isT s15_2 c16) ?_
          refine O.nil ?_
          refine ⟨?_, rfl⟩
          first | exact rfl | exact Eq.trans rfl (congrArg Value.bool (dAnd (by assumption))) | exact Eq.trans rfl (congrArg Value.bool (dAndF (by assumption))) | exact Eq.trans rfl (congrArg Value.bool (dOr (by assumption))) | exact Eq.trans rfl (congrArg Value.bool (dOrT (by assumption)))
        ·
          refine O.no rfl (noB (isF s15_2 c16) rfl) ?_
          refine O.no rfl (noB (isF s15_2 c16) rfl) ?_
          refine O.no rfl (noB (isF s15_2 c16) rfl) ?_
          refine O.pickF (isF s15_2 c16) ?_
          refine O.nil ?_
          refine ⟨?_, rfl⟩
          first | exact rfl | exact Eq.trans rfl (congrArg Value.bool (dAnd (by assumption))) | exact Eq.trans rfl (congrArg Value.bool (dAndF (by assumption))) | exact Eq.trans rfl (congrArg Value.bool (dOr (by assumption))) | exact Eq.trans rfl (congrArg Value.bool (dOrT (by assumption)))
      ·
        intro f_3 s20_3
        refine O.asg ?_
        refine O.nil ?_
        refine hK2 _ _ ?_
        refine C.ret ?_
        refine Outs.one rfl s20_3 ?_
        exact ⟨congrArg Value.bool (decide_eq_decide.2 (by unfold Dt.Valid; omega)), e1⟩

theorem isNaN_spec (x : Int) (w : World) :
    Ret Tryz.prog 65 #[.int .i64 (x)] w (fun v w' => v = .bool false ∧ w' = w) := by
  refine enter (args := [.int .i64 (x)]) (n := 6) Tryz.func65 rfl rfl (Nat.le_of_ble_eq_true rfl) ?_
  refine C.seqK fun K1 hK1 => ?_
  refine C.region ?_
  refine O.asg ?_
  refine O.nil ?_
  refine hK1 _ _ ?_
  refine C.seqK fun K2 hK2 => ?_
  refine C.region ?_
  refine O.mv ?_
  refine O.mv ?_
  refine O.neqI rfl rfl ?_
  refine O.cast (v' := .bool false) (congrArg Value.bool (by exact decide_eq_false (fun h => h rfl))) ?_
  refine O.asg ?_
  refine O.nil ?_
  refine hK2 _ _ ?_
  refine C.ret ?_
  refine Outs.one rfl rfl ?_
  exact ⟨rfl, rfl⟩

theorem icmp_spec (a b : Int) (w : World) :
    Ret Tryz.prog 53 #[.int .i64 (a), .int .i64 (b)] w (fun v w' => v = .int .i64 (Dt.icmp a b) ∧ w' = w) := by
  refine enter (args := [.int .i64 (a), .int .i64 (b)]) (n := 20) Tryz.func53 rfl rfl (Nat.le_of_ble_eq_true rfl) ?_
  refine C.seqK fun K1 hK1 => ?_
  refine C.region ?_
  refine O.asg ?_
  refine O.nil ?_
  refine hK1 _ _ ?_
  refine C.seqK fun K2 hK2 => ?_
  refine C.region ?_
  refine O.mv ?_
  refine O.call Tryz.call65 (args1 rfl) (isNaN_spec _ _) ?_
  rintro v_8 w1 ⟨rfl, hw_⟩
  replace hw_ := hw_.symm
  subst hw_
  refine O.asg ?_
  refine O.nil ?_
  refine hK2 _ _ ?_
  refine C.seqK fun K3 hK3 => ?_
  refine C.region ?_
  refine O.mv ?_
  refine O.call Tryz.call65 (args1 rfl) (isNaN_spec _ _) ?_
  rintro v_10 w1 ⟨rfl, hw_⟩
  replace hw_ := hw_.symm
  subst hw_
  refine O.asg ?_
  refine O.nil ?_
  refine hK3 _ _ ?_
  refine C.seqK fun K4 hK4 => ?_
  refine C.seqK fun K5 hK5 => ?_
  refine C.region ?_
  refine O.mv ?_
  refine O.nil ?_
  refine hK5 _ _ ?_
  refine C.condF rfl ?_
  refine C.skip ?_
  refine hK4 _ _ ?_
  refine C.seqK fun K6 hK6 => ?_
  refine C.seqK fun K7 hK7 => ?_
  refine C.region ?_
  refine O.mv ?_
  refine O.nil ?_
  refine hK7 _ _ ?_
  refine C.condF rfl ?_
  refine C.skip ?_
  refine hK6 _ _ ?_
  refine C.seqK fun K8 hK8 => ?_
  refine C.seqK fun K9 hK9 => ?_
  refine C.region ?_
  refine O.mv ?_
  refine O.mv ?_
  refine O.lssI rfl rfl ?_
  refine O.nil ?_
  refine hK9 _ _ ?_
  refine C.condD rfl (fun c16 => ?_) (fun c16 => ?_)
  ·
    refine C.seqK fun K10 hK10 => ?_
    refine C.region ?_
    refine O.asg ?_
    refine O.nil ?_
    refine hK10 _ _ ?_
    refine C.ret ?_
    refine Outs.one rfl rfl ?_
    unfold Dt.icmp
    first
    | (rw [if_pos (by assumption)]; exact ⟨rfl, rfl⟩)
    | (rw [if_neg (by assumption), if_pos (by assumption)]; exact ⟨rfl, rfl⟩)
    | (rw [if_neg (by assumption), if_neg (by assumption)]; exact ⟨rfl, rfl⟩)
  ·
    refine C.skip ?_
    refine hK8 _ _ ?_
    refine C.seqK fun K11 hK11 => ?_
    refine C.seqK fun K12 hK12 => ?_
    refine C.region ?_
    refine O.mv ?_
    refine O.mv ?_
    refine O.gtrI rfl rfl ?_
    refine O.nil ?_
    refine hK12 _ _ ?_
    refine C.condD rfl (fun c19 => ?_) (fun c19 => ?_)
    ·
      refine C.seqK fun K13 hK13 => ?_
      refine C.region ?_
      refine O.asg ?_
      refine O.nil ?_
      refine hK13 _ _ ?_
      refine C.ret ?_
      refine Outs.one rfl rfl ?_
      unfold Dt.icmp
      first
      | (rw [if_pos (by assumption)]; exact ⟨rfl, rfl⟩)
      | (rw [if_neg (by assumption), if_pos (by assumption)]; exact ⟨rfl, rfl⟩)
      | (rw [if_neg (by assumption), if_neg (by assumption)]; exact ⟨rfl, rfl⟩)
    ·
      refine C.skip ?_
      refine hK11 _ _ ?_
      refine C.seqK fun K14 hK14 => ?_
      refine C.region ?_
      refine O.asg ?_
      refine O.nil ?_
      refine hK14 _ _ ?_
      refine C.ret ?_
      refine Outs.one rfl rfl ?_
      unfold Dt.icmp
      first
      | (rw [if_pos (by assumption)]; exact ⟨rfl, rfl⟩)
      | (rw [if_neg (by assumption), if_pos (by assumption)]; exact ⟨rfl, rfl⟩)
      | (rw [if_neg (by assumption), if_neg (by assumption)]; exact ⟨rfl, rfl⟩)

end Go.Proofs.YtbmbaajfkmejgaaGreatDoor
end
section
/-
  The walks of dots: lists. Conditions: slices as they lie in memory.
-/
namespace Go.Proofs.YtbmbaajfkmejgaaGreatDoor
open Go.Pn Go.RowKit

theorem same_spec (v0 : Value) (a : List Dt.Dot) (v1 : Value) (b : List Dt.Dot) (F F2 : Nat → Prop) (w : World) (ha : Sl Dt.dotF.enc w F v0 a) (hb : Sl Dt.dotF.enc w F2 v1 b) :
    Ret Tryz.prog 17 #[v0, v1] w (fun v w' => v = .bool (decide (a = b)) ∧ Le w w') := by
  have hale := ha.le
  have hble := hb.le
  refine enter (args := [v0, v1]) (n := 26) Tryz.func17 rfl rfl (Nat.le_of_ble_eq_true rfl) ?_
  refine C.seqK fun K1 hK1 => ?_
  refine C.region ?_
  refine O.asg ?_
  refine O.nil ?_
  refine hK1 _ _ ?_
  refine C.seqK fun K2 hK2 => ?_
  refine C.seqK fun K3 hK3 => ?_
  refine C.region ?_
  refine O.mv ?_
  refine O.len Tryz.underlying22 rfl ha ?_
  refine O.mv ?_
  refine O.len Tryz.underlying22 rfl hb ?_
  refine O.neqI rfl rfl ?_
  refine O.nil ?_
  refine hK3 _ _ ?_
  refine C.condD rfl (fun c10 => ?_) (fun c10 => ?_)
  ·
    refine C.seqK fun K4 hK4 => ?_
    refine C.region ?_
    refine O.asg ?_
    refine O.nil ?_
    refine hK4 _ _ ?_
    refine C.ret ?_
    refine Outs.one rfl rfl ?_
    first
    | exact ⟨congrArg Value.bool (decide_eq_false (fun h => c10 (congrArg (fun l : List Dt.Dot => (l.length : Int)) h))).symm, (Le.refl _)⟩
    | exact ⟨congrArg Value.bool (decide_eq_false (fun h => c25 (by simp only [h]))).symm, (Le.refl _)⟩
    | (have hk2 : k = a.length := by omega
       subst hk2
       rw [List.take_length, List.take_of_length_le (by omega)] at hI
       exact ⟨congrArg Value.bool (decide_eq_true hI).symm, (Le.refl _)⟩)
  ·
    have hlen : a.length = b.length := by omega
    refine C.skip ?_
    refine hK2 _ _ ?_
    refine C.seqK fun K5 hK5 => ?_
    refine C.seqK fun K6 hK6 => ?_
    refine C.region ?_
    refine O.asg ?_
    refine O.nil ?_
    refine hK6 _ _ ?_
    refine C.block fun K7 hK7 => ?_
    refine C.loop0 (σ := Nat) (fun f0 w0 k f wz => f 5 = .int .i64 (k) ∧ f 0 = f0 0 ∧ f 1 = f0 1 ∧ Le w wz ∧ k ≤ a.length ∧ a.take k = b.take k) (fun k => a.length - k) 0 ?_ ?_
    ·
      refine ⟨rfl, rfl, rfl, (Le.refl _), ?_⟩
      exact ⟨Nat.zero_le _, rfl⟩
    ·
      rintro k f_1 w1 ⟨s5_1, s0_1, s1_1, e_1, ⟨hk, hI⟩⟩
      have z_1 := e_1.size
      refine C.seqK fun K8 hK8 => ?_
      refine C.seqK fun K9 hK9 => ?_
      refine C.region ?_
      refine O.mv ?_
      refine O.mv ?_
      refine O.len Tryz.underlying22 s0_1 (ha.keep e_1) ?_
      refine O.lssI s5_1 rfl ?_
      refine O.nil ?_
      refine hK9 _ _ ?_
      refine C.condD rfl (fun c14 => ?_) (fun c14 => ?_)
      ·
        refine C.skip ?_
        refine hK8 _ _ ?_
        refine C.seqK fun K10 hK10 => ?_
        refine C.block fun K11 hK11 => ?_
        refine C.seqK fun K12 hK12 => ?_
        refine C.draw (by kernel_rfl) fun w2 e2 => ?_
        have z2 := e2.size
        refine D.take (i := 0) rfl rfl rfl rfl (by kernel_rfl) (Le.refl _) ⟨pure _, rfl⟩ (fun w_ hw_ N_ hN => (O.mv (O.nil hN))) ?_
        refine D.take (i := 1) rfl rfl rfl rfl (by kernel_rfl) (Le.refl _) ⟨pure _, rfl⟩ (fun w_ hw_ N_ hN => (O.mv (O.nil hN))) ?_
        obtain ⟨a19, h19, hr19⟩ := Sl.at (i := (k : Int)) (P := Tryz.prog) Tryz.underlying22 Tryz.sizeOf25 rfl ((ha.keep e_1).keep e2) (by omega)
        refine D.take (i := 2) rfl rfl rfl rfl (by kernel_rfl) (Le.refl _) ⟨_, rfl⟩ (fun w_ hw_ N_ hN => (O.idxR s0_1 s5_1 hr19 (O.nil hN))) ?_
        refine D.take (i := 3) rfl rfl rfl rfl (by kernel_rfl) (Le.refl _) ⟨_, rfl⟩ (fun w_ hw_ N_ hN => (O.loadG (G := Dt.dotF) Tryz.isAgg25 Tryz.sizeOf25 rfl (h19.keep hw_) (O.nil hN))) ?_
        refine D.take (i := 4) rfl rfl rfl rfl (by kernel_rfl) (Le.refl _) ⟨pure _, rfl⟩ (fun w_ hw_ N_ hN => (O.mv (O.nil hN))) ?_
        refine D.take (i := 5) rfl rfl rfl rfl (by kernel_rfl) (Le.refl _) ⟨pure _, rfl⟩ (fun w_ hw_ N_ hN => (O.mv (O.nil hN))) ?_
        obtain ⟨a23, h23, hr23⟩ := Sl.at (i := (k : Int)) (P := Tryz.prog) Tryz.underlying22 Tryz.sizeOf25 rfl ((hb.keep e_1).keep e2) (by omega)
        refine D.take (i := 6) rfl rfl rfl rfl (by kernel_rfl) (Le.refl _) ⟨_, rfl⟩ (fun w_ hw_ N_ hN => (O.idxR s1_1 s5_1 hr23 (O.nil hN))) ?_
        refine D.take (i := 7) rfl rfl rfl rfl (by kernel_rfl) (Le.refl _) ⟨_, rfl⟩ (fun w_ hw_ N_ hN => (O.loadG (G := Dt.dotF) Tryz.isAgg25 Tryz.sizeOf25 rfl (h23.keep hw_) (O.nil hN))) ?_
        refine D.take (i := 8) rfl rfl rfl rfl (by kernel_rfl) (Le.refl _) ⟨_, rfl⟩ (fun w_ hw_ N_ hN => (O.neqP Tryz.underlying25 (by decide) (by decide) rfl rfl Tryz.underlying3 Tryz.underlying3 Tryz.isAgg3 Tryz.isAgg3 (by kernel_rfl) (by kernel_rfl) rfl rfl (O.nil hN))) ?_
        refine D.done (by kernel_rfl) ?_
        refine hK12 _ _ ?_
        refine C.condD rfl (fun c25 => ?_) (fun c25 => ?_)
        ·
          refine C.seqK fun K13 hK13 => ?_
          refine C.region ?_
          refine O.asg ?_
          refine O.nil ?_
          refine hK13 _ _ ?_
          refine C.ret ?_
          refine Outs.one rfl rfl ?_
          first
          | exact ⟨congrArg Value.bool (decide_eq_false (fun h => c10 (congrArg (fun l : List Dt.Dot => (l.length : Int)) h))).symm, (Ext.trans e_1 e2)⟩
          | exact ⟨congrArg Value.bool (decide_eq_false (fun h => c25 (by simp only [h]))).symm, (Ext.trans e_1 e2)⟩
          | (have hk2 : k = a.length := by omega
             subst hk2
             rw [List.take_length, List.take_of_length_le (by omega)] at hI
             exact ⟨congrArg Value.bool (decide_eq_true hI).symm, (Ext.trans e_1 e2)⟩)
        ·
          refine C.skip ?_
          refine hK11 _ _ ?_
          refine hK10 _ _ ?_
          refine C.region ?_
          refine O.mv ?_
          refine O.addI s5_1 rfl (by unfold InI; omega) ?_
          refine O.asg ?_
          refine O.nil ?_
          refine ⟨k + 1, ⟨rfl, s0_1, s1_1, (Ext.trans e_1 e2), ?_⟩, by first | omega | (simp only []; omega)⟩
          have hka : k < a.length := by omega
          have hkb : k < b.length := by omega
          have hq : a[k] = b[k] := Decidable.of_not_not c25
          refine ⟨by omega, ?_⟩
          rw [List.take_succ_eq_append_getElem hka, List.take_succ_eq_append_getElem hkb, hI, hq]
      ·
        refine C.exit ?_
        refine hK7 _ _ ?_
        refine hK5 _ _ ?_
        refine C.seqK fun K14 hK14 => ?_
        refine C.region ?_
        refine O.asg ?_
        refine O.nil ?_
        refine hK14 _ _ ?_
        refine C.ret ?_
        refine Outs.one rfl rfl ?_
        first
        | exact ⟨congrArg Value.bool (decide_eq_false (fun h => c10 (congrArg (fun l : List Dt.Dot => (l.length : Int)) h))).symm, e_1⟩
        | exact ⟨congrArg Value.bool (decide_eq_false (fun h => c25 (by simp only [h]))).symm, e_1⟩
        | (have hk2 : k = a.length := by omega
           subst hk2
           rw [List.take_length, List.take_of_length_le (by omega)] at hI
           exact ⟨congrArg Value.bool (decide_eq_true hI).symm, e_1⟩)

end Go.Proofs.YtbmbaajfkmejgaaGreatDoor
end
section
/-
  The walks of vectors: what is allowed, what a vector has. Conditions: slices as they lie in memory.
-/
namespace Go.Proofs.YtbmbaajfkmejgaaGreatDoor
open Go.Pn Go.RowKit

theorem vbad_spec (d : Dt.Dot) (w : World) :
    Ret Tryz.prog 35 #[Dt.dv (d)] w (fun v w' => v = .bool (Cn.badD d) ∧ Le w w') := by
  refine enter (args := [Dt.dv (d)]) (n := 6) Tryz.func35 rfl rfl (Nat.le_of_ble_eq_true rfl) ?_
  refine C.seqK fun K1 hK1 => ?_
  refine C.region ?_
  refine O.box (v := Dt.dv (d)) rfl (fun b1 w1 hb1 hz1 e1 => ?_)
  have z1 := e1.size
  have h1 := hz1.own
  have hl1 := h1.lt
  refine O.asg ?_
  refine O.nil ?_
  refine hK1 _ _ ?_
  refine C.seqK fun K2 hK2 => ?_
  refine C.region ?_
  refine O.loadOA Tryz.isAgg25 Tryz.sizeOf25 rfl h1 (Nat.le_of_ble_eq_true rfl) ?_
  refine O.call Tryz.call38 (args1 rfl) (valid_spec d _) ?_
  rintro v_4 w2 ⟨rfl, e2⟩
  have z2 := e2.size
  refine O.not rfl ?_
  refine O.asg ?_
  refine O.nil ?_
  refine hK2 _ _ ?_
  refine C.ret ?_
  refine Outs.one rfl rfl ?_
  exact ⟨rfl, (Ext.trans e1 e2)⟩

theorem pred_vbad (M : Nat → Prop) (w : World) : Pred Tryz.prog M w (.func (.func 35) #[] #[]) Dt.dv Cn.badD := ⟨35, [], rfl, Tryz.call35, fun d w' _ => vbad_spec d w'⟩
theorem indexV_spec (v0 vf : Value) (l : List Dt.Dot) (F M : Nat → Prop) (p : Dt.Dot → Bool) (w : World) (hl : Sl Dt.dotF.enc w F v0 l) (hp : Pred Tryz.prog M w vf Dt.dv p) :
    Ret Tryz.prog 36 #[v0, vf] w (fun v w' => v = .int .i64 (Cn.idx p l) ∧ Le w w') := by
  have hle := hl.le
  refine enter (args := [v0, vf]) (n := 19) Tryz.func36 rfl rfl (Nat.le_of_ble_eq_true rfl) ?_
  refine C.seqK fun K1 hK1 => ?_
  refine C.region ?_
  refine O.asg ?_
  refine O.nil ?_
  refine hK1 _ _ ?_
  refine C.seqK fun K2 hK2 => ?_
  refine C.seqK fun K3 hK3 => ?_
  refine C.region ?_
  refine O.mv ?_
  refine O.len Tryz.underlying23 rfl hl ?_
  refine O.mv ?_
  refine O.nil ?_
  refine hK3 _ _ ?_
  refine C.block fun K4 hK4 => ?_
  refine C.loop0 (σ := Nat) (fun f0 w0 k f wz => f 8 = .int .i64 (k) ∧ f 0 = f0 0 ∧ f 1 = f0 1 ∧ f 7 = f0 7 ∧ Le w wz ∧ k ≤ l.length ∧ ∀ i, ∀ h : i < l.length, i < k → p l[i] = false) (fun k => l.length - k) 0 ?_ ?_
  ·
    refine ⟨rfl, rfl, rfl, rfl, (Le.refl _), ?_⟩
    exact ⟨Nat.zero_le _, fun i h k => absurd k (Nat.not_lt_zero _)⟩
  ·
    rintro k f_1 w1 ⟨s8_1, s0_1, s1_1, s7_1, e_1, ⟨hk, hI⟩⟩
    have z_1 := e_1.size
    refine C.seqK fun K5 hK5 => ?_
    refine C.region ?_
    refine O.lssI s8_1 s7_1 ?_
    refine O.nil ?_
    refine hK5 _ _ ?_
    refine C.seqK fun K6 hK6 => ?_
    refine C.condD rfl (fun c9 => ?_) (fun c9 => ?_)
    ·
      have hk2 : k < l.length := by omega
      refine C.skip ?_
      refine hK6 _ _ ?_
      refine C.seqK fun K7 hK7 => ?_
      refine C.block fun K8 hK8 => ?_
      refine C.seqK fun K9 hK9 => ?_
      refine C.region ?_
      refine O.mv ?_
      refine O.asg ?_
      refine O.nil ?_
      refine hK9 _ _ ?_
      refine C.seqK fun K10 hK10 => ?_
      refine C.region ?_
      refine O.mv ?_
      refine O.mv ?_
      refine O.mv ?_
      refine O.idx Tryz.underlying23 Tryz.sizeOf25 rfl s0_1 (hl.keep e_1) s8_1 (by omega) (fun a14 h14 => ?_)
      refine O.loadG (G := Dt.dotF) Tryz.isAgg25 Tryz.sizeOf25 rfl h14 ?_
      refine O.callP (_) (hp.keep e_1) s1_1 rfl (fun w2 e2 => ?_)
      have z2 := e2.size
      refine O.nil ?_
      refine hK10 _ _ ?_
      refine C.cond rfl (fun c16 => ?_) (fun c16 => ?_)
      ·
        simp only [Int.toNat_natCast] at c16
        refine C.seqK fun K11 hK11 => ?_
        refine C.region ?_
        refine O.mv ?_
        refine O.asg ?_
        refine O.nil ?_
        refine hK11 _ _ ?_
        refine C.ret ?_
        refine Outs.one rfl s8_1 ?_
        first
        | exact ⟨congrArg (Value.int .i64) (Cn.idx_yes hk2 c16 hI).symm, (Ext.trans e_1 e2)⟩
        | exact ⟨congrArg (Value.int .i64) (Cn.idx_no fun i hi => hI i hi (by omega)).symm, (Ext.trans e_1 e2)⟩
      ·
        simp only [Int.toNat_natCast] at c16
        refine C.skip ?_
        refine hK8 _ _ ?_
        refine hK7 _ _ ?_
        refine C.region ?_
        refine O.addI s8_1 rfl (by unfold InI; omega) ?_
        refine O.mv ?_
        refine O.nil ?_
        refine ⟨k + 1, ⟨rfl, s0_1, s1_1, s7_1, (Ext.trans e_1 e2), ?_⟩, by first | omega | (simp only []; omega)⟩
        refine ⟨by omega, fun i hi hik => ?_⟩
        rcases Nat.lt_or_eq_of_le (Nat.le_of_lt_succ hik) with h | rfl
        · exact hI i hi h
        · exact c16
    ·
      refine C.exit ?_
      refine hK4 _ _ ?_
      refine hK2 _ _ ?_
      refine C.seqK fun K12 hK12 => ?_
      refine C.region ?_
      refine O.asg ?_
      refine O.nil ?_
      refine hK12 _ _ ?_
      refine C.ret ?_
      refine Outs.one rfl rfl ?_
      first
      | exact ⟨congrArg (Value.int .i64) (Cn.idx_yes hk2 c16 hI).symm, e_1⟩
      | exact ⟨congrArg (Value.int .i64) (Cn.idx_no fun i hi => hI i hi (by omega)).symm, e_1⟩

theorem indexD_spec (v0 vf : Value) (l : List Dt.Dot) (F M : Nat → Prop) (p : Dt.Dot → Bool) (w : World) (hl : Sl Dt.dotF.enc w F v0 l) (hp : Pred Tryz.prog M w vf Dt.dv p) :
    Ret Tryz.prog 62 #[v0, vf] w (fun v w' => v = .int .i64 (Cn.idx p l) ∧ Le w w') := by
  have hle := hl.le
  refine enter (args := [v0, vf]) (n := 19) Tryz.func62 rfl rfl (Nat.le_of_ble_eq_true rfl) ?_
  refine C.seqK fun K1 hK1 => ?_
  refine C.region ?_
  refine O.asg ?_
  refine O.nil ?_
  refine hK1 _ _ ?_
  refine C.seqK fun K2 hK2 => ?_
  refine C.seqK fun K3 hK3 => ?_
  refine C.region ?_
  refine O.mv ?_
  refine O.len Tryz.underlying22 rfl hl ?_
  refine O.mv ?_
  refine O.nil ?_
  refine hK3 _ _ ?_
  refine C.block fun K4 hK4 => ?_
  refine C.loop0 (σ := Nat) (fun f0 w0 k f wz => f 8 = .int .i64 (k) ∧ f 0 = f0 0 ∧ f 1 = f0 1 ∧ f 7 = f0 7 ∧ Le w wz ∧ k ≤ l.length ∧ ∀ i, ∀ h : i < l.length, i < k → p l[i] = false) (fun k => l.length - k) 0 ?_ ?_
  ·
    refine ⟨rfl, rfl, rfl, rfl, (Le.refl _), ?_⟩
    exact ⟨Nat.zero_le _, fun i h k => absurd k (Nat.not_lt_zero _)⟩
  ·
    rintro k f_1 w1 ⟨s8_1, s0_1, s1_1, s7_1, e_1, ⟨hk, hI⟩⟩
    have z_1 := e_1.size
    refine C.seqK fun K5 hK5 => ?_
    refine C.region ?_
    refine O.lssI s8_1 s7_1 ?_
    refine O.nil ?_
    refine hK5 _ _ ?_
    refine C.seqK fun K6 hK6 => ?_
    refine C.condD rfl (fun c9 => ?_) (fun c9 => ?_)
    ·
      have hk2 : k < l.length := by omega
      refine C.skip ?_
      refine hK6 _ _ ?_
      refine C.seqK fun K7 hK7 => ?_
      refine C.block fun K8 hK8 => ?_
      refine C.seqK fun K9 hK9 => ?_
      refine C.region ?_
      refine O.mv ?_
      refine O.asg ?_
      refine O.nil ?_
      refine hK9 _ _ ?_
      refine C.seqK fun K10 hK10 => ?_
      refine C.region ?_
      refine O.mv ?_
      refine O.mv ?_
      refine O.mv ?_
      refine O.idx Tryz.underlying22 Tryz.sizeOf25 rfl s0_1 (hl.keep e_1) s8_1 (by omega) (fun a14 h14 => ?_)
      refine O.loadG (G := Dt.dotF) Tryz.isAgg25 Tryz.sizeOf25 rfl h14 ?_
      refine O.callP (_) (hp.keep e_1) s1_1 rfl (fun w2 e2 => ?_)
      have z2 := e2.size
      refine O.nil ?_
      refine hK10 _ _ ?_
      refine C.cond rfl (fun c16 => ?_) (fun c16 => ?_)
      ·
        simp only [Int.toNat_natCast] at c16
        refine C.seqK fun K11 hK11 => ?_
        refine C.region ?_
        refine O.mv ?_
        refine O.asg ?_
        refine O.nil ?_
        refine hK11 _ _ ?_
        refine C.ret ?_
        refine Outs.one rfl s8_1 ?_
        first
        | exact ⟨congrArg (Value.int .i64) (Cn.idx_yes hk2 c16 hI).symm, (Ext.trans e_1 e2)⟩
        | exact ⟨congrArg (Value.int .i64) (Cn.idx_no fun i hi => hI i hi (by omega)).symm, (Ext.trans e_1 e2)⟩
      ·
        simp only [Int.toNat_natCast] at c16
        refine C.skip ?_
        refine hK8 _ _ ?_
        refine hK7 _ _ ?_
        refine C.region ?_
        refine O.addI s8_1 rfl (by unfold InI; omega) ?_
        refine O.mv ?_
        refine O.nil ?_
        refine ⟨k + 1, ⟨rfl, s0_1, s1_1, s7_1, (Ext.trans e_1 e2), ?_⟩, by first | omega | (simp only []; omega)⟩
        refine ⟨by omega, fun i hi hik => ?_⟩
        rcases Nat.lt_or_eq_of_le (Nat.le_of_lt_succ hik) with h | rfl
        · exact hI i hi h
        · exact c16
    ·
      refine C.exit ?_
      refine hK4 _ _ ?_
      refine hK2 _ _ ?_
      refine C.seqK fun K12 hK12 => ?_
      refine C.region ?_
      refine O.asg ?_
      refine O.nil ?_
      refine hK12 _ _ ?_
      refine C.ret ?_
      refine Outs.one rfl rfl ?_
      first
      | exact ⟨congrArg (Value.int .i64) (Cn.idx_yes hk2 c16 hI).symm, e_1⟩
      | exact ⟨congrArg (Value.int .i64) (Cn.idx_no fun i hi => hI i hi (by omega)).symm, e_1⟩

theorem containsV_spec (v0 vf : Value) (l : List Dt.Dot) (F M : Nat → Prop) (p : Dt.Dot → Bool) (w : World) (hl : Sl Dt.dotF.enc w F v0 l) (hp : Pred Tryz.prog M w vf Dt.dv p) :
    Ret Tryz.prog 34 #[v0, vf] w (fun v w' => v = .bool (l.any p) ∧ Le w w') := by
  refine enter (args := [v0, vf]) (n := 9) Tryz.func34 rfl rfl (Nat.le_of_ble_eq_true rfl) ?_
  refine C.seqK fun K1 hK1 => ?_
  refine C.region ?_
  refine O.asg ?_
  refine O.nil ?_
  refine hK1 _ _ ?_
  refine C.seqK fun K2 hK2 => ?_
  refine C.region ?_
  refine O.mv ?_
  refine O.mv ?_
  refine O.call Tryz.call36 (args2 rfl rfl) (indexV_spec _ _ _ _ _ _ _ hl hp) ?_
  rintro v_7 w1 ⟨rfl, e1⟩
  have z1 := e1.size
  refine O.geqI rfl rfl ?_
  refine O.asg ?_
  refine O.nil ?_
  refine hK2 _ _ ?_
  refine C.ret ?_
  refine Outs.one rfl rfl ?_
  exact ⟨congrArg Value.bool (Cn.idx_any l), e1⟩

theorem containsD_spec (v0 vf : Value) (l : List Dt.Dot) (F M : Nat → Prop) (p : Dt.Dot → Bool) (w : World) (hl : Sl Dt.dotF.enc w F v0 l) (hp : Pred Tryz.prog M w vf Dt.dv p) :
    Ret Tryz.prog 50 #[v0, vf] w (fun v w' => v = .bool (l.any p) ∧ Le w w') := by
  refine enter (args := [v0, vf]) (n := 9) Tryz.func50 rfl rfl (Nat.le_of_ble_eq_true rfl) ?_
  refine C.seqK fun K1 hK1 => ?_
  refine C.region ?_
  refine O.asg ?_
  refine O.nil ?_
  refine hK1 _ _ ?_
  refine C.seqK fun K2 hK2 => ?_
  refine C.region ?_
  refine O.mv ?_
  refine O.mv ?_
  refine O.call Tryz.call62 (args2 rfl rfl) (indexD_spec _ _ _ _ _ _ _ hl hp) ?_
  rintro v_7 w1 ⟨rfl, e1⟩
  have z1 := e1.size
  refine O.geqI rfl rfl ?_
  refine O.asg ?_
  refine O.nil ?_
  refine hK2 _ _ ?_
  refine C.ret ?_
  refine Outs.one rfl rfl ?_
  exact ⟨congrArg Value.bool (Cn.idx_any l), e1⟩

theorem vecValid_spec (v0 : Value) (l : List Dt.Dot) (F : Nat → Prop) (w : World) (hl : Sl Dt.dotF.enc w F v0 l) :
    Ret Tryz.prog 9 #[v0] w (fun v w' => v = .bool (Cn.vecValid l) ∧ Le w w') := by
  have hle := hl.le
  refine enter (args := [v0]) (n := 25) Tryz.func9 rfl rfl (Nat.le_of_ble_eq_true rfl) ?_
  refine C.seqK fun K1 hK1 => ?_
  refine C.region ?_
  refine O.asg ?_
  refine O.nil ?_
  refine hK1 _ _ ?_
  refine C.seqK fun K2 hK2 => ?_
  refine C.seqK fun K3 hK3 => ?_
  refine C.region ?_
  refine O.asg ?_
  refine O.nil ?_
  refine hK3 _ _ ?_
  refine C.block fun K4 hK4 => ?_
  refine C.loop0 (σ := Nat) (fun f0 w0 k f wz => f 3 = .int .i64 ((k : Int) + 1) ∧ f 0 = f0 0 ∧ Le w wz ∧ ∀ i, ∀ h : i + 1 < l.length, i < k → decide (l[i].1 < l[i + 1].1) = true) (fun k => l.length - k) 0 ?_ ?_
  ·
    refine ⟨(Eq.trans rfl (i64_eq (by omega))), rfl, (Le.refl _), ?_⟩
    exact fun i h k => absurd k (Nat.not_lt_zero _)
  ·
    rintro k f_1 w1 ⟨s3_1, s0_1, e_1, hI⟩
    have z_1 := e_1.size
    refine C.seqK fun K5 hK5 => ?_
    refine C.seqK fun K6 hK6 => ?_
    refine C.region ?_
    refine O.mv ?_
    refine O.mv ?_
    refine O.len Tryz.underlying23 s0_1 (hl.keep e_1) ?_
    refine O.lssI s3_1 rfl ?_
    refine O.nil ?_
    refine hK6 _ _ ?_
    refine C.condD rfl (fun c7 => ?_) (fun c7 => ?_)
    ·
      have hk2 : k + 1 < l.length := by omega
      have x0 : ((k : Int) + 1 - 1).toNat = k := by omega
      have x1 : ((k : Int) + 1).toNat = k + 1 := by omega
      refine C.skip ?_
      refine hK5 _ _ ?_
      refine C.seqK fun K7 hK7 => ?_
      refine C.block fun K8 hK8 => ?_
      refine C.seqK fun K9 hK9 => ?_
      refine C.draw (by kernel_rfl) fun w2 e2 => ?_
      have z2 := e2.size
      refine D.take (i := 0) rfl rfl rfl rfl (by kernel_rfl) (Le.refl _) ⟨pure _, rfl⟩ (fun w_ hw_ N_ hN => (O.mv (O.nil hN))) ?_
      refine D.take (i := 1) rfl rfl rfl rfl (by kernel_rfl) (Le.refl _) ⟨pure _, rfl⟩ (fun w_ hw_ N_ hN => (O.mv (O.nil hN))) ?_
      refine D.take (i := 2) rfl rfl rfl rfl (by kernel_rfl) (Le.refl _) ⟨_, rfl⟩ (fun w_ hw_ N_ hN => (O.subI s3_1 rfl (by unfold InI; omega) (O.nil hN))) ?_
      obtain ⟨a13, h13, hr13⟩ := Sl.at (i := (k : Int) + 1 - 1) (P := Tryz.prog) Tryz.underlying23 Tryz.sizeOf25 rfl ((hl.keep e_1).keep e2) (by omega)
      refine D.take (i := 3) rfl rfl rfl rfl (by kernel_rfl) (Le.refl _) ⟨_, rfl⟩ (fun w_ hw_ N_ hN => (O.idxR s0_1 rfl hr13 (O.nil hN))) ?_
      refine D.take (i := 4) rfl rfl rfl rfl (by kernel_rfl) (Le.refl _) ⟨_, rfl⟩ (fun w_ hw_ N_ hN => (O.fieldAt Tryz.underlying25 rfl Tryz.sizeOf3 (by decide) rfl (O.nil hN))) ?_
      refine D.take (i := 5) rfl rfl rfl rfl (by kernel_rfl) (Le.refl _) ⟨_, rfl⟩ (fun w_ hw_ N_ hN => (O.loadAtF (G := Dt.dotF) Tryz.isAgg3 rfl rfl (h13.keep hw_) (O.nil hN))) ?_
      refine D.take (i := 6) rfl rfl rfl rfl (by kernel_rfl) (Le.refl _) ⟨pure _, rfl⟩ (fun w_ hw_ N_ hN => (O.mv (O.nil hN))) ?_
      refine D.take (i := 7) rfl rfl rfl rfl (by kernel_rfl) (Le.refl _) ⟨pure _, rfl⟩ (fun w_ hw_ N_ hN => (O.mv (O.nil hN))) ?_
      obtain ⟨a18, h18, hr18⟩ := Sl.at (i := (k : Int) + 1) (P := Tryz.prog) Tryz.underlying23 Tryz.sizeOf25 rfl ((hl.keep e_1).keep e2) (by omega)
      refine D.take (i := 8) rfl rfl rfl rfl (by kernel_rfl) (Le.refl _) ⟨_, rfl⟩ (fun w_ hw_ N_ hN => (O.idxR s0_1 s3_1 hr18 (O.nil hN))) ?_
      refine D.take (i := 9) rfl rfl rfl rfl (by kernel_rfl) (Le.refl _) ⟨_, rfl⟩ (fun w_ hw_ N_ hN => (O.fieldAt Tryz.underlying25 rfl Tryz.sizeOf3 (by decide) rfl (O.nil hN))) ?_
      refine D.take (i := 10) rfl rfl rfl rfl (by kernel_rfl) (Le.refl _) ⟨_, rfl⟩ (fun w_ hw_ N_ hN => (O.loadAtF (G := Dt.dotF) Tryz.isAgg3 rfl rfl (h18.keep hw_) (O.nil hN))) ?_
      refine D.take (i := 11) rfl rfl rfl rfl (by kernel_rfl) (Le.refl _) ⟨_, rfl⟩ (fun w_ hw_ N_ hN => (O.geqI rfl rfl (O.nil hN))) ?_
      refine D.done (by kernel_rfl) ?_
      refine hK9 _ _ ?_
      refine C.condD rfl (fun c21 => ?_) (fun c21 => ?_)
      ·
        simp only [x0, x1] at c21
        refine C.seqK fun K10 hK10 => ?_
        refine C.region ?_
        refine O.asg ?_
        refine O.nil ?_
        refine hK10 _ _ ?_
        refine C.ret ?_
        refine Outs.one rfl rfl ?_
        first
        | (refine ⟨congrArg Value.bool ?_, (Ext.trans e_1 e2)⟩
           have q : Cn.incr l = false := Cn.adj_no hk2 (Nat.lt_of_succ_lt hk2) rfl (decide_eq_false (by omega))
           unfold Cn.vecValid
           rw [q]
           rfl)
        | (refine ⟨congrArg Value.bool ?_, (Ext.trans e_1 e2)⟩
           have q : Cn.incr l = true := Cn.adj_yes (fun i hi => hI i hi (by omega))
           unfold Cn.vecValid
           rw [q]
           rfl)
      ·
        simp only [x0, x1] at c21
        refine C.skip ?_
        refine hK8 _ _ ?_
        refine hK7 _ _ ?_
        refine C.region ?_
        refine O.mv ?_
        refine O.addI s3_1 rfl (by unfold InI; omega) ?_
        refine O.asg ?_
        refine O.nil ?_
        refine ⟨k + 1, ⟨(Eq.trans rfl (i64_eq (by omega))), s0_1, (Ext.trans e_1 e2), ?_⟩, by first | omega | (simp only []; omega)⟩
        intro i hi hik
        rcases Nat.lt_or_eq_of_le (Nat.le_of_lt_succ hik) with h | rfl
        · exact hI i hi h
        · exact decide_eq_true (by omega)
    ·
      refine C.exit ?_
      refine hK4 _ _ ?_
      refine hK2 _ _ ?_
      refine C.seqK fun K11 hK11 => ?_
      refine C.region ?_
      refine O.mv ?_
      refine O.call Tryz.call34 (args2 s0_1 rfl) (containsV_spec _ _ _ _ _ _ _ (hl.keep e_1) (pred_vbad (fun _ => False) _)) ?_
      rintro v_23 w3 ⟨rfl, e3⟩
      have z3 := e3.size
      refine O.not rfl ?_
      refine O.asg ?_
      refine O.nil ?_
      refine hK11 _ _ ?_
      refine C.ret ?_
      refine Outs.one rfl rfl ?_
      first
      | (refine ⟨congrArg Value.bool ?_, (Ext.trans e_1 e3)⟩
         have q : Cn.incr l = false := Cn.adj_no hk2 (Nat.lt_of_succ_lt hk2) rfl (decide_eq_false (by omega))
         unfold Cn.vecValid
         rw [q]
         rfl)
      | (refine ⟨congrArg Value.bool ?_, (Ext.trans e_1 e3)⟩
         have q : Cn.incr l = true := Cn.adj_yes (fun i hi => hI i hi (by omega))
         unfold Cn.vecValid
         rw [q]
         rfl)

theorem get1_spec (d : Dt.Dot) (bc : Nat) (r : Int) (w : World) (ho : Own w bc 3 [.int .i64 r]) :
    Ret Tryz.prog 37 #[Dt.dv (d), .pointer (some ⟨bc, 0, none⟩)] w (fun v w' => v = .bool (decide (d.1 = r)) ∧ Le w w') := by
  refine enter (args := [Dt.dv (d), .pointer (some ⟨bc, 0, none⟩)]) (n := 8) Tryz.func37 rfl rfl (Nat.le_of_ble_eq_true rfl) ?_
  refine C.seqK fun K1 hK1 => ?_
  refine C.region ?_
  refine O.box (v := Dt.dv (d)) rfl (fun b2 w1 hb2 hz2 e1 => ?_)
  have z1 := e1.size
  have h2 := hz2.own
  have hl2 := h2.lt
  refine O.asg ?_
  refine O.nil ?_
  refine hK1 _ _ ?_
  refine C.seqK fun K2 hK2 => ?_
  refine C.region ?_
  refine O.fieldAd Tryz.underlying25 rfl Tryz.sizeOf3 (by decide) rfl ?_
  refine O.loadO Tryz.isAgg3 rfl h2 rfl ?_
  refine O.loadO Tryz.isAgg3 rfl (ho.keep e1) rfl ?_
  refine O.eqlI rfl rfl ?_
  refine O.asg ?_
  refine O.nil ?_
  refine hK2 _ _ ?_
  refine C.ret ?_
  refine Outs.one rfl rfl ?_
  exact ⟨rfl, e1⟩

theorem pred_get (bc : Nat) (r : Int) (M : Nat → Prop) (w : World) (ho : Own w bc 3 [.int .i64 r]) (hM : ¬ M bc) : Pred Tryz.prog M w (.func (.func 37) #[] #[.pointer (some ⟨bc, 0, none⟩)]) Dt.dv (fun d => decide (d.1 = r)) := ⟨37, [.pointer (some ⟨bc, 0, none⟩)], rfl, Tryz.call37, fun d w' e => get1_spec d bc r w' (ho.keepM e hM)⟩
theorem get_spec (v0 : Value) (l : List Dt.Dot) (F : Nat → Prop) (r : Int) (w : World) (hl : Sl Dt.dotF.enc w F v0 l) :
    Ret Tryz.prog 11 #[v0, .int .i64 (r)] w (fun v w' => v = .int .i64 (Cn.get l r) ∧ Le w w') := by
  have hle := hl.le
  have hge := Cn.idx_ge (p := fun d : Dt.Dot => decide (d.1 = r)) l
  refine enter (args := [v0, .int .i64 (r)]) (n := 16) Tryz.func11 rfl rfl (Nat.le_of_ble_eq_true rfl) ?_
  refine C.seqK fun K1 hK1 => ?_
  refine C.region ?_
  refine O.box (v := .int .i64 (r)) rfl (fun b3 w1 hb3 hz3 e1 => ?_)
  have z1 := e1.size
  have h3 := hz3.own
  have hl3 := h3.lt
  refine O.asg ?_
  refine O.nil ?_
  refine hK1 _ _ ?_
  refine C.seqK fun K2 hK2 => ?_
  refine C.region ?_
  refine O.mv ?_
  refine O.makeF (v1 := []) rfl rfl ?_
  refine O.call Tryz.call36 (args2 rfl rfl) (indexV_spec _ _ _ _ (fun _ => False) _ _ (hl.keep e1) (pred_get b3 r _ _ h3 not_false)) ?_
  rintro v_8 w2 ⟨rfl, e2⟩
  have z2 := e2.size
  refine O.asg ?_
  refine O.nil ?_
  refine hK2 _ _ ?_
  refine C.seqK fun K3 hK3 => ?_
  refine C.seqK fun K4 hK4 => ?_
  refine C.region ?_
  refine O.mv ?_
  refine O.lssI rfl rfl ?_
  refine O.nil ?_
  refine hK4 _ _ ?_
  refine C.condD rfl (fun c10 => ?_) (fun c10 => ?_)
  ·
    refine C.seqK fun K5 hK5 => ?_
    refine C.region ?_
    refine O.asg ?_
    refine O.nil ?_
    refine hK5 _ _ ?_
    refine C.ret ?_
    refine Outs.one rfl rfl ?_
    first
    | exact ⟨congrArg (Value.int .i64) (Cn.get_no c10).symm, (Ext.trans e1 e2)⟩
    | (obtain ⟨hk, q⟩ := Cn.get_yes2 c10
       exact ⟨congrArg (Value.int .i64) q.symm, (Ext.trans e1 e2)⟩)
  ·
    refine C.skip ?_
    refine hK3 _ _ ?_
    refine C.seqK fun K6 hK6 => ?_
    refine C.region ?_
    refine O.mv ?_
    refine O.mv ?_
    refine O.idx Tryz.underlying23 Tryz.sizeOf25 rfl rfl ((hl.keep e1).keep e2) rfl ⟨by omega, by have := Cn.idx_lt (p := fun d : Dt.Dot => decide (d.1 = r)) (l := l) (by omega); omega⟩ (fun a13 h13 => ?_)
    refine O.fieldAt Tryz.underlying25 rfl Tryz.sizeOf3 (by decide) rfl ?_
    refine O.loadAtF (G := Dt.dotF) Tryz.isAgg3 rfl rfl h13 ?_
    refine O.asg ?_
    refine O.nil ?_
    refine hK6 _ _ ?_
    refine C.ret ?_
    refine Outs.one rfl rfl ?_
    first
    | exact ⟨congrArg (Value.int .i64) (Cn.get_no c10).symm, (Ext.trans e1 e2)⟩
    | (obtain ⟨hk, q⟩ := Cn.get_yes2 c10
       exact ⟨congrArg (Value.int .i64) q.symm, (Ext.trans e1 e2)⟩)

theorem vecHas_spec (v0 : Value) (l : List Dt.Dot) (F : Nat → Prop) (d : Dt.Dot) (w : World) (hl : Sl Dt.dotF.enc w F v0 l) :
    Ret Tryz.prog 13 #[v0, Dt.dv (d)] w (fun v w' => v = .bool (Cn.vecHas l d) ∧ Le w w') := by
  refine enter (args := [v0, Dt.dv (d)]) (n := 16) Tryz.func13 rfl rfl (Nat.le_of_ble_eq_true rfl) ?_
  refine C.seqK fun K1 hK1 => ?_
  refine C.region ?_
  refine O.box (v := Dt.dv (d)) rfl (fun b3 w1 hb3 hz3 e1 => ?_)
  have z1 := e1.size
  have h3 := hz3.own
  have hl3 := h3.lt
  refine O.asg ?_
  refine O.nil ?_
  refine hK1 _ _ ?_
  refine C.seqK fun K2 hK2 => ?_
  refine C.draw (by kernel_rfl) fun w2 e2 => ?_
  have z2 := e2.size
  refine D.take (i := 0) rfl rfl rfl rfl (by kernel_rfl) (Le.refl _) ⟨_, rfl⟩ (fun w_ hw_ N_ hN => (O.loadOA Tryz.isAgg25 Tryz.sizeOf25 rfl ((h3.keep e2).keep hw_) (Nat.le_of_ble_eq_true rfl) (O.nil hN))) ?_
  refine D.one (i := 1) rfl rfl (by kernel_rfl) ?_
  refine O.call Tryz.call38 (args1 rfl) (valid_spec d _) ?_
  rintro v_6 w3 ⟨rfl, e3⟩
  have z3 := e3.size
  refine O.nil ⟨e3, ?_⟩
  refine D.take (i := 2) rfl rfl rfl rfl (by kernel_rfl) e3 ⟨pure _, rfl⟩ (fun w_ hw_ N_ hN => (O.mv (O.nil hN))) ?_
  refine D.splitD (x := .tmp 7) rfl (fun c7 => ?_) (fun c7 => ?_)
  ·
    refine D.takeYes (i := 3) rfl rfl rfl (by kernel_rfl) rfl (isT rfl c7) e3 ⟨_, rfl⟩ (fun w_ hw_ N_ hN => (O.fieldAd Tryz.underlying25 rfl Tryz.sizeOf3 (by decide) rfl (O.nil hN))) ?_
    refine D.takeYes (i := 4) rfl rfl rfl (by kernel_rfl) rfl (isT rfl c7) e3 ⟨_, rfl⟩ (fun w_ hw_ N_ hN => (O.loadO Tryz.isAgg3 rfl ((h3.keep e2).keep hw_) rfl (O.nil hN))) ?_
    refine D.takeYes (i := 5) rfl rfl rfl (by kernel_rfl) rfl (isT rfl c7) e3 ⟨pure _, rfl⟩ (fun w_ hw_ N_ hN => (O.mv (O.nil hN))) ?_
    refine D.takeYes (i := 6) rfl rfl rfl (by kernel_rfl) rfl (isT rfl c7) e3 ⟨_, rfl⟩ (fun w_ hw_ N_ hN => (O.fieldAd Tryz.underlying25 rfl Tryz.sizeOf3 (by decide) rfl (O.nil hN))) ?_
    refine D.takeYes (i := 7) rfl rfl rfl (by kernel_rfl) rfl (isT rfl c7) e3 ⟨_, rfl⟩ (fun w_ hw_ N_ hN => (O.loadO Tryz.isAgg3 rfl ((h3.keep e2).keep hw_) rfl (O.nil hN))) ?_
    refine D.oneYes (i := 8) rfl rfl (isT rfl c7) (by kernel_rfl) ?_
    refine O.call Tryz.call11 (args2 rfl rfl) (get_spec _ l _ d.1 _ (((hl.keep e1).keep e2).keep e3)) ?_
    rintro v_13 w4 ⟨rfl, e4⟩
    have z4 := e4.size
    refine O.nil ⟨(Ext.trans e3 e4), ?_⟩
    refine D.takeYes (i := 9) rfl rfl rfl (by kernel_rfl) rfl (isT rfl c7) (Ext.trans e3 e4) ⟨_, rfl⟩ (fun w_ hw_ N_ hN => (O.leqI rfl rfl (O.nil hN))) ?_
    refine D.take (i := 10) rfl rfl rfl rfl (by kernel_rfl) (Ext.trans e3 e4) pick_form (fun w_ hw_ N_ hN => (O.pickT (isT rfl c7) (O.nil hN))) ?_
    refine D.take (i := 11) rfl rfl rfl rfl (by kernel_rfl) (Ext.trans e3 e4) ⟨pure _, rfl⟩ (fun w_ hw_ N_ hN => (O.asg (O.nil hN))) ?_
    refine D.done (by kernel_rfl) ?_
    refine hK2 _ _ ?_
    refine C.ret ?_
    refine Outs.one rfl rfl ?_
    refine ⟨congrArg Value.bool ?_, (Ext.trans (Ext.trans (Ext.trans e1 e2) e3) e4)⟩
    unfold Cn.vecHas Cn.okD
    first
    | (rw [decide_eq_true c7]; rfl)
    | (rw [decide_eq_false c7]; rfl)
  ·
    refine D.takeNo (i := 3) rfl rfl (by kernel_rfl) e3 rfl (noB (isF rfl c7) rfl) ?_
    refine D.takeNo (i := 4) rfl rfl (by kernel_rfl) e3 rfl (noB (isF rfl c7) rfl) ?_
    refine D.takeNo (i := 5) rfl rfl (by kernel_rfl) e3 rfl (noB (isF rfl c7) rfl) ?_
    refine D.takeNo (i := 6) rfl rfl (by kernel_rfl) e3 rfl (noB (isF rfl c7) rfl) ?_
    refine D.takeNo (i := 7) rfl rfl (by kernel_rfl) e3 rfl (noB (isF rfl c7) rfl) ?_
    refine D.takeNo (i := 8) rfl rfl (by kernel_rfl) e3 rfl (noB (isF rfl c7) rfl) ?_
    refine D.takeNo (i := 9) rfl rfl (by kernel_rfl) e3 rfl (noB (isF rfl c7) rfl) ?_
    refine D.take (i := 10) rfl rfl rfl rfl (by kernel_rfl) e3 pick_form (fun w_ hw_ N_ hN => (O.pickF (isF rfl c7) (O.nil hN))) ?_
    refine D.take (i := 11) rfl rfl rfl rfl (by kernel_rfl) e3 ⟨pure _, rfl⟩ (fun w_ hw_ N_ hN => (O.asg (O.nil hN))) ?_
    refine D.done (by kernel_rfl) ?_
    refine hK2 _ _ ?_
    refine C.ret ?_
    refine Outs.one rfl rfl ?_
    refine ⟨congrArg Value.bool ?_, (Ext.trans (Ext.trans e1 e2) e3)⟩
    unfold Cn.vecHas Cn.okD
    first
    | (rw [decide_eq_true c7]; rfl)
    | (rw [decide_eq_false c7]; rfl)

end Go.Proofs.YtbmbaajfkmejgaaGreatDoor
end
section
/-
  The walks of the reference of vectors. Conditions: slices as they lie in memory.
-/
namespace Go.Proofs.YtbmbaajfkmejgaaGreatDoor
open Go.Pn Go.RowKit Go.Proofs
attribute [local irreducible] O C D

set_option maxHeartbeats 1000000 in
theorem rvecValid_spec (v0 : Value) (l : List Dt.Dot) (F : Nat → Prop) (w : World) (hl : Sl Dt.dotF.enc w F v0 l) :
    Ret Tryz.prog 10 #[v0] w (fun v w' => v = .bool (Cn.vecValid l) ∧ Le w w') := by
  have hle := hl.le
  refine enter (args := [v0]) (n := 34) Tryz.func10 rfl rfl (Nat.le_of_ble_eq_true rfl) ?_
  refine C.seqK fun K1 hK1 => ?_
  refine C.region ?_
  refine O.asg ?_
  refine O.nil ?_
  refine hK1 _ _ ?_
  refine C.seqK fun K2 hK2 => ?_
  refine C.seqK fun K3 hK3 => ?_
  refine C.region ?_
  refine O.asg ?_
  refine O.nil ?_
  refine hK3 _ _ ?_
  refine C.block fun K4 hK4 => ?_
  refine C.loop0 (σ := Nat) (fun f0 w0 k f wz => f 3 = .int .i64 (k) ∧ f 0 = f0 0 ∧ Le w wz ∧ k ≤ l.length ∧ (∀ i, ∀ h : i < l.length, i < k → Dt.Valid l[i]) ∧ ∀ i, ∀ h : i + 1 < l.length, i + 1 < k → l[i].1 < l[i + 1].1) (fun k => l.length - k) 0 ?_ ?_
  ·
    refine ⟨rfl, rfl, (Le.refl _), ?_⟩
    exact ⟨Nat.zero_le _, fun i h k => absurd k (Nat.not_lt_zero _), fun i h k => absurd k (Nat.not_lt_zero _)⟩
  ·
    rintro k f_1 w1 ⟨s3_1, s0_1, e_1, ⟨hk, hI, hJ⟩⟩
    have z_1 := e_1.size
    refine C.seqK fun K5 hK5 => ?_
    refine C.seqK fun K6 hK6 => ?_
    refine C.region ?_
    refine O.mv ?_
    refine O.mv ?_
    refine O.len Tryz.underlying23 s0_1 (hl.keep e_1) ?_
    refine O.lssI s3_1 rfl ?_
    refine O.nil ?_
    refine hK6 _ _ ?_
    refine C.condD rfl (fun c7 => ?_) (fun c7 => ?_)
    ·
      have hk2 : k < l.length := by omega
      refine C.skip ?_
      refine hK5 _ _ ?_
      refine C.seqK fun K7 hK7 => ?_
      refine C.block fun K8 hK8 => ?_
      refine C.seqK fun K9 hK9 => ?_
      refine C.draw (by kernel_rfl) fun w2 e2 => ?_
      have z2 := e2.size
      refine D.take (i := 0) rfl rfl rfl rfl (by kernel_rfl) (Le.refl _) ⟨pure _, rfl⟩ (fun w_ hw_ N_ hN => (O.mv (O.nil hN))) ?_
      refine D.take (i := 1) rfl rfl rfl rfl (by kernel_rfl) (Le.refl _) ⟨pure _, rfl⟩ (fun w_ hw_ N_ hN => (O.mv (O.nil hN))) ?_
      obtain ⟨a12, h12, hr12⟩ := Sl.at (i := (k : Int)) (P := Tryz.prog) Tryz.underlying23 Tryz.sizeOf25 rfl ((hl.keep e_1).keep e2) (by omega)
      refine D.take (i := 2) rfl rfl rfl rfl (by kernel_rfl) (Le.refl _) ⟨_, rfl⟩ (fun w_ hw_ N_ hN => (O.idxR s0_1 s3_1 hr12 (O.nil hN))) ?_
      refine D.take (i := 3) rfl rfl rfl rfl (by kernel_rfl) (Le.refl _) ⟨_, rfl⟩ (fun w_ hw_ N_ hN => (O.loadG (G := Dt.dotF) Tryz.isAgg25 Tryz.sizeOf25 rfl (h12.keep hw_) (O.nil hN))) ?_
      refine D.one (i := 4) rfl rfl (by kernel_rfl) ?_
      refine O.call Tryz.call18 (args1 rfl) (rvalid_spec _ _) ?_
      rintro v_14 w3 ⟨rfl, e3⟩
      have z3 := e3.size
      refine O.nil ⟨e3, ?_⟩
      refine D.take (i := 5) rfl rfl rfl rfl (by kernel_rfl) e3 ⟨_, rfl⟩ (fun w_ hw_ N_ hN => (O.not rfl (O.nil hN))) ?_
      refine D.take (i := 6) rfl rfl rfl rfl (by kernel_rfl) e3 ⟨pure _, rfl⟩ (fun w_ hw_ N_ hN => (O.mv (O.nil hN))) ?_
      refine D.split (x := .tmp 16) rfl (fun c16 => ?_) (fun c16 => ?_)
      ·
        have hvn : ¬ Dt.Valid l[k] := by simpa using c16
        refine D.takeNo (i := 7) rfl rfl (by kernel_rfl) e3 rfl (noB (isT' rfl c16) rfl) ?_
        refine D.takeNo (i := 8) rfl rfl (by kernel_rfl) e3 rfl (noB (isT' rfl c16) rfl) ?_
        refine D.takeNo (i := 9) rfl rfl (by kernel_rfl) e3 rfl (noB (isT' rfl c16) rfl) ?_
        refine D.takeNo (i := 10) rfl rfl (by kernel_rfl) e3 rfl (noU rfl) ?_
        refine D.takeNo (i := 11) rfl rfl (by kernel_rfl) e3 rfl (noU rfl) ?_
        refine D.takeNo (i := 12) rfl rfl (by kernel_rfl) e3 rfl (noU rfl) ?_
        refine D.takeNo (i := 13) rfl rfl (by kernel_rfl) e3 rfl (noU rfl) ?_
        refine D.takeNo (i := 14) rfl rfl (by kernel_rfl) e3 rfl (noU rfl) ?_
        refine D.takeNo (i := 15) rfl rfl (by kernel_rfl) e3 rfl (noU rfl) ?_
        refine D.takeNo (i := 16) rfl rfl (by kernel_rfl) e3 rfl (noU rfl) ?_
        refine D.takeNo (i := 17) rfl rfl (by kernel_rfl) e3 rfl (noU rfl) ?_
        refine D.takeNo (i := 18) rfl rfl (by kernel_rfl) e3 rfl (noU rfl) ?_
        refine D.takeNo (i := 19) rfl rfl (by kernel_rfl) e3 rfl (noU rfl) ?_
        refine D.takeNo (i := 20) rfl rfl (by kernel_rfl) e3 rfl (noU rfl) ?_
        refine D.takeNo (i := 21) rfl rfl (by kernel_rfl) e3 rfl (noU rfl) ?_
        refine D.takeNo (i := 22) rfl rfl (by kernel_rfl) e3 rfl (noB (isT' rfl c16) rfl) ?_
        refine D.take (i := 23) rfl rfl rfl rfl (by kernel_rfl) e3 pick_form (fun w_ hw_ N_ hN => (O.pickT (isT' rfl c16) (O.nil hN))) ?_
        refine D.done (by kernel_rfl) ?_
        refine hK9 _ _ ?_
        refine C.condT rfl ?_
        refine C.seqK fun K10 hK10 => ?_
        refine C.region ?_
        refine O.asg ?_
        refine O.nil ?_
        refine hK10 _ _ ?_
        refine C.ret ?_
        refine Outs.one rfl rfl ?_
        first
        | exact ⟨congrArg Value.bool (Vc.valid_no hk2 hvn).symm, (Ext.trans (Ext.trans e_1 e2) e3)⟩
        | (refine ⟨congrArg Value.bool ?_, (Ext.trans (Ext.trans e_1 e2) e3)⟩
           have x0 : ((k : Int) - 1).toNat = k - 1 := by omega
           simp only [x0, Int.toNat_natCast] at c33
           exact (Vc.valid_no2 (j := k - 1) hk2 (by omega) (by omega) (by omega)).symm)
        | exact ⟨congrArg Value.bool (Vc.valid_yes (fun i hi => hI i hi (by omega)) (fun i hi => hJ i hi (by omega))).symm, (Ext.trans (Ext.trans e_1 e2) e3)⟩
      ·
        have hvd : Dt.Valid l[k] := by simpa using c16
        refine D.takeYes (i := 7) rfl rfl rfl (by kernel_rfl) rfl (isF' rfl c16) e3 ⟨pure _, rfl⟩ (fun w_ hw_ N_ hN => (O.mv (O.nil hN))) ?_
        refine D.takeYes (i := 8) rfl rfl rfl (by kernel_rfl) rfl (isF' rfl c16) e3 ⟨_, rfl⟩ (fun w_ hw_ N_ hN => (O.gtrI s3_1 rfl (O.nil hN))) ?_
        refine D.takeYes (i := 9) rfl rfl rfl (by kernel_rfl) rfl (isF' rfl c16) e3 ⟨pure _, rfl⟩ (fun w_ hw_ N_ hN => (O.mv (O.nil hN))) ?_
        refine D.splitD (x := .tmp 19) rfl (fun c19 => ?_) (fun c19 => ?_)
        ·
          have hk3 : 0 < k := by omega
          refine D.takeYes (i := 10) rfl rfl rfl (by kernel_rfl) rfl (isT rfl c19) e3 ⟨pure _, rfl⟩ (fun w_ hw_ N_ hN => (O.mv (O.nil hN))) ?_
          refine D.takeYes (i := 11) rfl rfl rfl (by kernel_rfl) rfl (isT rfl c19) e3 ⟨pure _, rfl⟩ (fun w_ hw_ N_ hN => (O.mv (O.nil hN))) ?_
          refine D.takeYes (i := 12) rfl rfl rfl (by kernel_rfl) rfl (isT rfl c19) e3 ⟨_, rfl⟩ (fun w_ hw_ N_ hN => (O.subI s3_1 rfl (by unfold InI; omega) (O.nil hN))) ?_
          obtain ⟨a23, h23, hr23⟩ := Sl.at (i := (k : Int) - 1) (P := Tryz.prog) Tryz.underlying23 Tryz.sizeOf25 rfl ((hl.keep e_1).keep e2) (by omega)
          refine D.takeYes (i := 13) rfl rfl rfl (by kernel_rfl) rfl (isT rfl c19) e3 ⟨_, rfl⟩ (fun w_ hw_ N_ hN => (O.idxR s0_1 rfl hr23 (O.nil hN))) ?_
          refine D.takeYes (i := 14) rfl rfl rfl (by kernel_rfl) rfl (isT rfl c19) e3 ⟨_, rfl⟩ (fun w_ hw_ N_ hN => (O.fieldAt Tryz.underlying25 rfl Tryz.sizeOf3 (by decide) rfl (O.nil hN))) ?_
          refine D.takeYes (i := 15) rfl rfl rfl (by kernel_rfl) rfl (isT rfl c19) e3 ⟨_, rfl⟩ (fun w_ hw_ N_ hN => (O.loadAtF (G := Dt.dotF) Tryz.isAgg3 rfl rfl (h23.keep hw_) (O.nil hN))) ?_
          refine D.takeYes (i := 16) rfl rfl rfl (by kernel_rfl) rfl (isT rfl c19) e3 ⟨pure _, rfl⟩ (fun w_ hw_ N_ hN => (O.mv (O.nil hN))) ?_
          refine D.takeYes (i := 17) rfl rfl rfl (by kernel_rfl) rfl (isT rfl c19) e3 ⟨pure _, rfl⟩ (fun w_ hw_ N_ hN => (O.mv (O.nil hN))) ?_
          obtain ⟨a28, h28, hr28⟩ := Sl.at (i := (k : Int)) (P := Tryz.prog) Tryz.underlying23 Tryz.sizeOf25 rfl ((hl.keep e_1).keep e2) (by omega)
          refine D.takeYes (i := 18) rfl rfl rfl (by kernel_rfl) rfl (isT rfl c19) e3 ⟨_, rfl⟩ (fun w_ hw_ N_ hN => (O.idxR s0_1 s3_1 hr28 (O.nil hN))) ?_
          refine D.takeYes (i := 19) rfl rfl rfl (by kernel_rfl) rfl (isT rfl c19) e3 ⟨_, rfl⟩ (fun w_ hw_ N_ hN => (O.fieldAt Tryz.underlying25 rfl Tryz.sizeOf3 (by decide) rfl (O.nil hN))) ?_
          refine D.takeYes (i := 20) rfl rfl rfl (by kernel_rfl) rfl (isT rfl c19) e3 ⟨_, rfl⟩ (fun w_ hw_ N_ hN => (O.loadAtF (G := Dt.dotF) Tryz.isAgg3 rfl rfl (h28.keep hw_) (O.nil hN))) ?_
          refine D.takeYes (i := 21) rfl rfl rfl (by kernel_rfl) rfl (isT rfl c19) e3 ⟨_, rfl⟩ (fun w_ hw_ N_ hN => (O.geqI rfl rfl (O.nil hN))) ?_
          refine D.takeYes (i := 22) rfl rfl rfl (by kernel_rfl) rfl (isF' rfl c16) e3 pick_form (fun w_ hw_ N_ hN => (O.pickT (isT rfl c19) (O.nil hN))) ?_
          refine D.take (i := 23) rfl rfl rfl rfl (by kernel_rfl) e3 pick_form (fun w_ hw_ N_ hN => (O.pickF (isF' rfl c16) (O.nil hN))) ?_
          refine D.done (by kernel_rfl) ?_
          refine hK9 _ _ ?_
          refine C.condD rfl (fun c33 => ?_) (fun c33 => ?_)
          ·
            refine C.seqK fun K11 hK11 => ?_
            refine C.region ?_
            refine O.asg ?_
            refine O.nil ?_
            refine hK11 _ _ ?_
            refine C.ret ?_
            refine Outs.one rfl rfl ?_
            first
            | exact ⟨congrArg Value.bool (Vc.valid_no hk2 hvn).symm, (Ext.trans (Ext.trans e_1 e2) e3)⟩
            | (refine ⟨congrArg Value.bool ?_, (Ext.trans (Ext.trans e_1 e2) e3)⟩
               have x0 : ((k : Int) - 1).toNat = k - 1 := by omega
               simp only [x0, Int.toNat_natCast] at c33
               exact (Vc.valid_no2 (j := k - 1) hk2 (by omega) (by omega) (by omega)).symm)
            | exact ⟨congrArg Value.bool (Vc.valid_yes (fun i hi => hI i hi (by omega)) (fun i hi => hJ i hi (by omega))).symm, (Ext.trans (Ext.trans e_1 e2) e3)⟩
          ·
            refine C.skip ?_
            refine hK8 _ _ ?_
            refine hK7 _ _ ?_
            refine C.region ?_
            refine O.mv ?_
            refine O.addI s3_1 rfl (by unfold InI; omega) ?_
            refine O.asg ?_
            refine O.nil ?_
            refine ⟨k + 1, ⟨rfl, s0_1, (Ext.trans (Ext.trans e_1 e2) e3), ?_⟩, by first | omega | (simp only []; omega)⟩
            refine ⟨by omega, fun i hi hik => ?_, fun i hi hik => ?_⟩
            · rcases Nat.lt_or_eq_of_le (Nat.le_of_lt_succ hik) with h | rfl
              · exact hI i hi h
              · first | exact hvd | simpa using c16
            · rcases Nat.lt_or_eq_of_le (Nat.le_of_lt_succ hik) with h | h
              · exact hJ i hi h
              · subst h
                first | (exfalso; omega) | (have x0 : (((i + 1 : Nat) : Int) - 1).toNat = i := (by omega); simp only [x0, Int.toNat_natCast] at c33; omega)
        ·
          refine D.takeNo (i := 10) rfl rfl (by kernel_rfl) e3 rfl (noB (isF rfl c19) rfl) ?_
          refine D.takeNo (i := 11) rfl rfl (by kernel_rfl) e3 rfl (noB (isF rfl c19) rfl) ?_
          refine D.takeNo (i := 12) rfl rfl (by kernel_rfl) e3 rfl (noB (isF rfl c19) rfl) ?_
          refine D.takeNo (i := 13) rfl rfl (by kernel_rfl) e3 rfl (noB (isF rfl c19) rfl) ?_
          refine D.takeNo (i := 14) rfl rfl (by kernel_rfl) e3 rfl (noB (isF rfl c19) rfl) ?_
          refine D.takeNo (i := 15) rfl rfl (by kernel_rfl) e3 rfl (noB (isF rfl c19) rfl) ?_
          refine D.takeNo (i := 16) rfl rfl (by kernel_rfl) e3 rfl (noB (isF rfl c19) rfl) ?_
          refine D.takeNo (i := 17) rfl rfl (by kernel_rfl) e3 rfl (noB (isF rfl c19) rfl) ?_
          refine D.takeNo (i := 18) rfl rfl (by kernel_rfl) e3 rfl (noB (isF rfl c19) rfl) ?_
          refine D.takeNo (i := 19) rfl rfl (by kernel_rfl) e3 rfl (noB (isF rfl c19) rfl) ?_
          refine D.takeNo (i := 20) rfl rfl (by kernel_rfl) e3 rfl (noB (isF rfl c19) rfl) ?_
          refine D.takeNo (i := 21) rfl rfl (by kernel_rfl) e3 rfl (noB (isF rfl c19) rfl) ?_
          refine D.takeYes (i := 22) rfl rfl rfl (by kernel_rfl) rfl (isF' rfl c16) e3 pick_form (fun w_ hw_ N_ hN => (O.pickF (isF rfl c19) (O.nil hN))) ?_
          refine D.take (i := 23) rfl rfl rfl rfl (by kernel_rfl) e3 pick_form (fun w_ hw_ N_ hN => (O.pickF (isF' rfl c16) (O.nil hN))) ?_
          refine D.done (by kernel_rfl) ?_
          refine hK9 _ _ ?_
          refine C.condF rfl ?_
          refine C.skip ?_
          refine hK8 _ _ ?_
          refine hK7 _ _ ?_
          refine C.region ?_
          refine O.mv ?_
          refine O.addI s3_1 rfl (by unfold InI; omega) ?_
          refine O.asg ?_
          refine O.nil ?_
          refine ⟨k + 1, ⟨rfl, s0_1, (Ext.trans (Ext.trans e_1 e2) e3), ?_⟩, by first | omega | (simp only []; omega)⟩
          refine ⟨by omega, fun i hi hik => ?_, fun i hi hik => ?_⟩
          · rcases Nat.lt_or_eq_of_le (Nat.le_of_lt_succ hik) with h | rfl
            · exact hI i hi h
            · first | exact hvd | simpa using c16
          · rcases Nat.lt_or_eq_of_le (Nat.le_of_lt_succ hik) with h | h
            · exact hJ i hi h
            · subst h
              first | (exfalso; omega) | (have x0 : (((i + 1 : Nat) : Int) - 1).toNat = i := (by omega); simp only [x0, Int.toNat_natCast] at c33; omega)
    ·
      refine C.exit ?_
      refine hK4 _ _ ?_
      refine hK2 _ _ ?_
      refine C.seqK fun K12 hK12 => ?_
      refine C.region ?_
      refine O.asg ?_
      refine O.nil ?_
      refine hK12 _ _ ?_
      refine C.ret ?_
      refine Outs.one rfl rfl ?_
      first
      | exact ⟨congrArg Value.bool (Vc.valid_no hk2 hvn).symm, e_1⟩
      | (refine ⟨congrArg Value.bool ?_, e_1⟩
         have x0 : ((k : Int) - 1).toNat = k - 1 := by omega
         simp only [x0, Int.toNat_natCast] at c33
         exact (Vc.valid_no2 (j := k - 1) hk2 (by omega) (by omega) (by omega)).symm)
      | exact ⟨congrArg Value.bool (Vc.valid_yes (fun i hi => hI i hi (by omega)) (fun i hi => hJ i hi (by omega))).symm, e_1⟩

end Go.Proofs.YtbmbaajfkmejgaaGreatDoor
end
section
/-
  DERIVED: THE SHELF's CONTRACTS AT THIS DUMP, IN PLAIN WORDS (tools/lay-plain.mjs out of 'TryzShelf.lean', which tools/lay-shelf.mjs wrote): THE SAME DECLARATIONS UNDER THE SAME NAMES: 'import', 'namespace', 'open', 'def', 'theorem' AND NOTHING ELSE: no command of the shelf's: FOR A HAND-IN. Each laying: the table of numbers ('.._ren') and one theorem, a field a fact of the dump's own or the kernel's comparison; each contract: ONE APPLICATION.
-/
namespace Go.Proofs
open Go.Shelf
def Tryz.lays156_ren : Go.Shelf.Ren := ⟨fun | 156 => 49 | 165 => 59 | 166 => 60 | 169 => 61 | 240 => 70 | 241 => 71 | 276 => 89 | 277 => 90 | n => n, fun | 31 => 70 | 9 => 9 | 3 => 3 | 4 => 4 | 0 => 0 | 20 => 20 | 72 => 90 | 76 => 94 | 70 => 87 | 37 => 88 | 75 => 93 | 127 => 105 | 164 => 123 | 5 => 5 | 80 => 96 | n => n, fun | n => n⟩
theorem Tryz.lays156 : Go.Proofs.Lays.n156 Tryz.prog Tryz.lays156_ren := {
  mixed := by kernel_rfl
  f156 := Tryz.func49.trans (congrArg some (by kernel_rfl))
  f165 := Tryz.func59.trans (congrArg some (by kernel_rfl))
  f166 := Tryz.func60.trans (congrArg some (by kernel_rfl))
  f169 := Tryz.func61.trans (congrArg some (by kernel_rfl))
  f240 := Tryz.func70.trans (congrArg some (by kernel_rfl))
  f241 := Tryz.func71.trans (congrArg some (by kernel_rfl))
  f276 := Tryz.func89.trans (congrArg some (by kernel_rfl))
  f277 := Tryz.func90.trans (congrArg some (by kernel_rfl))
  t0 := Tryz.underlying0
  a0 := Tryz.isAgg0
  z0 := Tryz.sizeOf0
  v0 := Tryz.zeroValue0
  t3 := Tryz.underlying3
  a3 := Tryz.isAgg3
  z3 := Tryz.sizeOf3
  v3 := Tryz.zeroValue3
  t4 := Tryz.underlying4
  a4 := Tryz.isAgg4
  z4 := Tryz.sizeOf4
  v4 := Tryz.zeroValue4
  t9 := Tryz.underlying9
  a9 := Tryz.isAgg9
  z9 := Tryz.sizeOf9
  v9 := Tryz.zeroValue9
  t20 := Tryz.underlying20
  a20 := Tryz.isAgg20
  z20 := Tryz.sizeOf20
  v20 := Tryz.zeroValue20
  t31 := Tryz.underlying70
  a31 := Tryz.isAgg70
  z31 := Tryz.sizeOf70
  v31 := Tryz.zeroValue70
  t37 := Tryz.underlying88
  a37 := Tryz.isAgg88
  z37 := Tryz.sizeOf88
  v37 := Tryz.zeroValue88
  t70 := Tryz.underlying87
  a70 := Tryz.isAgg87
  z70 := Tryz.sizeOf87
  v70 := Tryz.zeroValue87
  t72 := Tryz.underlying90
  a72 := Tryz.isAgg90
  z72 := Tryz.sizeOf90
  v72 := Tryz.zeroValue90
  t75 := Tryz.underlying93
  a75 := Tryz.isAgg93
  z75 := Tryz.sizeOf93
  v75 := Tryz.zeroValue93
  t76 := Tryz.underlying94
  a76 := Tryz.isAgg94
  z76 := Tryz.sizeOf94
  v76 := Tryz.zeroValue94
  t127 := Tryz.underlying105
  a127 := Tryz.isAgg105
  z127 := Tryz.sizeOf105
  v127 := Tryz.zeroValue105
  t164 := Tryz.underlying123
  a164 := Tryz.isAgg123
  z164 := Tryz.sizeOf123
  v164 := Tryz.zeroValue123 }
theorem Tryz.Builder_Extra_156 : Builder.Extra Tryz.prog Tryz.lays156_ren := {
  sizeBuilder := by kernel_rfl
  liesBuilder := by kernel_rfl
  t5 := Tryz.underlying5
  a5 := Tryz.isAgg5
  z5 := Tryz.sizeOf5
  v5 := Tryz.zeroValue5
  infoByte := by kernel_rfl
  cellsByte := by kernel_rfl
  sizeByte := by kernel_rfl
  neB5 := by decide }
open Go.RowKit in
/-- strings.Join: "Join concatenates the elements of its first argument to create a single string. The separator string sep is placed between elements in the resulting string.": HOWEVER MANY ELEMENTS. Below the heap's end the world is as it was. (LAID: no walk: one application.) -/
theorem Tryz.strings_Join (bk o c : Nat) (xs : List ByteArray) (sep : ByteArray) (w : World) (hcells : ∀ (j : Nat) x, xs[j]? = some x → w.cell? ⟨bk, o + j, none⟩ = some (.string x)) (hbk : bk < w.heap.size) (hN : xs.length ≤ 140737488355328) (hcap : xs.length ≤ c) (hlen : (Lib.join (xs.map (·.data.toList)) sep.data.toList).length ≤ 140737488355328) :
    Calls Tryz.prog 49 #[.slice (some ⟨bk, o, none⟩) xs.length c, .string sep] w fun e w' => e = .returned (.string ⟨(Lib.join (xs.map (·.data.toList)) sep.data.toList).toArray⟩) ∧ Below w.heap.size w w' := Any.strings_Join Tryz.lays156 Tryz.Builder_Extra_156 bk o c xs sep w hcells hbk hN hcap hlen
def Tryz.lays125_ren : Go.Shelf.Ren := ⟨fun | 125 => 64 | 128 => 80 | 129 => 81 | n => n, fun | 46 => 100 | 3 => 3 | 51 => 115 | 53 => 117 | 4 => 4 | 5 => 5 | 9 => 9 | n => n, fun | n => n⟩
theorem Tryz.lays125 : Go.Proofs.Lays.n125 Tryz.prog Tryz.lays125_ren := {
  mixed := by kernel_rfl
  f125 := Tryz.func64.trans (congrArg some (by kernel_rfl))
  f128 := Tryz.func80.trans (congrArg some (by kernel_rfl))
  f129 := Tryz.func81.trans (congrArg some (by kernel_rfl))
  t3 := Tryz.underlying3
  a3 := Tryz.isAgg3
  z3 := Tryz.sizeOf3
  v3 := Tryz.zeroValue3
  t4 := Tryz.underlying4
  a4 := Tryz.isAgg4
  z4 := Tryz.sizeOf4
  v4 := Tryz.zeroValue4
  t5 := Tryz.underlying5
  a5 := Tryz.isAgg5
  z5 := Tryz.sizeOf5
  v5 := Tryz.zeroValue5
  t9 := Tryz.underlying9
  a9 := Tryz.isAgg9
  z9 := Tryz.sizeOf9
  v9 := Tryz.zeroValue9
  t46 := Tryz.underlying100
  a46 := Tryz.isAgg100
  z46 := Tryz.sizeOf100
  v46 := Tryz.zeroValue100
  t51 := Tryz.underlying115
  a51 := Tryz.isAgg115
  z51 := Tryz.sizeOf115
  v51 := Tryz.zeroValue115
  t53 := Tryz.underlying117
  a53 := Tryz.isAgg117
  z53 := Tryz.sizeOf117
  v53 := Tryz.zeroValue117 }
/-- bits.Len: "Len returns the minimum number of bits required to represent x; the result is 0 for x == 0.": IT RETURNS 'Lib.bitLen x'; the world is as it was. (A uint has 64 bits in the model.) ITS CALLEE bits.Len64 IS MET BY ITS OWN CONTRACT OFF THE SHELF (lay that first). (LAID: no walk: one application.) -/
theorem Tryz.bits_Len (x : Int) (w : World) (h0 : 0 ≤ x) (h1 : x ≤ 18446744073709551615) :
    Calls Tryz.prog 64 #[.int .u64 x] w fun e w' => e = .returned (.int .i64 (Lib.bitLen x.toNat)) ∧ w' = w := Any.bits_Len Tryz.lays125 x w h0 h1
def Tryz.laysM171_ren : Go.Shelf.Ren := ⟨fun | 171 => 69 | 243 => 88 | 246 => 103 | 283 => 112 | 284 => 113 | 285 => 114 | 286 => 115 | 129 => 81 | 317 => 120 | 318 => 121 | 319 => 122 | 320 => 123 | 337 => 124 | 338 => 125 | n => n, fun | 3 => 3 | 9 => 9 | 2 => 2 | 4 => 4 | 171 => 154 | 0 => 0 | 53 => 117 | 37 => 88 | 5 => 5 | 173 => 156 | 212 => 165 | 51 => 115 | 20 => 20 | 213 => 166 | 46 => 100 | 232 => 167 | 233 => 168 | n => n, fun | 17 => 5 | 18 => 6 | 19 => 7 | n => n⟩
theorem Tryz.laysM171 : Go.Proofs.LaysM.n171 Tryz.prog Tryz.laysM171_ren := {
  mixed := by kernel_rfl
  f129 := Tryz.func81.trans (congrArg some (by kernel_rfl))
  f171 := Tryz.func69.trans (congrArg some (by kernel_rfl))
  f243 := Tryz.func88.trans (congrArg some (by kernel_rfl))
  f246 := Tryz.func103.trans (congrArg some (by kernel_rfl))
  f283 := Tryz.func112.trans (congrArg some (by kernel_rfl))
  f284 := Tryz.func113.trans (congrArg some (by kernel_rfl))
  f285 := Tryz.func114.trans (congrArg some (by kernel_rfl))
  f286 := Tryz.func115.trans (congrArg some (by kernel_rfl))
  f317 := Tryz.func120.trans (congrArg some (by kernel_rfl))
  f318 := Tryz.func121.trans (congrArg some (by kernel_rfl))
  f319 := Tryz.func122.trans (congrArg some (by kernel_rfl))
  f320 := Tryz.func123.trans (congrArg some (by kernel_rfl))
  f337 := Tryz.func124.trans (congrArg some (by kernel_rfl))
  f338 := Tryz.func125.trans (congrArg some (by kernel_rfl))
  t0 := Tryz.underlying0
  a0 := Tryz.isAgg0
  z0 := Tryz.sizeOf0
  v0 := Tryz.zeroValue0
  t2 := Tryz.underlying2
  a2 := Tryz.isAgg2
  z2 := Tryz.sizeOf2
  v2 := Tryz.zeroValue2
  t3 := Tryz.underlying3
  a3 := Tryz.isAgg3
  z3 := Tryz.sizeOf3
  v3 := Tryz.zeroValue3
  t4 := Tryz.underlying4
  a4 := Tryz.isAgg4
  z4 := Tryz.sizeOf4
  v4 := Tryz.zeroValue4
  t5 := Tryz.underlying5
  a5 := Tryz.isAgg5
  z5 := Tryz.sizeOf5
  v5 := Tryz.zeroValue5
  t9 := Tryz.underlying9
  a9 := Tryz.isAgg9
  z9 := Tryz.sizeOf9
  v9 := Tryz.zeroValue9
  t20 := Tryz.underlying20
  a20 := Tryz.isAgg20
  z20 := Tryz.sizeOf20
  v20 := Tryz.zeroValue20
  t37 := Tryz.underlying88
  a37 := Tryz.isAgg88
  z37 := Tryz.sizeOf88
  v37 := Tryz.zeroValue88
  t46 := Tryz.underlying100
  a46 := Tryz.isAgg100
  z46 := Tryz.sizeOf100
  v46 := Tryz.zeroValue100
  t51 := Tryz.underlying115
  a51 := Tryz.isAgg115
  z51 := Tryz.sizeOf115
  v51 := Tryz.zeroValue115
  t53 := Tryz.underlying117
  a53 := Tryz.isAgg117
  z53 := Tryz.sizeOf117
  v53 := Tryz.zeroValue117
  t171 := Tryz.underlying154
  a171 := Tryz.isAgg154
  z171 := Tryz.sizeOf154
  v171 := Tryz.zeroValue154
  t173 := Tryz.underlying156
  a173 := Tryz.isAgg156
  z173 := Tryz.sizeOf156
  v173 := Tryz.zeroValue156
  t212 := Tryz.underlying165
  a212 := Tryz.isAgg165
  z212 := Tryz.sizeOf165
  v212 := Tryz.zeroValue165
  t213 := Tryz.underlying166
  a213 := Tryz.isAgg166
  z213 := Tryz.sizeOf166
  t232 := Tryz.underlying167
  a232 := Tryz.isAgg167
  z232 := Tryz.sizeOf167
  v232 := Tryz.zeroValue167
  t233 := Tryz.underlying168
  a233 := Tryz.isAgg168
  z233 := Tryz.sizeOf168
  v233 := Tryz.zeroValue168
  g17 := by kernel_rfl
  g18 := by kernel_rfl
  g19 := by kernel_rfl
  i0 := by kernel_rfl
  i2 := by kernel_rfl
  i3 := by kernel_rfl
  i4 := by kernel_rfl
  i5 := by kernel_rfl
  i9 := by kernel_rfl
  i20 := by kernel_rfl
  i37 := by kernel_rfl
  i46 := by kernel_rfl
  i51 := by kernel_rfl
  i53 := by kernel_rfl
  i171 := by kernel_rfl
  i173 := by kernel_rfl
  i212 := by kernel_rfl
  i232 := by kernel_rfl
  i233 := by kernel_rfl
  m17 := by kernel_rfl
  m18 := by kernel_rfl
  m19 := by kernel_rfl }
open Go.RowKit Go.Sort Go.Lib in
/-- strconv.Itoa: "Itoa is equivalent to FormatInt(int64(i), 10).": i's DECIMAL NUMERAL ('Lib.itoa': a '-' where i is negative, then the digits), FOR EVERY int. The world behind the call: the world before it, new blocks behind the heap (the library's 'var a [24]byte'), draws. (LAID: no walk: one application.) -/
theorem Tryz.strconv_Itoa (n : Int) (h0 : -9223372036854775808 ≤ n) (h1 : n ≤ 9223372036854775807) (w : World) (htab : Lib.TabIs Tryz.prog w "internal/strconv.uint64pow10" .u64 Lib.pow10Tab) :
    Calls Tryz.prog 69 #[.int .i64 n] w fun e w' => e = .returned (.string ⟨(Lib.itoa n).toArray⟩) ∧ ∃ k os, w' = grow (w.drewN k) os := Any.strconv_Itoa Tryz.laysM171 n h0 h1 w htab
def Tryz.laysC172_ren : Go.Shelf.Ren := ⟨fun | 172 => 68 | 244 => 86 | 245 => 87 | 247 => 98 | 279 => 99 | 280 => 100 | 281 => 101 | 282 => 102 | 287 => 109 | 316 => 110 | 171 => 69 | 205 => 111 | 321 => 118 | 322 => 119 | 243 => 88 | 246 => 103 | 283 => 112 | 284 => 113 | 285 => 114 | 286 => 115 | 129 => 81 | 317 => 120 | 318 => 121 | 319 => 122 | 320 => 123 | 337 => 124 | 338 => 125 | n => n, fun | 9 => 9 | 3 => 3 | 75 => 93 | 76 => 94 | 4 => 4 | 5 => 5 | 167 => 132 | 37 => 88 | 0 => 0 | 85 => 133 | 2 => 2 | 168 => 135 | 53 => 117 | 175 => 148 | 46 => 100 | 210 => 152 | 127 => 105 | 145 => 163 | 143 => 161 | 21 => 21 | 171 => 154 | 173 => 156 | 212 => 165 | 51 => 115 | 20 => 20 | 213 => 166 | 232 => 167 | 233 => 168 | 80 => 96 | n => n, fun | 15 => 3 | 16 => 4 | 17 => 5 | 18 => 6 | 19 => 7 | n => n⟩
theorem Tryz.laysC172 : Go.Proofs.LaysC.n172 Tryz.prog Tryz.laysC172_ren := {
  mixed := by kernel_rfl
  f129 := Tryz.func81.trans (congrArg some (by kernel_rfl))
  f171 := Tryz.func69.trans (congrArg some (by kernel_rfl))
  f172 := Tryz.func68.trans (congrArg some (by kernel_rfl))
  f205 := Tryz.func111.trans (congrArg some (by kernel_rfl))
  f243 := Tryz.func88.trans (congrArg some (by kernel_rfl))
  f244 := Tryz.func86.trans (congrArg some (by kernel_rfl))
  f245 := Tryz.func87.trans (congrArg some (by kernel_rfl))
  f246 := Tryz.func103.trans (congrArg some (by kernel_rfl))
  f247 := Tryz.func98.trans (congrArg some (by kernel_rfl))
  f279 := Tryz.func99.trans (congrArg some (by kernel_rfl))
  f280 := Tryz.func100.trans (congrArg some (by kernel_rfl))
  f281 := Tryz.func101.trans (congrArg some (by kernel_rfl))
  f282 := Tryz.func102.trans (congrArg some (by kernel_rfl))
  f283 := Tryz.func112.trans (congrArg some (by kernel_rfl))
  f284 := Tryz.func113.trans (congrArg some (by kernel_rfl))
  f285 := Tryz.func114.trans (congrArg some (by kernel_rfl))
  f286 := Tryz.func115.trans (congrArg some (by kernel_rfl))
  f287 := Tryz.func109.trans (congrArg some (by kernel_rfl))
  f316 := Tryz.func110.trans (congrArg some (by kernel_rfl))
  f317 := Tryz.func120.trans (congrArg some (by kernel_rfl))
  f318 := Tryz.func121.trans (congrArg some (by kernel_rfl))
  f319 := Tryz.func122.trans (congrArg some (by kernel_rfl))
  f320 := Tryz.func123.trans (congrArg some (by kernel_rfl))
  f321 := Tryz.func118.trans (congrArg some (by kernel_rfl))
  f322 := Tryz.func119.trans (congrArg some (by kernel_rfl))
  f337 := Tryz.func124.trans (congrArg some (by kernel_rfl))
  f338 := Tryz.func125.trans (congrArg some (by kernel_rfl))
  t0 := Tryz.underlying0
  a0 := Tryz.isAgg0
  z0 := Tryz.sizeOf0
  v0 := Tryz.zeroValue0
  t2 := Tryz.underlying2
  a2 := Tryz.isAgg2
  z2 := Tryz.sizeOf2
  v2 := Tryz.zeroValue2
  t3 := Tryz.underlying3
  a3 := Tryz.isAgg3
  z3 := Tryz.sizeOf3
  v3 := Tryz.zeroValue3
  t4 := Tryz.underlying4
  a4 := Tryz.isAgg4
  z4 := Tryz.sizeOf4
  v4 := Tryz.zeroValue4
  t5 := Tryz.underlying5
  a5 := Tryz.isAgg5
  z5 := Tryz.sizeOf5
  v5 := Tryz.zeroValue5
  t9 := Tryz.underlying9
  a9 := Tryz.isAgg9
  z9 := Tryz.sizeOf9
  v9 := Tryz.zeroValue9
  t20 := Tryz.underlying20
  a20 := Tryz.isAgg20
  z20 := Tryz.sizeOf20
  v20 := Tryz.zeroValue20
  t21 := Tryz.underlying21
  a21 := Tryz.isAgg21
  z21 := Tryz.sizeOf21
  v21 := Tryz.zeroValue21
  t37 := Tryz.underlying88
  a37 := Tryz.isAgg88
  z37 := Tryz.sizeOf88
  v37 := Tryz.zeroValue88
  t46 := Tryz.underlying100
  a46 := Tryz.isAgg100
  z46 := Tryz.sizeOf100
  v46 := Tryz.zeroValue100
  t51 := Tryz.underlying115
  a51 := Tryz.isAgg115
  z51 := Tryz.sizeOf115
  v51 := Tryz.zeroValue115
  t53 := Tryz.underlying117
  a53 := Tryz.isAgg117
  z53 := Tryz.sizeOf117
  v53 := Tryz.zeroValue117
  t75 := Tryz.underlying93
  a75 := Tryz.isAgg93
  z75 := Tryz.sizeOf93
  v75 := Tryz.zeroValue93
  t76 := Tryz.underlying94
  a76 := Tryz.isAgg94
  z76 := Tryz.sizeOf94
  v76 := Tryz.zeroValue94
  t85 := Tryz.underlying133
  a85 := Tryz.isAgg133
  z85 := Tryz.sizeOf133
  v85 := Tryz.zeroValue133
  t127 := Tryz.underlying105
  a127 := Tryz.isAgg105
  z127 := Tryz.sizeOf105
  v127 := Tryz.zeroValue105
  t143 := Tryz.underlying161
  a143 := Tryz.isAgg161
  z143 := Tryz.sizeOf161
  v143 := Tryz.zeroValue161
  t145 := Tryz.underlying163
  a145 := Tryz.isAgg163
  z145 := Tryz.sizeOf163
  v145 := Tryz.zeroValue163
  t167 := Tryz.underlying132
  a167 := Tryz.isAgg132
  z167 := Tryz.sizeOf132
  v167 := Tryz.zeroValue132
  t168 := Tryz.underlying135
  a168 := Tryz.isAgg135
  z168 := Tryz.sizeOf135
  v168 := Tryz.zeroValue135
  t171 := Tryz.underlying154
  a171 := Tryz.isAgg154
  z171 := Tryz.sizeOf154
  v171 := Tryz.zeroValue154
  t173 := Tryz.underlying156
  a173 := Tryz.isAgg156
  z173 := Tryz.sizeOf156
  v173 := Tryz.zeroValue156
  t175 := Tryz.underlying148
  a175 := Tryz.isAgg148
  z175 := Tryz.sizeOf148
  v175 := Tryz.zeroValue148
  t210 := Tryz.underlying152
  a210 := Tryz.isAgg152
  z210 := Tryz.sizeOf152
  v210 := Tryz.zeroValue152
  t212 := Tryz.underlying165
  a212 := Tryz.isAgg165
  z212 := Tryz.sizeOf165
  v212 := Tryz.zeroValue165
  t213 := Tryz.underlying166
  a213 := Tryz.isAgg166
  z213 := Tryz.sizeOf166
  t232 := Tryz.underlying167
  a232 := Tryz.isAgg167
  z232 := Tryz.sizeOf167
  v232 := Tryz.zeroValue167
  t233 := Tryz.underlying168
  a233 := Tryz.isAgg168
  z233 := Tryz.sizeOf168
  v233 := Tryz.zeroValue168
  g15 := by kernel_rfl
  g16 := by kernel_rfl
  g17 := by kernel_rfl
  g18 := by kernel_rfl
  g19 := by kernel_rfl
  t80 := Tryz.underlying96
  a80 := Tryz.isAgg96
  z80 := Tryz.sizeOf96
  v80 := Tryz.zeroValue96
  i0 := by kernel_rfl
  i2 := by kernel_rfl
  i3 := by kernel_rfl
  i4 := by kernel_rfl
  i5 := by kernel_rfl
  i9 := by kernel_rfl
  i20 := by kernel_rfl
  i21 := by kernel_rfl
  i37 := by kernel_rfl
  i46 := by kernel_rfl
  i51 := by kernel_rfl
  i53 := by kernel_rfl
  i75 := by kernel_rfl
  i76 := by kernel_rfl
  i80 := by kernel_rfl
  i85 := by kernel_rfl
  i127 := by kernel_rfl
  i143 := by kernel_rfl
  i145 := by kernel_rfl
  i167 := by kernel_rfl
  i168 := by kernel_rfl
  i171 := by kernel_rfl
  i173 := by kernel_rfl
  i175 := by kernel_rfl
  i210 := by kernel_rfl
  i212 := by kernel_rfl
  i232 := by kernel_rfl
  i233 := by kernel_rfl
  m15 := by kernel_rfl
  m16 := by kernel_rfl
  m17 := by kernel_rfl
  m18 := by kernel_rfl
  m19 := by kernel_rfl
  c0 := by kernel_rfl
  c2 := by kernel_rfl
  c3 := by kernel_rfl
  c4 := by kernel_rfl
  c5 := by kernel_rfl
  c9 := by kernel_rfl
  c20 := by kernel_rfl
  c21 := by kernel_rfl
  c37 := by kernel_rfl
  c46 := by kernel_rfl
  c51 := by kernel_rfl
  c53 := by kernel_rfl
  c75 := by kernel_rfl
  c76 := by kernel_rfl
  c80 := by kernel_rfl
  c85 := by kernel_rfl
  c127 := by kernel_rfl
  c143 := by kernel_rfl
  c145 := by kernel_rfl
  c167 := by kernel_rfl
  c168 := by kernel_rfl
  c171 := by kernel_rfl
  c173 := by kernel_rfl
  c175 := by kernel_rfl
  c210 := by kernel_rfl
  c212 := by kernel_rfl
  c213 := by kernel_rfl
  c232 := by kernel_rfl
  c233 := by kernel_rfl }
open Go.RowKit in
/-- strconv.Atoi, AT EVERY STRING THAT SPELLS AN int ('Lib.atoiAll .. = .ok v'; of whatever length: leading zeros count): v, AND NO ERROR. The world: as it was, or with the one new row that '[]byte(..)' lays. (LAID: no walk: one application.) -/
theorem Tryz.strconv_Atoi_ok (s : ByteArray) (hmax : s.size ≤ 9223372036854775806) (v : Int) (h : Lib.atoiAll s.data.toList = .ok v) (w : World) :
    Calls Tryz.prog 68 #[.string s] w fun e w' => e = .returned (.tuple #[.int .i64 v, .nilIface]) ∧ (w' = w ∨ ∃ t, w' = Lib.bytesWorld w 5 t) := Any.strconv_Atoi_ok Tryz.laysC172 s hmax v h w
open Go.RowKit in
/-- strconv.Atoi, AT EVERY STRING THAT IS NO DECIMAL NUMERAL ('.syntax'): 0, AND AN ERROR THAT IS NOT nil: a *NumError in a new block N: {Func: "Atoi", Num: s's bytes, Err: what the variable ErrSyntax holds}. Of what was there nothing has turned. (LAID: no walk: one application.) -/
theorem Tryz.strconv_Atoi_syntax (s : ByteArray) (hlim : s.size ≤ 281474976710656) (h : Lib.atoiAll s.data.toList = .«syntax») (ev : Value) (w : World) (hv : w.cell? ⟨3, 0, none⟩ = some ev) (hev : ev = .nilIface ∨ ∃ te pe, ev = .iface te pe) :
    Calls Tryz.prog 68 #[.string s] w fun e w' => ∃ N, e = .returned (.tuple #[.int .i64 (0), .iface 135 (.pointer (some ⟨N, 0, none⟩))]) ∧ w.heap.size ≤ N ∧ w'.heap[N]? = some (.cells #[.string ⟨#[65, 116, 111, 105]⟩, .string s, ev] 152 (0, 0)) ∧ Below w.heap.size w w' := Any.strconv_Atoi_syntax Tryz.laysC172 s hlim h ev w hv hev
open Go.RowKit in
/-- strconv.Atoi, AT EVERY NUMERAL THAT NO int HOLDS ('.range'): THE GREATEST OR THE LEAST int, BY THE SIGN ('Lib.atoiSat'), AND AN ERROR THAT IS NOT nil: a *NumError in a new block N: {Func: "Atoi", Num: s's bytes, Err: what the variable ErrRange holds}. Of what was there nothing has turned. (LAID: no walk: one application.) -/
theorem Tryz.strconv_Atoi_range (s : ByteArray) (hlim : s.size ≤ 281474976710656) (h : Lib.atoiAll s.data.toList = .range) (ev : Value) (w : World) (hv : w.cell? ⟨4, 0, none⟩ = some ev) (hev : ev = .nilIface ∨ ∃ te pe, ev = .iface te pe) :
    Calls Tryz.prog 68 #[.string s] w fun e w' => ∃ N, e = .returned (.tuple #[.int .i64 (Lib.atoiSat s.data.toList), .iface 135 (.pointer (some ⟨N, 0, none⟩))]) ∧ w.heap.size ≤ N ∧ w'.heap[N]? = some (.cells #[.string ⟨#[65, 116, 111, 105]⟩, .string s, ev] 152 (0, 0)) ∧ Below w.heap.size w w' := Any.strconv_Atoi_range Tryz.laysC172 s hlim h ev w hv hev
def Tryz.lays219_ren : Go.Shelf.Ren := ⟨fun | 219 => 97 | 217 => 105 | 225 => 106 | 224 => 107 | 267 => 108 | 266 => 116 | 314 => 117 | n => n, fun | 9 => 9 | 3 => 3 | 4 => 4 | 5 => 5 | 46 => 100 | 146 => 158 | 51 => 115 | n => n, fun | 1 => 0 | n => n⟩
theorem Tryz.lays219 : Go.Proofs.Lays.n219 Tryz.prog Tryz.lays219_ren := {
  mixed := by kernel_rfl
  f217 := Tryz.func105.trans (congrArg some (by kernel_rfl))
  f219 := Tryz.func97.trans (congrArg some (by kernel_rfl))
  f224 := Tryz.func107.trans (congrArg some (by kernel_rfl))
  f225 := Tryz.func106.trans (congrArg some (by kernel_rfl))
  f266 := Tryz.func116.trans (congrArg some (by kernel_rfl))
  f267 := Tryz.func108.trans (congrArg some (by kernel_rfl))
  f314 := Tryz.func117.trans (congrArg some (by kernel_rfl))
  t3 := Tryz.underlying3
  a3 := Tryz.isAgg3
  z3 := Tryz.sizeOf3
  v3 := Tryz.zeroValue3
  t4 := Tryz.underlying4
  a4 := Tryz.isAgg4
  z4 := Tryz.sizeOf4
  v4 := Tryz.zeroValue4
  t5 := Tryz.underlying5
  a5 := Tryz.isAgg5
  z5 := Tryz.sizeOf5
  v5 := Tryz.zeroValue5
  t9 := Tryz.underlying9
  a9 := Tryz.isAgg9
  z9 := Tryz.sizeOf9
  v9 := Tryz.zeroValue9
  t46 := Tryz.underlying100
  a46 := Tryz.isAgg100
  z46 := Tryz.sizeOf100
  v46 := Tryz.zeroValue100
  t51 := Tryz.underlying115
  a51 := Tryz.isAgg115
  z51 := Tryz.sizeOf115
  v51 := Tryz.zeroValue115
  t146 := Tryz.underlying158
  a146 := Tryz.isAgg158
  z146 := Tryz.sizeOf158
  v146 := Tryz.zeroValue158
  g1 := by kernel_rfl }
open Go.RowKit Go.Lib in
/-- internal/stringslite.Index (what strings.Index calls) AT A substr OF ONE BYTE c: IT RETURNS 'Lib.indexByte s c'; the world is as it was. (LAID: no walk: one application.) -/
theorem Tryz.stringslite_Index_one (s : ByteArray) (c : UInt8) (w : World) :
    Calls Tryz.prog 97 #[.string s, .string ⟨#[c]⟩] w fun e w' => e = .returned (.int .i64 (Lib.indexByte s.data.toList c)) ∧ w' = w := Any.stringslite_Index_one Tryz.lays219 s c w
def Tryz.lays143_ren : Go.Shelf.Ren := ⟨fun | 143 => 84 | 219 => 97 | 217 => 105 | 225 => 106 | 224 => 107 | 267 => 108 | 266 => 116 | 314 => 117 | n => n, fun | 9 => 9 | 3 => 3 | 4 => 4 | 5 => 5 | 46 => 100 | 146 => 158 | 51 => 115 | n => n, fun | 1 => 0 | n => n⟩
theorem Tryz.lays143 : Go.Proofs.Lays.n143 Tryz.prog Tryz.lays143_ren := {
  mixed := by kernel_rfl
  f143 := Tryz.func84.trans (congrArg some (by kernel_rfl))
  f217 := Tryz.func105.trans (congrArg some (by kernel_rfl))
  f219 := Tryz.func97.trans (congrArg some (by kernel_rfl))
  f224 := Tryz.func107.trans (congrArg some (by kernel_rfl))
  f225 := Tryz.func106.trans (congrArg some (by kernel_rfl))
  f266 := Tryz.func116.trans (congrArg some (by kernel_rfl))
  f267 := Tryz.func108.trans (congrArg some (by kernel_rfl))
  f314 := Tryz.func117.trans (congrArg some (by kernel_rfl))
  t3 := Tryz.underlying3
  a3 := Tryz.isAgg3
  z3 := Tryz.sizeOf3
  v3 := Tryz.zeroValue3
  t4 := Tryz.underlying4
  a4 := Tryz.isAgg4
  z4 := Tryz.sizeOf4
  v4 := Tryz.zeroValue4
  t5 := Tryz.underlying5
  a5 := Tryz.isAgg5
  z5 := Tryz.sizeOf5
  v5 := Tryz.zeroValue5
  t9 := Tryz.underlying9
  a9 := Tryz.isAgg9
  z9 := Tryz.sizeOf9
  v9 := Tryz.zeroValue9
  t46 := Tryz.underlying100
  a46 := Tryz.isAgg100
  z46 := Tryz.sizeOf100
  v46 := Tryz.zeroValue100
  t51 := Tryz.underlying115
  a51 := Tryz.isAgg115
  z51 := Tryz.sizeOf115
  v51 := Tryz.zeroValue115
  t146 := Tryz.underlying158
  a146 := Tryz.isAgg158
  z146 := Tryz.sizeOf158
  v146 := Tryz.zeroValue158
  g1 := by kernel_rfl }
open Go.RowKit Go.Lib in
/-- strings.Index: "Index returns the index of the first instance of substr in s, or -1 if substr is not present in s.": AT A substr OF ONE BYTE c: IT RETURNS 'Lib.indexByte s c'; the world is as it was. (LAID: no walk: one application.) -/
theorem Tryz.strings_Index_one (s : ByteArray) (c : UInt8) (w : World) :
    Calls Tryz.prog 84 #[.string s, .string ⟨#[c]⟩] w fun e w' => e = .returned (.int .i64 (Lib.indexByte s.data.toList c)) ∧ w' = w := Any.strings_Index_one Tryz.lays143 s c w
end Go.Proofs
end
section
/-
  The walks of vectors: rows of dots in one, equal ones, the order of replicas. Conditions: slices as they lie in memory.
-/
namespace Go.Proofs.YtbmbaajfkmejgaaGreatDoor
open Go.Pn Go.RowKit Go.Proofs
attribute [local irreducible] O C D

theorem _root_.Go.Pn.OwnF.lst {α : Type} {G : Flat α} {ty : TypeId} {B : Nat} {w : World} {v : Value} {xs ys : List α} (h : OwnF G ty B w v xs) (e : xs = ys) : OwnF G ty B w v ys := e ▸ h
theorem inf23 : ∃ ie, Tryz.prog.info? 23 = some ie ∧ ie.size = 1 ∧ ie.bytes = 24 ∧ ie.zero = some (.slice none 0 0) := by
  have h : (Tryz.prog.info? 23).isSome = true := by kernel_rfl
  exact ⟨(Tryz.prog.info? 23).get h, (Option.some_get h).symm, by kernel_rfl, by kernel_rfl, by kernel_rfl⟩

theorem blen_spec (w : World) : Ret Tryz.prog 64 #[.int .u64 ((0#64).toNat : Int)] w (fun v w' => (∃ k : Int, v = .int .i64 k) ∧ w' = w) := by
  refine Ret.of (Tryz.bits_Len 0 w (by decide) (by decide)) ?_
  rintro e w' ⟨rfl, rfl⟩
  exact ⟨_, rfl, ⟨_, rfl⟩, rfl⟩

theorem growV_spec (m : Nat) (w : World) (hm : m ≤ 1000000000000) :
    Ret Tryz.prog 54 #[.slice none 0 0, .int .i64 ((m : Int))] w (fun v w' => Le w w' ∧ OwnF Dt.dotF 25 w.heap.size w' v ([])) := by
  obtain ⟨ie25, ti25, ts25, tb25, tz25⟩ := inf25
  refine enter (args := [.slice none 0 0, .int .i64 ((m : Int))]) (n := 27) Tryz.func54 rfl rfl (Nat.le_of_ble_eq_true rfl) ?_
  refine C.seqK fun K1 hK1 => ?_
  refine C.region ?_
  refine O.asg ?_
  refine O.nil ?_
  refine hK1 _ _ ?_
  refine C.seqK fun K2 hK2 => ?_
  refine C.seqK fun K3 hK3 => ?_
  refine C.region ?_
  refine O.mv ?_
  refine O.lssI rfl rfl ?_
  refine O.cast (v' := .bool false) (congrArg Value.bool (by exact decide_eq_false (by omega))) ?_
  refine O.nil ?_
  refine hK3 _ _ ?_
  refine C.condF rfl ?_
  refine C.skip ?_
  refine hK2 _ _ ?_
  refine C.seqK fun K4 hK4 => ?_
  refine C.seqK fun K5 hK5 => ?_
  refine C.region ?_
  refine O.mv ?_
  refine O.mv ?_
  refine O.capL Tryz.underlying23 rfl ?_
  refine O.mv ?_
  refine O.lenL Tryz.underlying23 rfl ?_
  refine O.subI rfl rfl (by unfold InI; omega) ?_
  refine O.subI rfl rfl (by unfold InI; omega) ?_
  refine O.cast (v' := .int .i64 (m : Int)) (congrArg (Value.int .i64) (by omega)) ?_
  refine O.asg ?_
  refine O.nil ?_
  refine hK5 _ _ ?_
  refine C.seqK fun K6 hK6 => ?_
  refine C.region ?_
  refine O.mv ?_
  refine O.gtrI rfl rfl ?_
  refine O.nil ?_
  refine hK6 _ _ ?_
  refine C.condD rfl (fun c16 => ?_) (fun c16 => ?_)
  ·
    have hm0 : 0 < m := by omega
    refine C.region ?_
    refine O.mv ?_
    refine O.mv ?_
    refine O.capL Tryz.underlying23 rfl ?_
    refine O.subNil Tryz.underlying23 Tryz.sizeOf25 rfl rfl ?_
    refine O.mv ?_
    refine O.appZ (G := Dt.dotF) (zx := ((0, 0) : Dt.Dot)) (m := m) Tryz.underlying23 Tryz.underlying3 ti25 tz25 ts25 rfl rfl rfl (by omega) (by rw [tb25]; omega) (by unfold maxLen; omega) (Nat.le_refl _) (fun b22 cap22 w1 hb22 hcap22 h22 e1 => ?_)
    have z1 := e1.size
    have h22s := h22.sl
    refine O.mv ?_
    refine O.lenL Tryz.underlying23 rfl ?_
    refine O.subLo Tryz.underlying23 Tryz.sizeOf25 rfl rfl (by omega) (by omega) ?_
    refine O.asg ?_
    refine O.nil ?_
    refine hK4 _ _ ?_
    refine C.seqK fun K7 hK7 => ?_
    refine C.region ?_
    refine O.mv ?_
    refine O.asg ?_
    refine O.nil ?_
    refine hK7 _ _ ?_
    refine C.ret ?_
    refine Outs.one rfl rfl ?_
    first
    | (have hf := h22
       have hq : (List.replicate m ((0, 0) : Dt.Dot)).length = m := by simp
       rw [show Value.slice (some ⟨b22, 0, none⟩) m cap22 = Value.slice (some ⟨b22, 0, none⟩) (List.replicate m ((0, 0) : Dt.Dot)).length cap22 from by rw [hq]] at hf
       exact ⟨e1, ((hf.first (k := 0) (Nat.zero_le _)).low (by omega)).lst rfl⟩)
    | exact ⟨e1, OwnF.nil _ _ _ _⟩
  ·
    refine C.skip ?_
    refine hK4 _ _ ?_
    refine C.seqK fun K8 hK8 => ?_
    refine C.region ?_
    refine O.mv ?_
    refine O.asg ?_
    refine O.nil ?_
    refine hK8 _ _ ?_
    refine C.ret ?_
    refine Outs.one rfl rfl ?_
    first
    | (have hf := {app:22}
       have hq : (List.replicate m ((0, 0) : Dt.Dot)).length = m := by simp
       rw [show Value.slice (some ⟨b22, 0, none⟩) m cap22 = Value.slice (some ⟨b22, 0, none⟩) (List.replicate m ((0, 0) : Dt.Dot)).length cap22 from by rw [hq]] at hf
       exact ⟨(Le.refl _), ((hf.first (k := 0) (Nat.zero_le _)).low (by omega)).lst rfl⟩)
    | exact ⟨(Le.refl _), OwnF.nil _ _ _ _⟩

theorem concatV_spec (v0 : Value) (ps : List (List Dt.Dot)) (F : Nat → Prop) (w : World) (hl : Sl (sliE Dt.dotF.enc) w F v0 ps) (hn : ps.flatten.length ≤ 1000000000000) :
    Ret Tryz.prog 42 #[v0] w (fun v w' => Le w w' ∧ OwnF Dt.dotF 25 w.heap.size w' v (ps.flatten)) := by
  have hle := hl.le
  obtain ⟨ie25, ti25, ts25, tb25, tz25⟩ := inf25
  refine enter (args := [v0]) (n := 36) Tryz.func42 rfl rfl (Nat.le_of_ble_eq_true rfl) ?_
  refine C.seqK fun K1 hK1 => ?_
  refine C.region ?_
  refine O.asg ?_
  refine O.nil ?_
  refine hK1 _ _ ?_
  refine C.seqK fun K2 hK2 => ?_
  refine C.region ?_
  refine O.asg ?_
  refine O.nil ?_
  refine hK2 _ _ ?_
  refine C.seqK fun K3 hK3 => ?_
  refine C.seqK fun K4 hK4 => ?_
  refine C.region ?_
  refine O.mv ?_
  refine O.len Tryz.underlying78 rfl hl ?_
  refine O.mv ?_
  refine O.nil ?_
  refine hK4 _ _ ?_
  refine C.block fun K5 hK5 => ?_
  refine C.loop0 (σ := Nat) (fun f0 w0 k f wz => f 3 = .int .i64 (((ps.take k).flatten.length : Nat)) ∧ f 11 = .int .i64 (k) ∧ f 0 = f0 0 ∧ f 2 = f0 2 ∧ f 9 = f0 9 ∧ f 10 = f0 10 ∧ Le w wz ∧ k ≤ ps.length) (fun k => ps.length - k) 0 ?_ ?_
  ·
    refine ⟨rfl, rfl, rfl, rfl, rfl, rfl, (Le.refl _), ?_⟩
    exact Nat.zero_le _
  ·
    rintro k f_1 w1 ⟨s3_1, s11_1, s0_1, s2_1, s9_1, s10_1, e_1, hk⟩
    have z_1 := e_1.size
    refine C.seqK fun K6 hK6 => ?_
    refine C.region ?_
    refine O.lssI s11_1 s10_1 ?_
    refine O.nil ?_
    refine hK6 _ _ ?_
    refine C.seqK fun K7 hK7 => ?_
    refine C.condD rfl (fun c12 => ?_) (fun c12 => ?_)
    ·
      have hk2 : k < ps.length := by omega
      have hfk := Vc.flatten_take_le ps (k + 1)
      refine C.skip ?_
      refine hK7 _ _ ?_
      refine C.seqK fun K8 hK8 => ?_
      refine C.block fun K9 hK9 => ?_
      refine C.seqK fun K10 hK10 => ?_
      refine C.region ?_
      refine O.idx Tryz.underlying78 Tryz.sizeOf23 rfl s9_1 (hl.keep e_1) s11_1 (by omega) (fun a13 h13 => ?_)
      refine O.loadSl Tryz.isAgg23 rfl h13 (fun v14 h14 => ?_)
      refine O.asg ?_
      refine O.nil ?_
      refine hK10 _ _ ?_
      refine C.seqK fun K11 hK11 => ?_
      refine C.region ?_
      refine O.mv ?_
      refine O.mv ?_
      refine O.len Tryz.underlying23 rfl h14 ?_
      refine O.addI s3_1 rfl (by have h9 := Vc.flatten_take hk2; have h8 : (ps.take (k + 1)).flatten.length = (ps.take k).flatten.length + ps[k].length := (by rw [h9, List.length_append]); simp only [Int.toNat_natCast]; unfold InI; omega) ?_
      refine O.cast (v' := .int .i64 (((ps.take (k + 1)).flatten.length : Nat) : Int)) (congrArg (Value.int .i64) (by rw [Vc.flatten_take hk2, List.length_append, Int.natCast_add]; rfl)) ?_
      refine O.asg ?_
      refine O.nil ?_
      refine hK11 _ _ ?_
      refine C.seqK fun K12 hK12 => ?_
      refine C.region ?_
      refine O.mv ?_
      refine O.lssI rfl rfl ?_
      refine O.cast (v' := .bool false) (congrArg Value.bool (by exact decide_eq_false (by omega))) ?_
      refine O.nil ?_
      refine hK12 _ _ ?_
      refine C.condF rfl ?_
      refine C.skip ?_
      refine hK9 _ _ ?_
      refine hK8 _ _ ?_
      refine C.region ?_
      refine O.addI s11_1 rfl (by unfold InI; omega) ?_
      refine O.mv ?_
      refine O.nil ?_
      refine ⟨k + 1, ⟨rfl, rfl, s0_1, s2_1, s9_1, s10_1, e_1, ?_⟩, by first | omega | (simp only []; omega)⟩
      omega
    ·
      have hfk := Vc.flatten_take_le ps k
      refine C.exit ?_
      refine hK5 _ _ ?_
      refine hK3 _ _ ?_
      refine C.seqK fun K13 hK13 => ?_
      refine C.region ?_
      refine O.mv ?_
      refine O.call Tryz.call54 (args2 rfl s3_1) (growV_spec _ _ (by omega)) ?_
      rintro v_24 w2 ⟨e2, h24⟩
      have z2 := e2.size
      have h24s := h24.sl
      refine O.asg ?_
      refine O.nil ?_
      refine hK13 _ _ ?_
      refine C.seqK fun K14 hK14 => ?_
      refine C.seqK fun K15 hK15 => ?_
      refine C.region ?_
      refine O.mv ?_
      refine O.len Tryz.underlying78 s0_1 ((hl.keep e_1).keep e2) ?_
      refine O.mv ?_
      refine O.nil ?_
      refine hK15 _ _ ?_
      refine C.block fun K16 hK16 => ?_
      refine C.loop0 (σ := Nat × Value) (fun f0 w0 ⟨k, o⟩ f wz => f 6 = o ∧ f 27 = .int .i64 (k) ∧ f 2 = f0 2 ∧ f 25 = f0 25 ∧ f 26 = f0 26 ∧ Le w wz ∧ OwnF Dt.dotF 25 w.heap.size wz o ((ps.take k).flatten) ∧ k ≤ ps.length) (fun ⟨k, o⟩ => ps.length - k) (0, v_24) ?_ ?_
      ·
        refine ⟨rfl, rfl, rfl, rfl, rfl, (Ext.trans e_1 e2), (h24.low (by omega)), ?_⟩
        exact Nat.zero_le _
      ·
        rintro ⟨k, o⟩ f_2 w3 ⟨s6_2, s27_2, s2_2, s25_2, s26_2, e_2, r0_2, hk⟩
        have z_2 := e_2.size
        have r0_2s := r0_2.sl
        refine C.seqK fun K17 hK17 => ?_
        refine C.region ?_
        refine O.lssI s27_2 s26_2 ?_
        refine O.nil ?_
        refine hK17 _ _ ?_
        refine C.seqK fun K18 hK18 => ?_
        refine C.condD rfl (fun c28 => ?_) (fun c28 => ?_)
        ·
          have hk2 : k < ps.length := by omega
          have hfk := Vc.flatten_take_le ps (k + 1)
          rw [Vc.flatten_take hk2, List.length_append] at hfk
          refine C.skip ?_
          refine hK18 _ _ ?_
          refine C.seqK fun K19 hK19 => ?_
          refine C.block fun K20 hK20 => ?_
          refine C.seqK fun K21 hK21 => ?_
          refine C.region ?_
          refine O.idx Tryz.underlying78 Tryz.sizeOf23 rfl (Eq.trans s25_2 s0_1) (hl.keep e_2) s27_2 (by omega) (fun a29 h29 => ?_)
          refine O.loadSl Tryz.isAgg23 rfl h29 (fun v30 h30 => ?_)
          refine O.asg ?_
          refine O.nil ?_
          refine hK21 _ _ ?_
          refine C.region ?_
          refine O.mv ?_
          refine O.mv ?_
          refine O.appF (G := Dt.dotF) Tryz.underlying23 ti25 tz25 ts25 rfl s6_2 rfl r0_2 h30 (by rw [tb25]; simp only [Int.toNat_natCast]; omega) (by unfold maxLen; simp only [Int.toNat_natCast]; omega) (by omega) (fun v33 w4 h33 e4 => ?_)
          have z4 := e4.size
          have h33s := h33.sl
          refine O.asg ?_
          refine O.nil ?_
          refine hK20 _ _ ?_
          refine hK19 _ _ ?_
          refine C.region ?_
          refine O.addI s27_2 rfl (by unfold InI; omega) ?_
          refine O.mv ?_
          refine O.nil ?_
          refine ⟨(k + 1, _), ⟨rfl, rfl, s2_2, s25_2, s26_2, (Ext.new e_2 e4 (by intro i hi h; have := r0_2.bk_ge i h; omega)), (h33.lst (Vc.flatten_take hk2).symm), ?_⟩, by first | omega | (simp only []; omega)⟩
          omega
        ·
          refine C.exit ?_
          refine hK16 _ _ ?_
          refine hK14 _ _ ?_
          refine C.seqK fun K22 hK22 => ?_
          refine C.region ?_
          refine O.mv ?_
          refine O.asg ?_
          refine O.nil ?_
          refine hK22 _ _ ?_
          refine C.ret ?_
          refine Outs.one rfl s6_2 ?_
          obtain rfl : k = ps.length := by omega
          rw [List.take_length] at r0_2
          exact ⟨e_2, r0_2⟩

theorem equalV_spec (v0 : Value) (a : List Dt.Dot) (v1 : Value) (b : List Dt.Dot) (F F2 : Nat → Prop) (w : World) (ha : Sl Dt.dotF.enc w F v0 a) (hb : Sl Dt.dotF.enc w F2 v1 b) :
    Ret Tryz.prog 47 #[v0, v1] w (fun v w' => v = .bool (decide (a = b)) ∧ Le w w') := by
  have hale := ha.le
  have hble := hb.le
  refine enter (args := [v0, v1]) (n := 26) Tryz.func47 rfl rfl (Nat.le_of_ble_eq_true rfl) ?_
  refine C.seqK fun K1 hK1 => ?_
  refine C.region ?_
  refine O.asg ?_
  refine O.nil ?_
  refine hK1 _ _ ?_
  refine C.seqK fun K2 hK2 => ?_
  refine C.seqK fun K3 hK3 => ?_
  refine C.region ?_
  refine O.mv ?_
  refine O.len Tryz.underlying23 rfl ha ?_
  refine O.mv ?_
  refine O.len Tryz.underlying23 rfl hb ?_
  refine O.neqI rfl rfl ?_
  refine O.nil ?_
  refine hK3 _ _ ?_
  refine C.condD rfl (fun c10 => ?_) (fun c10 => ?_)
  ·
    refine C.seqK fun K4 hK4 => ?_
    refine C.region ?_
    refine O.asg ?_
    refine O.nil ?_
    refine hK4 _ _ ?_
    refine C.ret ?_
    refine Outs.one rfl rfl ?_
    first
    | exact ⟨congrArg Value.bool (decide_eq_false (fun h => c10 (congrArg (fun l : List Dt.Dot => (l.length : Int)) h))).symm, (Le.refl _)⟩
    | exact ⟨congrArg Value.bool (decide_eq_false (fun h => c24 (by simp only [h]))).symm, (Le.refl _)⟩
    | (have hk2 : k = a.length := by omega
       subst hk2
       rw [List.take_length, List.take_of_length_le (by omega)] at hI
       exact ⟨congrArg Value.bool (decide_eq_true hI).symm, (Le.refl _)⟩)
  ·
    have hlen : a.length = b.length := by omega
    refine C.skip ?_
    refine hK2 _ _ ?_
    refine C.seqK fun K5 hK5 => ?_
    refine C.seqK fun K6 hK6 => ?_
    refine C.region ?_
    refine O.mv ?_
    refine O.len Tryz.underlying23 rfl ha ?_
    refine O.mv ?_
    refine O.nil ?_
    refine hK6 _ _ ?_
    refine C.block fun K7 hK7 => ?_
    refine C.loop0 (σ := Nat) (fun f0 w0 k f wz => f 13 = .int .i64 (k) ∧ f 0 = f0 0 ∧ f 1 = f0 1 ∧ f 12 = f0 12 ∧ Le w wz ∧ k ≤ a.length ∧ a.take k = b.take k) (fun k => a.length - k) 0 ?_ ?_
    ·
      refine ⟨rfl, rfl, rfl, rfl, (Le.refl _), ?_⟩
      exact ⟨Nat.zero_le _, rfl⟩
    ·
      rintro k f_1 w1 ⟨s13_1, s0_1, s1_1, s12_1, e_1, ⟨hk, hI⟩⟩
      have z_1 := e_1.size
      refine C.seqK fun K8 hK8 => ?_
      refine C.region ?_
      refine O.lssI s13_1 s12_1 ?_
      refine O.nil ?_
      refine hK8 _ _ ?_
      refine C.seqK fun K9 hK9 => ?_
      refine C.condD rfl (fun c14 => ?_) (fun c14 => ?_)
      ·
        refine C.skip ?_
        refine hK9 _ _ ?_
        refine C.seqK fun K10 hK10 => ?_
        refine C.block fun K11 hK11 => ?_
        refine C.seqK fun K12 hK12 => ?_
        refine C.region ?_
        refine O.mv ?_
        refine O.asg ?_
        refine O.nil ?_
        refine hK12 _ _ ?_
        refine C.seqK fun K13 hK13 => ?_
        refine C.draw (by kernel_rfl) fun w2 e2 => ?_
        have z2 := e2.size
        refine D.take (i := 0) rfl rfl rfl rfl (by kernel_rfl) (Le.refl _) ⟨pure _, rfl⟩ (fun w_ hw_ N_ hN => (O.mv (O.nil hN))) ?_
        refine D.take (i := 1) rfl rfl rfl rfl (by kernel_rfl) (Le.refl _) ⟨pure _, rfl⟩ (fun w_ hw_ N_ hN => (O.mv (O.nil hN))) ?_
        obtain ⟨a18, h18, hr18⟩ := Sl.at (i := (k : Int)) (P := Tryz.prog) Tryz.underlying23 Tryz.sizeOf25 rfl ((ha.keep e_1).keep e2) (by omega)
        refine D.take (i := 2) rfl rfl rfl rfl (by kernel_rfl) (Le.refl _) ⟨_, rfl⟩ (fun w_ hw_ N_ hN => (O.idxR s0_1 s13_1 hr18 (O.nil hN))) ?_
        refine D.take (i := 3) rfl rfl rfl rfl (by kernel_rfl) (Le.refl _) ⟨_, rfl⟩ (fun w_ hw_ N_ hN => (O.loadG (G := Dt.dotF) Tryz.isAgg25 Tryz.sizeOf25 rfl (h18.keep hw_) (O.nil hN))) ?_
        refine D.take (i := 4) rfl rfl rfl rfl (by kernel_rfl) (Le.refl _) ⟨pure _, rfl⟩ (fun w_ hw_ N_ hN => (O.mv (O.nil hN))) ?_
        refine D.take (i := 5) rfl rfl rfl rfl (by kernel_rfl) (Le.refl _) ⟨pure _, rfl⟩ (fun w_ hw_ N_ hN => (O.mv (O.nil hN))) ?_
        obtain ⟨a22, h22, hr22⟩ := Sl.at (i := (k : Int)) (P := Tryz.prog) Tryz.underlying23 Tryz.sizeOf25 rfl ((hb.keep e_1).keep e2) (by omega)
        refine D.take (i := 6) rfl rfl rfl rfl (by kernel_rfl) (Le.refl _) ⟨_, rfl⟩ (fun w_ hw_ N_ hN => (O.idxR s1_1 s13_1 hr22 (O.nil hN))) ?_
        refine D.take (i := 7) rfl rfl rfl rfl (by kernel_rfl) (Le.refl _) ⟨_, rfl⟩ (fun w_ hw_ N_ hN => (O.loadG (G := Dt.dotF) Tryz.isAgg25 Tryz.sizeOf25 rfl (h22.keep hw_) (O.nil hN))) ?_
        refine D.take (i := 8) rfl rfl rfl rfl (by kernel_rfl) (Le.refl _) ⟨_, rfl⟩ (fun w_ hw_ N_ hN => (O.neqP Tryz.underlying25 (by decide) (by decide) rfl rfl Tryz.underlying3 Tryz.underlying3 Tryz.isAgg3 Tryz.isAgg3 (by kernel_rfl) (by kernel_rfl) rfl rfl (O.nil hN))) ?_
        refine D.done (by kernel_rfl) ?_
        refine hK13 _ _ ?_
        refine C.condD rfl (fun c24 => ?_) (fun c24 => ?_)
        ·
          refine C.seqK fun K14 hK14 => ?_
          refine C.region ?_
          refine O.asg ?_
          refine O.nil ?_
          refine hK14 _ _ ?_
          refine C.ret ?_
          refine Outs.one rfl rfl ?_
          first
          | exact ⟨congrArg Value.bool (decide_eq_false (fun h => c10 (congrArg (fun l : List Dt.Dot => (l.length : Int)) h))).symm, (Ext.trans e_1 e2)⟩
          | exact ⟨congrArg Value.bool (decide_eq_false (fun h => c24 (by simp only [h]))).symm, (Ext.trans e_1 e2)⟩
          | (have hk2 : k = a.length := by omega
             subst hk2
             rw [List.take_length, List.take_of_length_le (by omega)] at hI
             exact ⟨congrArg Value.bool (decide_eq_true hI).symm, (Ext.trans e_1 e2)⟩)
        ·
          refine C.skip ?_
          refine hK11 _ _ ?_
          refine hK10 _ _ ?_
          refine C.region ?_
          refine O.addI s13_1 rfl (by unfold InI; omega) ?_
          refine O.mv ?_
          refine O.nil ?_
          refine ⟨k + 1, ⟨rfl, s0_1, s1_1, s12_1, (Ext.trans e_1 e2), ?_⟩, by first | omega | (simp only []; omega)⟩
          have hka : k < a.length := by omega
          have hkb : k < b.length := by omega
          have hq : a[k] = b[k] := Decidable.of_not_not c24
          refine ⟨by omega, ?_⟩
          rw [List.take_succ_eq_append_getElem hka, List.take_succ_eq_append_getElem hkb, hI, hq]
      ·
        refine C.exit ?_
        refine hK7 _ _ ?_
        refine hK5 _ _ ?_
        refine C.seqK fun K15 hK15 => ?_
        refine C.region ?_
        refine O.asg ?_
        refine O.nil ?_
        refine hK15 _ _ ?_
        refine C.ret ?_
        refine Outs.one rfl rfl ?_
        first
        | exact ⟨congrArg Value.bool (decide_eq_false (fun h => c10 (congrArg (fun l : List Dt.Dot => (l.length : Int)) h))).symm, e_1⟩
        | exact ⟨congrArg Value.bool (decide_eq_false (fun h => c24 (by simp only [h]))).symm, e_1⟩
        | (have hk2 : k = a.length := by omega
           subst hk2
           rw [List.take_length, List.take_of_length_le (by omega)] at hI
           exact ⟨congrArg Value.bool (decide_eq_true hI).symm, e_1⟩)

theorem mcmp_spec (a b : Dt.Dot) (w : World) :
    Ret Tryz.prog 52 #[Dt.dv (a), Dt.dv (b)] w (fun v w' => v = .int .i64 (Dt.icmp a.1 b.1) ∧ Le w w' ∧ w.drawn ≤ w'.drawn) := by
  refine enter (args := [Dt.dv (a), Dt.dv (b)]) (n := 10) Tryz.func52 rfl rfl (Nat.le_of_ble_eq_true rfl) ?_
  refine C.seqK fun K1 hK1 => ?_
  refine C.region ?_
  refine O.boxD (v := Dt.dv (a)) rfl (fun b2 w1 hb2 hz2 e1 d1 => ?_)
  have z1 := e1.size
  have h2 := hz2.own
  have hl2 := h2.lt
  refine O.boxD (v := Dt.dv (b)) rfl (fun b3 w2 hb3 hz3 e2 d2 => ?_)
  have z2 := e2.size
  have h3 := hz3.own
  have hl3 := h3.lt
  refine O.asg ?_
  refine O.nil ?_
  refine hK1 _ _ ?_
  refine C.seqK fun K2 hK2 => ?_
  refine C.region ?_
  refine O.fieldAd Tryz.underlying25 rfl Tryz.sizeOf3 (by decide) rfl ?_
  refine O.loadO Tryz.isAgg3 rfl (h2.keep e2) rfl ?_
  refine O.fieldAd Tryz.underlying25 rfl Tryz.sizeOf3 (by decide) rfl ?_
  refine O.loadO Tryz.isAgg3 rfl h3 rfl ?_
  refine O.call Tryz.call53 (args2 rfl rfl) (icmp_spec a.1 b.1 _) ?_
  rintro v_9 w3 ⟨rfl, hw_⟩
  replace hw_ := hw_.symm
  subst hw_
  refine O.asg ?_
  refine O.nil ?_
  refine hK2 _ _ ?_
  refine C.ret ?_
  refine Outs.one rfl rfl ?_
  exact ⟨rfl, (Ext.trans e1 e2), by omega⟩

end Go.Proofs.YtbmbaajfkmejgaaGreatDoor
end
section
/-
  DERIVED: THE SHELF's CONTRACTS AT THIS DUMP, IN PLAIN WORDS (tools/lay-plain.mjs out of 'TrydSort.lean', which tools/lay-shelf.mjs wrote): THE SAME DECLARATIONS UNDER THE SAME NAMES: 'import', 'namespace', 'open', 'def', 'theorem' AND NOTHING ELSE: no command of the shelf's: FOR A HAND-IN. Each laying: the table of numbers ('.._ren') and one theorem, a field a fact of the dump's own or the kernel's comparison; each contract: ONE APPLICATION.
-/
namespace Go.Proofs
open Go.Shelf
def Tryz.sortF_ren : Go.Shelf.Ren := ⟨fun | 15 => 64 | 14 => 63 | 28 => 80 | 29 => 81 | 20 => 72 | 21 => 73 | 22 => 74 | 23 => 75 | 24 => 76 | 25 => 77 | 26 => 78 | 27 => 79 | 46 => 91 | 47 => 92 | 48 => 93 | 49 => 94 | 50 => 95 | 57 => 104 | n => n, fun | 22 => 22 | 24 => 25 | 25 => 77 | 3 => 3 | 39 => 100 | 0 => 0 | 53 => 115 | 55 => 117 | 4 => 4 | 46 => 108 | 45 => 107 | 50 => 112 | 5 => 5 | 9 => 9 | 66 => 126 | 70 => 130 | 76 => 139 | 77 => 140 | n => n, fun | n => n⟩
theorem Tryz.sortF : Go.Proofs.SlLaysF0.n14 Tryz.prog Tryz.sortF_ren := {
  mixed := by kernel_rfl
  f14 := ⟨Tryz.f63.name, by decide, Tryz.func63.trans (congrArg some (by kernel_rfl))⟩
  f15 := Tryz.func64.trans (congrArg some (by kernel_rfl))
  f20 := ⟨Tryz.f72.name, by decide, Tryz.func72.trans (congrArg some (by kernel_rfl))⟩
  f21 := ⟨Tryz.f73.name, by decide, Tryz.func73.trans (congrArg some (by kernel_rfl))⟩
  f22 := ⟨Tryz.f74.name, by decide, Tryz.func74.trans (congrArg some (by kernel_rfl))⟩
  f23 := ⟨Tryz.f75.name, by decide, Tryz.func75.trans (congrArg some (by kernel_rfl))⟩
  f24 := ⟨Tryz.f76.name, by decide, Tryz.func76.trans (congrArg some (by kernel_rfl))⟩
  f25 := ⟨Tryz.f77.name, by decide, Tryz.func77.trans (congrArg some (by kernel_rfl))⟩
  f26 := ⟨Tryz.f78.name, by decide, Tryz.func78.trans (congrArg some (by kernel_rfl))⟩
  f27 := ⟨Tryz.f79.name, by decide, Tryz.func79.trans (congrArg some (by kernel_rfl))⟩
  f28 := Tryz.func80.trans (congrArg some (by kernel_rfl))
  f29 := Tryz.func81.trans (congrArg some (by kernel_rfl))
  f46 := ⟨Tryz.f91.name, by decide, Tryz.func91.trans (congrArg some (by kernel_rfl))⟩
  f47 := Tryz.func92.trans (congrArg some (by kernel_rfl))
  f48 := Tryz.func93.trans (congrArg some (by kernel_rfl))
  f49 := ⟨Tryz.f94.name, by decide, Tryz.func94.trans (congrArg some (by kernel_rfl))⟩
  f50 := ⟨Tryz.f95.name, by decide, Tryz.func95.trans (congrArg some (by kernel_rfl))⟩
  f57 := ⟨Tryz.f104.name, by decide, Tryz.func104.trans (congrArg some (by kernel_rfl))⟩
  t0 := Tryz.underlying0
  a0 := Tryz.isAgg0
  z0 := Tryz.sizeOf0
  v0 := Tryz.zeroValue0
  t3 := Tryz.underlying3
  a3 := Tryz.isAgg3
  z3 := Tryz.sizeOf3
  v3 := Tryz.zeroValue3
  t4 := Tryz.underlying4
  a4 := Tryz.isAgg4
  z4 := Tryz.sizeOf4
  v4 := Tryz.zeroValue4
  t5 := Tryz.underlying5
  a5 := Tryz.isAgg5
  z5 := Tryz.sizeOf5
  v5 := Tryz.zeroValue5
  t9 := Tryz.underlying9
  a9 := Tryz.isAgg9
  z9 := Tryz.sizeOf9
  v9 := Tryz.zeroValue9
  t22 := Tryz.underlying22
  a22 := Tryz.isAgg22
  z22 := Tryz.sizeOf22
  v22 := Tryz.zeroValue22
  t25 := Tryz.underlying77
  a25 := Tryz.isAgg77
  z25 := Tryz.sizeOf77
  v25 := Tryz.zeroValue77
  t39 := Tryz.underlying100
  a39 := Tryz.isAgg100
  z39 := Tryz.sizeOf100
  v39 := Tryz.zeroValue100
  t45 := Tryz.underlying107
  a45 := Tryz.isAgg107
  z45 := Tryz.sizeOf107
  v45 := Tryz.zeroValue107
  t46 := Tryz.underlying108
  a46 := Tryz.isAgg108
  z46 := Tryz.sizeOf108
  v46 := Tryz.zeroValue108
  t50 := Tryz.underlying112
  a50 := Tryz.isAgg112
  z50 := Tryz.sizeOf112
  v50 := Tryz.zeroValue112
  t53 := Tryz.underlying115
  a53 := Tryz.isAgg115
  z53 := Tryz.sizeOf115
  v53 := Tryz.zeroValue115
  t55 := Tryz.underlying117
  a55 := Tryz.isAgg117
  z55 := Tryz.sizeOf117
  v55 := Tryz.zeroValue117
  t66 := Tryz.underlying126
  a66 := Tryz.isAgg126
  z66 := Tryz.sizeOf126
  v66 := Tryz.zeroValue126
  t70 := Tryz.underlying130
  a70 := Tryz.isAgg130
  z70 := Tryz.sizeOf130
  v70 := Tryz.zeroValue130
  t76 := Tryz.underlying139
  a76 := Tryz.isAgg139
  z76 := Tryz.sizeOf139
  v76 := Tryz.zeroValue139
  t77 := Tryz.underlying140
  a77 := Tryz.isAgg140
  z77 := Tryz.sizeOf140
  v77 := Tryz.zeroValue140 }
end Go.Proofs
end
section
/-
  The walks of vectors: sorted by replica, made, merged, ordered. Conditions: slices as they lie in memory.
-/
namespace Go.Proofs.YtbmbaajfkmejgaaGreatDoor
open Go.Pn Go.RowKit Go.Proofs Go.Sort


theorem tup2 {a b c d : Int} (h1 : a = c) (h2 : b = d) : Value.tuple #[.int .i64 a, .int .i64 b] = Value.tuple #[.int .i64 c, .int .i64 d] := by rw [h1, h2]
def lessR (a b : Dt.Dot) : Int := Dt.icmp a.1 b.1
theorem lessR_lt (a b : Dt.Dot) : lessR a b < 0 ↔ a.1 < b.1 := by
  unfold lessR Dt.icmp
  split
  · rename_i h
    exact ⟨fun _ => h, fun _ => by decide⟩
  · split
    · rename_i h1 h2
      exact ⟨fun h => absurd h (by decide), fun h => absurd h h1⟩
    · rename_i h1 h2
      exact ⟨fun h => absurd h (by decide), fun h => absurd h h1⟩
theorem swoR : Go.Sort.SWO (ltOf lessR) where
  irrefl x := by unfold ltOf; exact decide_eq_false (fun h => by have := (lessR_lt x x).1 h; omega)
  trans x y z h1 h2 := by
    unfold ltOf at *
    simp only [decide_eq_true_eq, lessR_lt] at *
    omega
  ntrans x y z h1 h2 := by
    unfold ltOf at *
    simp only [decide_eq_false_iff_not, lessR_lt] at *
    omega
theorem pdqR_spec (g cap lim : Nat) (l : List Dt.Dot) (B : Nat) (w : World) (h : OwnF Dt.dotF 25 B w (.slice (some ⟨g, 0, none⟩) l.length cap) l) (hn : l.length ≤ 1000000000) (hlim : lim = Lib.bitLen l.length) :
    Ret Tryz.prog 63 #[.slice (some ⟨g, 0, none⟩) l.length cap, .int .i64 0, .int .i64 (l.length : Int), .int .i64 (lim : Int), .func (.func 52) #[] #[]] w (fun r w' => r = .tuple #[] ∧ (∃ l' : List Dt.Dot, OwnF Dt.dotF 25 B w' (.slice (some ⟨g, 0, none⟩) l.length cap) l' ∧ l'.Perm l ∧ l'.Pairwise (fun a b => a.1 ≤ b.1)) ∧ Ext (fun k => k = g) w w') := by
  obtain ⟨hH, hlt⟩ := h.holdsK
  have eg : ∀ args w, (callFunc 52 args).run Tryz.prog w = .ok (.enter 52 args) w := enters_of Tryz.func52 (by kernel_rfl) rfl
  have hcmp : CmpLays Tryz.prog 52 #[] Dt.dotF.e Dt.dotF.sz lessR g 0 l.toArray.size w := fun m os dk hs x y =>
    (mcmp_spec x y _).calls.mono fun e w' hh => by
      obtain ⟨v, he, hv, hle, hd⟩ := hh
      exact ⟨by rw [he, hv]; rfl, grow_of_le hle hd⟩
  have hs : l.toArray.size < 4611686018427387904 := by simp; omega
  have hl2 : lim < 4611686018427387904 := by
    rw [hlim]
    exact Nat.lt_of_le_of_lt (Lib.bitLen_le l.length 62 (by omega) (by omega)) (by omega)
  have hcon := AnyQ.pdqsortCmpFunc_all Tryz.sortF Dt.dotF.sz Tryz.isAgg25 Tryz.sizeOf25 Dt.dotF.e lessR 52 #[] swoR g 0 cap l.toArray w eg hcmp ⟨Dt.dotF.len, Dt.dotF.one, hH, hlt⟩ (l.toArray.size + 1) 0 l.toArray.size lim l.toArray w (by omega) rfl (SWK.start hH) (Nat.zero_le _) (Nat.le_refl _) hs hl2 (Or.inl rfl)
  refine Ret.of hcon ?_
  rintro e w' ⟨rfl, m, os, rfl⟩
  obtain ⟨hp, hso⟩ := pdq_sorts (ltOf lessR) swoR l.toArray 0 l.toArray.size lim true true (Nat.zero_le _) (Nat.le_refl _) (Or.inl rfl)
  obtain ⟨d', hd'⟩ : ∃ d', d' = pdq (ltOf lessR) l.toArray 0 l.toArray.size lim true true := ⟨_, rfl⟩
  rw [← hd'] at hp hso
  rw [show pdq (ltOf lessR) l.toArray 0 l.toArray.size lim true true = d' from hd'.symm]
  obtain ⟨hd, _, hperm⟩ := hp
  have hd2 : d'.size = l.length := by simpa using hd
  obtain ⟨h1, h2⟩ := h.sortedK hd2 m os
  refine ⟨_, rfl, rfl, ⟨d'.toList, h1, ?_, ?_⟩, h2⟩
  · have e1 : (l.toArray.extract 0 l.toArray.size).toList = l := by simp
    have e2 : (d'.extract 0 l.toArray.size).toList = d'.toList := by rw [← hd]; simp
    rw [e1, e2] at hperm
    exact hperm
  · rw [List.pairwise_iff_getElem]
    intro i j hi hj hij
    have hi2 : i < d'.size := by simpa using hi
    have hj2 : j < d'.size := by simpa using hj
    have h3 := hso i j (Nat.zero_le _) hij (by simpa [hd2] using hj)
    unfold ltOf at h3
    simp only [decide_eq_false_iff_not] at h3
    rw [lessR_lt, getElem!_pos d' i hi2, getElem!_pos d' j hj2] at h3
    have h4 : ¬ (d'.toList[j]).1 < (d'.toList[i]).1 := by simpa using h3
    omega


theorem blenN_spec (m : Nat) (w : World) (hm : m ≤ 1000000000) : Ret Tryz.prog 64 #[.int .u64 (m : Int)] w (fun v w' => v = .int .i64 ((Lib.bitLen m : Nat) : Int) ∧ w' = w) := by
  refine Ret.of (Tryz.bits_Len (m : Int) w (by omega) (by omega)) ?_
  rintro e w' ⟨rfl, rfl⟩
  exact ⟨_, rfl, by rw [Int.toNat_natCast], rfl⟩

theorem ins0_spec (w : World) :
    Ret Tryz.prog 72 #[.slice none 0 0, .int .i64 (0), .int .i64 (0), .func (.func 52) #[] #[]] w (fun v w' => v = .tuple #[] ∧ w' = w) := by
  refine enter (args := [.slice none 0 0, .int .i64 (0), .int .i64 (0), .func (.func 52) #[] #[]]) (n := 53) Tryz.func72 rfl rfl (Nat.le_of_ble_eq_true rfl) ?_
  refine C.seqK fun K1 hK1 => ?_
  refine C.region ?_
  refine O.mv ?_
  refine O.addI rfl rfl (by unfold InI; omega) ?_
  refine O.cast (v' := .int .i64 (1)) rfl ?_
  refine O.asg ?_
  refine O.nil ?_
  refine hK1 _ _ ?_
  refine C.block fun K2 hK2 => ?_
  refine C.loop0 (σ := Nat) (fun f0 w0 z f w => f 8 = .int .i64 (1) ∧ f 0 = f0 0 ∧ f 1 = f0 1 ∧ f 2 = f0 2 ∧ f 3 = f0 3 ∧ w = w0) (fun z => z) 0 ?_ ?_
  ·
    exact ⟨rfl, rfl, rfl, rfl, rfl, rfl⟩
  ·
    rintro z f_1 wx ⟨s8_1, s0_1, s1_1, s2_1, s3_1, rfl⟩
    refine C.seqK fun K3 hK3 => ?_
    refine C.seqK fun K4 hK4 => ?_
    refine C.region ?_
    refine O.mv ?_
    refine O.mv ?_
    refine O.lssI s8_1 s2_1 ?_
    refine O.cast (v' := .bool false) rfl ?_
    refine O.nil ?_
    refine hK4 _ _ ?_
    refine C.condF rfl ?_
    refine C.exit ?_
    refine hK2 _ _ ?_
    refine Outs.none rfl ?_
    exact ⟨rfl, rfl⟩

theorem pdq0_spec (lim : Int) (w : World) :
    Ret Tryz.prog 63 #[.slice none 0 0, .int .i64 (0), .int .i64 (0), .int .i64 (lim), .func (.func 52) #[] #[]] w (fun v w' => v = .tuple #[] ∧ w' = w) := by
  refine enter (args := [.slice none 0 0, .int .i64 (0), .int .i64 (0), .int .i64 (lim), .func (.func 52) #[] #[]]) (n := 148) Tryz.func63 rfl rfl (Nat.le_of_ble_eq_true rfl) ?_
  refine C.seqK fun K1 hK1 => ?_
  refine C.region ?_
  refine O.asg ?_
  refine O.nil ?_
  refine hK1 _ _ ?_
  refine C.seqK fun K2 hK2 => ?_
  refine C.region ?_
  refine O.asg ?_
  refine O.nil ?_
  refine hK2 _ _ ?_
  refine C.block fun K3 hK3 => ?_
  refine C.loop0 (σ := Nat) (fun f0 w0 z f w => f 1 = .int .i64 (0) ∧ f 2 = .int .i64 (0) ∧ f 10 = .bool (true) ∧ f 11 = .bool (true) ∧ f 0 = f0 0 ∧ f 4 = f0 4 ∧ w = w0) (fun z => z) 0 ?_ ?_
  ·
    exact ⟨rfl, rfl, rfl, rfl, rfl, rfl, rfl⟩
  ·
    rintro z f_1 wx ⟨s1_1, s2_1, s10_1, s11_1, s0_1, s4_1, rfl⟩
    refine C.block fun K4 hK4 => ?_
    refine C.seqK fun K5 hK5 => ?_
    refine C.region ?_
    refine O.mv ?_
    refine O.mv ?_
    refine O.subI s2_1 s1_1 (by unfold InI; omega) ?_
    refine O.cast (v' := .int .i64 (0)) rfl ?_
    refine O.asg ?_
    refine O.nil ?_
    refine hK5 _ _ ?_
    refine C.seqK fun K6 hK6 => ?_
    refine C.seqK fun K7 hK7 => ?_
    refine C.region ?_
    refine O.mv ?_
    refine O.leqI rfl rfl ?_
    refine O.cast (v' := .bool true) rfl ?_
    refine O.nil ?_
    refine hK7 _ _ ?_
    refine C.condT rfl ?_
    refine C.seqK fun K8 hK8 => ?_
    refine C.region ?_
    refine O.mv ?_
    refine O.mv ?_
    refine O.mv ?_
    refine O.mv ?_
    refine O.call Tryz.call72 (args4 s0_1 s1_1 s2_1 s4_1) (ins0_spec _) ?_
    rintro v_30 w1 ⟨rfl, hw_⟩
    replace hw_ := hw_.symm
    subst hw_
    refine O.nil ?_
    refine hK8 _ _ ?_
    refine C.ret ?_
    refine Outs.none rfl ?_
    exact ⟨rfl, rfl⟩

theorem sort0_spec (w : World) :
    Ret Tryz.prog 51 #[.slice none 0 0, .func (.func 52) #[] #[]] w (fun v w' => v = .tuple #[] ∧ w' = w) := by
  refine enter (args := [.slice none 0 0, .func (.func 52) #[] #[]]) (n := 14) Tryz.func51 rfl rfl (Nat.le_of_ble_eq_true rfl) ?_
  refine C.seqK fun K1 hK1 => ?_
  refine C.region ?_
  refine O.mv ?_
  refine O.lenL Tryz.underlying23 rfl ?_
  refine O.cast (v' := .int .i64 0) rfl ?_
  refine O.asg ?_
  refine O.nil ?_
  refine hK1 _ _ ?_
  refine C.region ?_
  refine O.mv ?_
  refine O.mv ?_
  refine O.mv ?_
  refine O.convIU (m' := 64) Tryz.underlying3 Tryz.underlying100 rfl rfl rfl ?_
  refine O.cast (v' := .int .u64 ((0#64).toNat : Int)) rfl ?_
  refine O.call Tryz.call64 (args1 rfl) (blen_spec _) ?_
  rintro v_11 w1 ⟨⟨kv11, rfl⟩, rfl⟩
  refine O.mv ?_
  refine O.call Tryz.call63 (args5 rfl rfl rfl rfl rfl) (pdq0_spec _ _) ?_
  rintro v_13 w1 ⟨rfl, hw_⟩
  replace hw_ := hw_.symm
  subst hw_
  refine O.nil ?_
  refine Outs.none rfl ?_
  exact ⟨rfl, rfl⟩

theorem sort1_spec (g cap : Nat) (l : List Dt.Dot) (B : Nat) (w : World) (h : OwnF Dt.dotF 25 B w (.slice (some ⟨g, 0, none⟩) l.length cap) l) (hn : l.length ≤ 1000000000) :
    Ret Tryz.prog 51 #[.slice (some ⟨g, 0, none⟩) l.length cap, .func (.func 52) #[] #[]] w (fun v w' => v = .tuple #[] ∧ (∃ l' : List Dt.Dot, OwnF Dt.dotF 25 B w' (.slice (some ⟨g, 0, none⟩) l.length cap) l' ∧ l'.Perm l ∧ l'.Pairwise (fun a b => a.1 ≤ b.1)) ∧ Ext (fun k => k = g) w w') := by
  refine enter (args := [.slice (some ⟨g, 0, none⟩) l.length cap, .func (.func 52) #[] #[]]) (n := 14) Tryz.func51 rfl rfl (Nat.le_of_ble_eq_true rfl) ?_
  refine C.seqK fun K1 hK1 => ?_
  refine C.region ?_
  refine O.mv ?_
  refine O.lenL Tryz.underlying23 rfl ?_
  refine O.asg ?_
  refine O.nil ?_
  refine hK1 _ _ ?_
  refine C.region ?_
  refine O.mv ?_
  refine O.mv ?_
  refine O.mv ?_
  refine O.convIU (m' := 64) Tryz.underlying3 Tryz.underlying100 rfl rfl rfl ?_
  refine O.cast (v' := .int .u64 ((l.length : Nat) : Int)) (congrArg (Value.int .u64) (by rw [BitVec.toNat_ofInt]; omega)) ?_
  refine O.call Tryz.call64 (args1 rfl) (blenN_spec l.length _ (by omega)) ?_
  rintro v_11 w1 ⟨rfl, hw_⟩
  replace hw_ := hw_.symm
  subst hw_
  refine O.mv ?_
  refine O.call Tryz.call63 (args5 rfl rfl rfl rfl rfl) (pdqR_spec g cap _ l B _ h hn rfl) ?_
  rintro v_13 w1 ⟨rfl, hsv13, e1⟩
  have z1 := e1.size
  refine O.nil ?_
  refine Outs.none rfl ?_
  exact ⟨rfl, hsv13, (Ext.new (Ext.refl _ _) e1 (by intro i hi hk; first | exact hk.elim | ((try dsimp only at hk); (try dsimp only); omega)))⟩


theorem sortV_spec (v : Value) (l : List Dt.Dot) (B : Nat) (w : World) (h : OwnF Dt.dotF 25 B w v l) (hn : l.length ≤ 1000000000) :
    Ret Tryz.prog 51 #[v, .func (.func 52) #[] #[]] w (fun r w' => r = .tuple #[] ∧ (∃ l' : List Dt.Dot, OwnF Dt.dotF 25 B w' v l' ∧ l'.Perm l ∧ l'.Pairwise (fun a b => a.1 ≤ b.1)) ∧ Ext (bk v) w w') := by
  rcases h.1.2 with ⟨rfl, h0⟩ | ⟨g, cap, cur, rfl, _⟩
  · obtain rfl : l = [] := List.eq_nil_of_length_eq_zero h0
    refine (sort0_spec w).mono ?_
    rintro e w' ⟨rfl, rfl⟩
    exact ⟨rfl, ⟨[], h, List.Perm.refl _, List.Pairwise.nil⟩, Ext.refl _ _⟩
  · exact sort1_spec g cap l B w h hn

set_option maxHeartbeats 4000000 in
theorem made_spec (v0 : Value) (l : List Dt.Dot) (F : Nat → Prop) (w : World) (hl : Sl Dt.dotF.enc w F v0 l) (hv : ∀ d ∈ l, Dt.Valid d) (hn : l.length ≤ 1000000000) :
    Ret Tryz.prog 41 #[v0] w (fun v w' => Le w w' ∧ OwnF Dt.dotF 25 w.heap.size w' v (Vc.of l)) := by
  have hle := hl.le
  obtain ⟨ie25, ti25, ts25, tb25, tz25⟩ := inf25
  refine enter (args := [v0]) (n := 43) Tryz.func41 rfl rfl (Nat.le_of_ble_eq_true rfl) ?_
  refine C.seqK fun K1 hK1 => ?_
  refine C.region ?_
  refine O.asg ?_
  refine O.nil ?_
  refine hK1 _ _ ?_
  refine C.seqK fun K2 hK2 => ?_
  refine C.region ?_
  refine O.makeM (fun b9 w1 hb9 hm9 e1 => ?_)
  have z1 := e1.size
  have hl9 := hm9.lt
  refine O.asg ?_
  refine O.nil ?_
  refine hK2 _ _ ?_
  refine C.seqK fun K3 hK3 => ?_
  refine C.seqK fun K4 hK4 => ?_
  refine C.region ?_
  refine O.mv ?_
  refine O.len Tryz.underlying22 rfl (hl.keep e1) ?_
  refine O.mv ?_
  refine O.nil ?_
  refine hK4 _ _ ?_
  refine C.block fun K5 hK5 => ?_
  refine C.loop0 (σ := Nat) (fun f0 w0 k f wz => f 12 = .int .i64 ((k : Int)) ∧ f 2 = f0 2 ∧ f 3 = f0 3 ∧ f 10 = f0 10 ∧ f 11 = f0 11 ∧ Le w wz ∧ MapO wz b9 (Vc.mfold (l.take k)) ∧ k ≤ l.length) (fun k => l.length - k) 0 ?_ ?_
  ·
    refine ⟨rfl, rfl, rfl, rfl, rfl, e1, hm9, ?_⟩
    exact Nat.zero_le _
  ·
    rintro k f_1 w2 ⟨s12_1, s2_1, s3_1, s10_1, s11_1, e_1, r0_1, hk⟩
    have z_1 := e_1.size
    have hlm := (r0_1).lt
    refine C.seqK fun K6 hK6 => ?_
    refine C.region ?_
    refine O.lssI s12_1 s11_1 ?_
    refine O.nil ?_
    refine hK6 _ _ ?_
    refine C.seqK fun K7 hK7 => ?_
    refine C.condD rfl (fun c13 => ?_) (fun c13 => ?_)
    ·
      have hk2 : k < l.length := by omega
      refine C.skip ?_
      refine hK7 _ _ ?_
      refine C.seqK fun K8 hK8 => ?_
      refine C.block fun K9 hK9 => ?_
      refine C.seqK fun K10 hK10 => ?_
      refine C.region ?_
      refine O.idx Tryz.underlying22 Tryz.sizeOf25 rfl s10_1 (hl.keep e_1) s12_1 (by omega) (fun a14 h14 => ?_)
      refine O.loadG (G := Dt.dotF) Tryz.isAgg25 Tryz.sizeOf25 rfl h14 ?_
      refine O.alloc Tryz.zeroValue25 (fun b5 w3 hb5 hz5 e3 => ?_)
      have z3 := e3.size
      have h5 := hz5.own
      have hl5 := h5.lt
      refine O.storeA (vs := [.int .i64 (l[(k : Int).toNat]'(by omega)).1, .int .i64 (l[(k : Int).toNat]'(by omega)).2]) Tryz.sizeOf25 rfl rfl rfl (by simp [Value.oneCell']) h5 (Nat.le_of_ble_eq_true rfl) (fun w4 hs4 e4 z4 => ?_)
      refine O.nil ?_
      refine hK10 _ _ ?_
      refine C.region ?_
      refine O.mv ?_
      refine O.fieldAd Tryz.underlying25 rfl Tryz.sizeOf3 (by decide) rfl ?_
      refine O.loadO Tryz.isAgg3 rfl hs4 rfl ?_
      refine O.mv ?_
      refine O.fieldAd Tryz.underlying25 rfl Tryz.sizeOf3 (by decide) rfl ?_
      refine O.loadO Tryz.isAgg3 rfl hs4 rfl ?_
      refine O.lookupM Tryz.underlying74 Tryz.underlying3 (Tryz.zeroValue3 _) s3_1 rfl ((r0_1.keep e3).keepM e4 (by intro h; (try dsimp only at h); omega)) ?_
      refine O.fieldAd Tryz.underlying25 rfl Tryz.sizeOf3 (by decide) rfl ?_
      refine O.loadO Tryz.isAgg3 rfl hs4 rfl ?_
      refine O.maxI rfl rfl ?_
      refine O.updateM Tryz.underlying74 Tryz.underlying3 s3_1 rfl rfl ((r0_1.keep e3).keepM e4 (by intro h; (try dsimp only at h); omega)) (fun w5 hu5 e5 z5 => ?_)
      refine O.nil ?_
      refine hK9 _ _ ?_
      refine hK8 _ _ ?_
      refine C.region ?_
      refine O.addI s12_1 rfl (by unfold InI; omega) ?_
      refine O.mv ?_
      refine O.nil ?_
      refine ⟨(k + 1), ⟨rfl, s2_1, s3_1, s10_1, s11_1, (Ext.new (Ext.new (Ext.trans e_1 e3) e4 (by rintro i hi rfl; omega)) e5 (by rintro i hi rfl; omega)), (by rw [List.take_succ_eq_append_getElem hk2, Vc.mfold_snoc]; exact hu5), ?_⟩, by first | omega | (simp only []; omega)⟩
      omega
    ·
      have hkl : k = l.length := by omega
      have hml := Vc.mfold_len l
      have hm28 := r0_1
      rw [hkl, List.take_length] at hm28
      refine C.exit ?_
      refine hK5 _ _ ?_
      refine hK3 _ _ ?_
      refine C.seqK fun K11 hK11 => ?_
      refine C.region ?_
      refine O.asg ?_
      refine O.nil ?_
      refine hK11 _ _ ?_
      refine C.seqK fun K12 hK12 => ?_
      refine C.seqK fun K13 hK13 => ?_
      refine C.region ?_
      refine O.mv ?_
      refine O.rangeM Tryz.underlying74 s3_1 hm28 (fun r28 w6 hr28 hi28 e6 => ?_)
      have z6 := e6.size
      have hl28 := hi28.lt
      refine O.nil ?_
      refine hK13 _ _ ?_
      refine C.block fun K14 hK14 => ?_
      refine C.loop0 (σ := List Dt.Dot × Value) (fun f0 w0 ⟨done, o⟩ f wz => f 6 = o ∧ f 2 = f0 2 ∧ f 28 = f0 28 ∧ Le w wz ∧ IterO wz r28 b9 (Vc.mfold l) done ∧ OwnF Dt.dotF 25 (r28 + 1) wz o done ∧ done.length ≤ (Vc.mfold l).length) (fun ⟨done, o⟩ => (Vc.mfold l).length - done.length) ([], .slice none 0 0) ?_ ?_
      ·
        refine ⟨rfl, rfl, rfl, (Ext.trans e_1 e6), hi28, (OwnF.nil _ _ _ _), ?_⟩
        exact Nat.zero_le _
      ·
        rintro ⟨done, o⟩ f_2 w7 ⟨s6_2, s2_2, s28_2, e_2, r0_2, r1_2, hdl⟩
        have z_2 := e_2.size
        have r1_2s := r1_2.sl
        have hr9 := (r0_2).lt
        refine C.seqK fun K15 hK15 => ?_
        refine C.region ?_
        refine O.nextM s28_2 r0_2 (fun hp29 => ?_) (fun p29 w8 hm29 hn29 hl29 hi29 e8 z8 => ?_)
        ·
          have hkeys := (r0_2).map.keys
          refine O.extract rfl rfl ?_
          refine O.nil ?_
          refine hK15 _ _ ?_
          refine C.seqK fun K16 hK16 => ?_
          refine C.condF rfl ?_
          refine C.exit ?_
          refine hK14 _ _ ?_
          refine hK12 _ _ ?_
          refine C.seqK fun K17 hK17 => ?_
          refine C.region ?_
          refine O.mv ?_
          refine O.call Tryz.call51 (args2 s6_2 rfl) (sortV_spec o done (r28 + 1) _ r1_2 (by omega)) ?_
          rintro v_41 w9 ⟨rfl, ⟨lv41, hsv41, hpv41, hav41⟩, e9⟩
          have z9 := e9.size
          have hof := Vc.sorted_of hv rfl hkeys hp29 hpv41 hav41
          rw [hof] at hsv41
          refine O.nil ?_
          refine hK17 _ _ ?_
          refine C.seqK fun K18 hK18 => ?_
          refine C.region ?_
          refine O.mv ?_
          refine O.asg ?_
          refine O.nil ?_
          refine hK18 _ _ ?_
          refine C.ret ?_
          refine Outs.one rfl s6_2 ?_
          exact ⟨(Ext.new e_2 e9 (by intro i hi h; have := (r1_2).bk_ge i h; omega)), (hsv41).low (by omega)⟩
        ·
          refine O.extract rfl rfl ?_
          refine O.nil ?_
          refine hK15 _ _ ?_
          refine C.seqK fun K19 hK19 => ?_
          refine C.condT rfl ?_
          refine C.skip ?_
          refine hK19 _ _ ?_
          refine C.block fun K20 hK20 => ?_
          refine C.seqK fun K21 hK21 => ?_
          refine C.region ?_
          refine O.entryM s28_2 hi29 ?_
          refine O.extract rfl rfl ?_
          refine O.extract rfl rfl ?_
          refine O.asg ?_
          refine O.asg ?_
          refine O.nil ?_
          refine hK21 _ _ ?_
          refine C.region ?_
          refine O.mv ?_
          refine O.mv ?_
          refine O.mv ?_
          refine O.build (cells := #[.int .i64 p29.1, .int .i64 p29.2]) rfl (by kernel_rfl) ?_
          refine O.litG (G := Dt.dotF) [p29] Tryz.underlying23 ti25 ts25 tz25 rfl (by decide) (by decide) rfl (fun b38 w10 hb38 hz38 e10 => ?_)
          have z10 := e10.size
          have h38 := hz38.own
          have hq38 := Sl.litG (n := 1) h38 rfl (by unfold maxLen; omega)
          refine O.appF (G := Dt.dotF) Tryz.underlying23 ti25 tz25 ts25 rfl s6_2 rfl ((r1_2.keepM e8 (fun k hk h => by have := r1_2.bk_ge k hk; (try dsimp only at h); omega)).keep e10) hq38 (by rw [tb25]; simp; omega) (by unfold maxLen; simp; omega) (by omega) (fun v39 w11 h39 e11 => ?_)
          have z11 := e11.size
          have h39s := h39.sl
          refine O.asg ?_
          refine O.nil ?_
          refine hK20 _ _ ?_
          refine ⟨(done ++ [p29], _), ⟨rfl, s2_2, s28_2, (Ext.new (Ext.trans (Ext.new e_2 e8 (by rintro i hi rfl; omega)) e10) e11 (by intro i hi h; have := ((r1_2.keepM e8 (fun k hk h => by have := r1_2.bk_ge k hk; (try dsimp only at h); omega)).keep e10).bk_ge i h; omega)), ((hi29.keep e10).keepM e11 (by intro j hj h; have q2 := ((r1_2.keepM e8 (fun k hk h => by have := r1_2.bk_ge k hk; (try dsimp only at h); omega)).keep e10).bk_ge j h; first | (have q1 := hF j hj; omega) | ((try dsimp only at hj); omega))), h39, ?_⟩, by show (Vc.mfold l).length - (done ++ [p29]).length < (Vc.mfold l).length - done.length; rw [List.length_append]; show _ - (done.length + 1) < _; omega⟩
          rw [List.length_append]; show done.length + 1 ≤ _; omega

theorem vof_spec (v0 : Value) (l : List Dt.Dot) (F : Nat → Prop) (w : World) (hl : Sl Dt.dotF.enc w F v0 l) (hn : l.length ≤ 1000000000) :
    Ret Tryz.prog 39 #[v0] w (fun v w' => Le w w' ∧ ∃ u, v = .tuple #[u, .int .i64 (Vc.ofE l)] ∧ OwnF Dt.dotF 25 w.heap.size w' u (Vc.ofV l)) := by
  have hle := hl.le
  refine enter (args := [v0]) (n := 8) Tryz.func39 rfl rfl (Nat.le_of_ble_eq_true rfl) ?_
  refine C.seqK fun K1 hK1 => ?_
  refine C.region ?_
  refine O.asg ?_
  refine O.asg ?_
  refine O.nil ?_
  refine hK1 _ _ ?_
  refine C.seqK fun K2 hK2 => ?_
  refine C.seqK fun K3 hK3 => ?_
  refine C.region ?_
  refine O.mv ?_
  refine O.call Tryz.call50 (args2 rfl rfl) (containsD_spec v0 (.func (.func 35) #[] #[]) l F (fun _ => False) _ _ hl (pred_vbad (fun _ => False) _)) ?_
  rintro v_5 w1 ⟨rfl, e1⟩
  have z1 := e1.size
  refine O.nil ?_
  refine hK3 _ _ ?_
  refine C.cond rfl (fun c5 => ?_) (fun c5 => ?_)
  ·
    refine C.seqK fun K4 hK4 => ?_
    refine C.region ?_
    refine O.asg ?_
    refine O.asg ?_
    refine O.nil ?_
    refine hK4 _ _ ?_
    refine C.ret ?_
    refine Outs.two rfl rfl rfl ?_
    first
    | exact ⟨e1, _, by unfold Vc.ofE; rw [c5]; rfl, by unfold Vc.ofV; rw [c5]; exact OwnF.nil _ _ _ _⟩
    | exact ⟨e1, _, by unfold Vc.ofE; rw [c5]; rfl, by unfold Vc.ofV; rw [c5]; exact ({app:7}).low (by omega)⟩
  ·
    refine C.skip ?_
    refine hK2 _ _ ?_
    refine C.seqK fun K5 hK5 => ?_
    refine C.region ?_
    refine O.mv ?_
    refine O.call Tryz.call41 (args1 rfl) (made_spec v0 l F _ (hl.keep e1) (Vc.good_of c5) hn) ?_
    rintro v_7 w2 ⟨e2, h7⟩
    have z2 := e2.size
    refine O.asg ?_
    refine O.asg ?_
    refine O.nil ?_
    refine hK5 _ _ ?_
    refine C.ret ?_
    refine Outs.two rfl rfl rfl ?_
    first
    | exact ⟨(Ext.trans e1 e2), _, by unfold Vc.ofE; rw [c5]; rfl, by unfold Vc.ofV; rw [c5]; exact OwnF.nil _ _ _ _⟩
    | exact ⟨(Ext.trans e1 e2), _, by unfold Vc.ofE; rw [c5]; rfl, by unfold Vc.ofV; rw [c5]; exact (h7).low (by omega)⟩

set_option maxHeartbeats 2000000 in
theorem vmerge_spec (v0 : Value) (a : List Dt.Dot) (v1 : Value) (b : List Dt.Dot) (F F2 : Nat → Prop) (w : World) (ha : Sl Dt.dotF.enc w F v0 a) (hb : Sl Dt.dotF.enc w F2 v1 b) (hF : ∀ k, F k → k < w.heap.size) (hF2 : ∀ k, F2 k → k < w.heap.size) (hn : a.length ≤ 1000000) (hm : b.length ≤ 1000000) :
    Ret Tryz.prog 23 #[v0, v1] w (fun v w' => Le w w' ∧ ∃ u, v = .tuple #[u, .int .i64 (if Cn.vecValid a && Cn.vecValid b then 0 else 2)] ∧ OwnF Dt.dotF 25 w.heap.size w' u (if Cn.vecValid a && Cn.vecValid b then Vc.mrg a b else [])) := by
  have hle := ha.le
  have hbl := hb.le
  have _hF9 := hF
  have _hF8 := hF2
  obtain ⟨ie23, ti23, ts23, tb23, tz23⟩ := inf23
  refine enter (args := [v0, v1]) (n := 19) Tryz.func23 rfl rfl (Nat.le_of_ble_eq_true rfl) ?_
  refine C.seqK fun K1 hK1 => ?_
  refine C.region ?_
  refine O.asg ?_
  refine O.asg ?_
  refine O.nil ?_
  refine hK1 _ _ ?_
  refine C.seqK fun K2 hK2 => ?_
  refine C.seqK fun K3 hK3 => ?_
  refine C.region ?_
  refine O.mv ?_
  refine O.call Tryz.call9 (args1 rfl) (vecValid_spec _ _ _ _ ha) ?_
  rintro v_7 w1 ⟨rfl, e1⟩
  have z1 := e1.size
  refine O.not rfl ?_
  refine O.mv ?_
  refine O.split (x := .tmp 9) rfl (fun c9 => ?_) (fun c9 => ?_)
  ·
    have hva : Cn.vecValid a = false := by simpa using c9
    refine O.no rfl (noB (isT' rfl c9) rfl) ?_
    refine O.no rfl (noB (isT' rfl c9) rfl) ?_
    refine O.no rfl (noB (isT' rfl c9) rfl) ?_
    refine O.pickT (isT' rfl c9) ?_
    refine O.nil ?_
    refine hK3 _ _ ?_
    refine C.condT rfl ?_
    refine C.seqK fun K4 hK4 => ?_
    refine C.region ?_
    refine O.asg ?_
    refine O.asg ?_
    refine O.nil ?_
    refine hK4 _ _ ?_
    refine C.ret ?_
    refine Outs.two rfl rfl rfl ?_
    first
    | exact ⟨e1, _, by rw [hva]; rfl, by rw [hva]; exact OwnF.nil _ _ _ _⟩
    | exact ⟨e1, _, by rw [hva, hvb]; rfl, by rw [hva, hvb]; exact OwnF.nil _ _ _ _⟩
    | exact ⟨e1, _, by rw [hva, hvb]; rfl, by rw [hva, hvb]; exact ({app:18}).low (by omega)⟩
  ·
    have hva : Cn.vecValid a = true := by simpa using c9
    refine O.yes rfl (isF' rfl c9) ?_
    refine O.mv ?_
    refine O.yes rfl (isF' rfl c9) ?_
    refine O.call Tryz.call9 (args1 rfl) (vecValid_spec _ _ _ _ (hb.keep e1)) ?_
    rintro v_11 w2 ⟨rfl, e2⟩
    have z2 := e2.size
    refine O.yes rfl (isF' rfl c9) ?_
    refine O.not rfl ?_
    refine O.pickF (isF' rfl c9) ?_
    refine O.nil ?_
    refine hK3 _ _ ?_
    refine C.cond rfl (fun c13 => ?_) (fun c13 => ?_)
    ·
      have hvb : Cn.vecValid b = false := by simpa using c13
      refine C.seqK fun K5 hK5 => ?_
      refine C.region ?_
      refine O.asg ?_
      refine O.asg ?_
      refine O.nil ?_
      refine hK5 _ _ ?_
      refine C.ret ?_
      refine Outs.two rfl rfl rfl ?_
      first
      | exact ⟨(Ext.trans e1 e2), _, by rw [hva]; rfl, by rw [hva]; exact OwnF.nil _ _ _ _⟩
      | exact ⟨(Ext.trans e1 e2), _, by rw [hva, hvb]; rfl, by rw [hva, hvb]; exact OwnF.nil _ _ _ _⟩
      | exact ⟨(Ext.trans e1 e2), _, by rw [hva, hvb]; rfl, by rw [hva, hvb]; exact ({app:18}).low (by omega)⟩
    ·
      have hvb : Cn.vecValid b = true := by simpa using c13
      refine C.skip ?_
      refine hK2 _ _ ?_
      refine C.seqK fun K6 hK6 => ?_
      refine C.region ?_
      refine O.mv ?_
      refine O.mv ?_
      refine O.litn [v0, v1] Tryz.underlying78 ti23 ts23 tz23 rfl (by decide) (by decide) rfl (by intro u hu; simp only [List.mem_cons, List.not_mem_nil, or_false] at hu; rcases hu with rfl | rfl; exact ha.oneC; exact hb.oneC) (fun b16 w3 hb16 hz16 e3 => ?_)
      have z3 := e3.size
      have h16 := hz16.own
      have hl16 := h16.lt
      have l16 := h16.lt
      obtain ⟨wb, hwb⟩ : ∃ x, x = w3 := ⟨_, rfl⟩
      have hzb : wb.heap.size = w3.heap.size := by rw [hwb]
      have hab : Sl (sliE Dt.dotF.enc) w3 (fun j => j = b16 ∨ j < wb.heap.size) (.slice (some ⟨b16, 0, none⟩) 2 2) [a, b] := Sl.lits (F := fun j => j < wb.heap.size) h16 rfl (by unfold maxLen; simp) fun i h1 h2 => by
        match i, h1, h2 with
        | 0, _, _ => exact ((((ha.keep e1).keep e2).keep e3)).weak (by intro j hj; have q1 := hF j hj; show j < wb.heap.size; omega)
        | 1, _, _ => exact ((((hb.keep e1).keep e2).keep e3)).weak (by intro j hj; have q1 := hF2 j hj; show j < wb.heap.size; omega)
      refine O.call Tryz.call42 (args1 rfl) (concatV_spec _ [a, b] _ _ hab (by simp; omega)) ?_
      rintro v_17 w4 ⟨e4, h17⟩
      have z4 := e4.size
      have h17s := h17.sl
      replace h17s := h17s.weak (fun k _ => trivial)
      rw [show [a, b].flatten = a ++ b by simp] at h17s
      refine O.call Tryz.call41 (args1 rfl) (made_spec v_17 (a ++ b) _ _ h17s (Vc.both_valid (Vc.ok_iff.1 hva).2 (Vc.ok_iff.1 hvb).2) (by rw [List.length_append]; omega)) ?_
      rintro v_18 w5 ⟨e5, h18⟩
      have z5 := e5.size
      refine O.asg ?_
      refine O.asg ?_
      refine O.nil ?_
      refine hK6 _ _ ?_
      refine C.ret ?_
      refine Outs.two rfl rfl rfl ?_
      first
      | exact ⟨(Ext.trans (Ext.trans (Ext.trans (Ext.trans e1 e2) e3) e4) e5), _, by rw [hva]; rfl, by rw [hva]; exact OwnF.nil _ _ _ _⟩
      | exact ⟨(Ext.trans (Ext.trans (Ext.trans (Ext.trans e1 e2) e3) e4) e5), _, by rw [hva, hvb]; rfl, by rw [hva, hvb]; exact OwnF.nil _ _ _ _⟩
      | exact ⟨(Ext.trans (Ext.trans (Ext.trans (Ext.trans e1 e2) e3) e4) e5), _, by rw [hva, hvb]; rfl, by rw [hva, hvb]; exact (h18).low (by omega)⟩

set_option maxHeartbeats 1000000 in
theorem vorder_spec (v0 : Value) (a : List Dt.Dot) (v1 : Value) (b : List Dt.Dot) (F F2 : Nat → Prop) (w : World) (ha : Sl Dt.dotF.enc w F v0 a) (hb : Sl Dt.dotF.enc w F2 v1 b) (hF : ∀ k, F k → k < w.heap.size) (hF2 : ∀ k, F2 k → k < w.heap.size) (hn : a.length ≤ 1000000) (hm : b.length ≤ 1000000) :
    Ret Tryz.prog 31 #[v0, v1] w (fun v w' => v = .tuple #[.int .i64 (if Cn.vecValid a && Cn.vecValid b then Vc.order a b else 0), .int .i64 (if Cn.vecValid a && Cn.vecValid b then 0 else 2)] ∧ Le w w') := by
  refine enter (args := [v0, v1]) (n := 30) Tryz.func31 rfl rfl (Nat.le_of_ble_eq_true rfl) ?_
  refine C.seqK fun K1 hK1 => ?_
  refine C.region ?_
  refine O.asg ?_
  refine O.asg ?_
  refine O.nil ?_
  refine hK1 _ _ ?_
  refine C.seqK fun K2 hK2 => ?_
  refine C.region ?_
  refine O.mv ?_
  refine O.mv ?_
  refine O.call Tryz.call23 (args2 rfl rfl) (vmerge_spec v0 a v1 b F F2 _ ha hb (fun j hj => by have q1 := hF j hj; omega) (fun j hj => by have q1 := hF2 j hj; omega) hn hm) ?_
  rintro v_11 w1 ⟨e1, uv11, rfl, h11⟩
  have z1 := e1.size
  have h11s := h11.sl
  refine O.mv ?_
  refine O.extract rfl rfl ?_
  refine O.extract rfl rfl ?_
  refine O.asg ?_
  refine O.asg ?_
  refine O.nil ?_
  refine hK2 _ _ ?_
  refine C.seqK fun K3 hK3 => ?_
  refine C.block fun K4 hK4 => ?_
  refine C.seqK fun K5 hK5 => ?_
  refine C.region ?_
  refine O.mv ?_
  refine O.neqI rfl rfl ?_
  refine O.asg ?_
  refine O.nil ?_
  refine hK5 _ _ ?_
  refine C.condD rfl (fun c14 => ?_) (fun c14 => ?_)
  ·
    have hokF : (Cn.vecValid a && Cn.vecValid b) = false := by
      cases hq : (Cn.vecValid a && Cn.vecValid b) with
      | false => rfl
      | true => exact absurd (by rw [hq]; rfl) c14
    refine C.seqK fun K6 hK6 => ?_
    refine C.region ?_
    refine O.mv ?_
    refine O.asg ?_
    refine O.asg ?_
    refine O.nil ?_
    refine hK6 _ _ ?_
    refine C.ret ?_
    refine Outs.two rfl rfl rfl ?_
    first
    | exact ⟨tup2 (show _ = if (Cn.vecValid a && Cn.vecValid b) = true then Vc.order a b else 0 by rw [hokT, if_pos rfl]; exact hval.symm) (show (0 : Int) = if (Cn.vecValid a && Cn.vecValid b) = true then 0 else 2 by rw [hokT]; rfl), e1⟩
    | exact ⟨tup2 (show (0 : Int) = if (Cn.vecValid a && Cn.vecValid b) = true then Vc.order a b else 0 by rw [hokF]; rfl) rfl, e1⟩
  ·
    have hokT : (Cn.vecValid a && Cn.vecValid b) = true := by
      cases hq : (Cn.vecValid a && Cn.vecValid b) with
      | true => rfl
      | false =>
        exfalso
        apply c14
        rw [hq]
        decide
    have h11t := h11s
    rw [hokT, if_pos rfl] at h11t
    refine C.seqK fun K7 hK7 => ?_
    refine C.region ?_
    refine O.mv ?_
    refine O.mv ?_
    refine O.call Tryz.call47 (args2 rfl rfl) (equalV_spec _ _ _ _ _ _ _ (ha.keep e1) (hb.keep e1)) ?_
    rintro v_21 w2 ⟨rfl, e2⟩
    have z2 := e2.size
    refine O.asg ?_
    refine O.nil ?_
    refine hK7 _ _ ?_
    refine C.condD rfl (fun c18 => ?_) (fun c18 => ?_)
    ·
      have hval : Vc.order a b = 0 := by unfold Vc.order; rw [if_pos c18]
      refine C.seqK fun K8 hK8 => ?_
      refine C.region ?_
      refine O.asg ?_
      refine O.asg ?_
      refine O.nil ?_
      refine hK8 _ _ ?_
      refine C.ret ?_
      refine Outs.two rfl rfl rfl ?_
      first
      | exact ⟨tup2 (show _ = if (Cn.vecValid a && Cn.vecValid b) = true then Vc.order a b else 0 by rw [hokT, if_pos rfl]; exact hval.symm) (show (0 : Int) = if (Cn.vecValid a && Cn.vecValid b) = true then 0 else 2 by rw [hokT]; rfl), (Ext.trans e1 e2)⟩
      | exact ⟨tup2 (show (0 : Int) = if (Cn.vecValid a && Cn.vecValid b) = true then Vc.order a b else 0 by rw [hokF]; rfl) rfl, (Ext.trans e1 e2)⟩
    ·
      refine C.seqK fun K9 hK9 => ?_
      refine C.region ?_
      refine O.mv ?_
      refine O.mv ?_
      refine O.call Tryz.call47 (args2 rfl rfl) (equalV_spec uv11 _ v1 b _ _ _ (h11t.keep e2) ((hb.keep e1).keep e2)) ?_
      rintro v_25 w3 ⟨rfl, e3⟩
      have z3 := e3.size
      refine O.asg ?_
      refine O.nil ?_
      refine hK9 _ _ ?_
      refine C.condD rfl (fun c22 => ?_) (fun c22 => ?_)
      ·
        have hval : Vc.order a b = -1 := by unfold Vc.order; rw [if_neg c18, if_pos c22]
        refine C.seqK fun K10 hK10 => ?_
        refine C.region ?_
        refine O.asg ?_
        refine O.asg ?_
        refine O.nil ?_
        refine hK10 _ _ ?_
        refine C.ret ?_
        refine Outs.two rfl rfl rfl ?_
        first
        | exact ⟨tup2 (show _ = if (Cn.vecValid a && Cn.vecValid b) = true then Vc.order a b else 0 by rw [hokT, if_pos rfl]; exact hval.symm) (show (0 : Int) = if (Cn.vecValid a && Cn.vecValid b) = true then 0 else 2 by rw [hokT]; rfl), (Ext.trans (Ext.trans e1 e2) e3)⟩
        | exact ⟨tup2 (show (0 : Int) = if (Cn.vecValid a && Cn.vecValid b) = true then Vc.order a b else 0 by rw [hokF]; rfl) rfl, (Ext.trans (Ext.trans e1 e2) e3)⟩
      ·
        refine C.seqK fun K11 hK11 => ?_
        refine C.region ?_
        refine O.mv ?_
        refine O.mv ?_
        refine O.call Tryz.call47 (args2 rfl rfl) (equalV_spec uv11 _ v0 a _ _ _ ((h11t.keep e2).keep e3) (((ha.keep e1).keep e2).keep e3)) ?_
        rintro v_29 w4 ⟨rfl, e4⟩
        have z4 := e4.size
        refine O.asg ?_
        refine O.nil ?_
        refine hK11 _ _ ?_
        refine C.condD rfl (fun c26 => ?_) (fun c26 => ?_)
        ·
          have hval : Vc.order a b = 1 := by unfold Vc.order; rw [if_neg c18, if_neg c22, if_pos c26]
          refine C.seqK fun K12 hK12 => ?_
          refine C.region ?_
          refine O.asg ?_
          refine O.asg ?_
          refine O.nil ?_
          refine hK12 _ _ ?_
          refine C.ret ?_
          refine Outs.two rfl rfl rfl ?_
          first
          | exact ⟨tup2 (show _ = if (Cn.vecValid a && Cn.vecValid b) = true then Vc.order a b else 0 by rw [hokT, if_pos rfl]; exact hval.symm) (show (0 : Int) = if (Cn.vecValid a && Cn.vecValid b) = true then 0 else 2 by rw [hokT]; rfl), (Ext.trans (Ext.trans (Ext.trans e1 e2) e3) e4)⟩
          | exact ⟨tup2 (show (0 : Int) = if (Cn.vecValid a && Cn.vecValid b) = true then Vc.order a b else 0 by rw [hokF]; rfl) rfl, (Ext.trans (Ext.trans (Ext.trans e1 e2) e3) e4)⟩
        ·
          have hval : Vc.order a b = 2 := by unfold Vc.order; rw [if_neg c18, if_neg c22, if_neg c26]
          refine C.skip ?_
          refine hK4 _ _ ?_
          refine hK3 _ _ ?_
          refine C.seqK fun K13 hK13 => ?_
          refine C.region ?_
          refine O.asg ?_
          refine O.asg ?_
          refine O.nil ?_
          refine hK13 _ _ ?_
          refine C.ret ?_
          refine Outs.two rfl rfl rfl ?_
          first
          | exact ⟨tup2 (show _ = if (Cn.vecValid a && Cn.vecValid b) = true then Vc.order a b else 0 by rw [hokT, if_pos rfl]; exact hval.symm) (show (0 : Int) = if (Cn.vecValid a && Cn.vecValid b) = true then 0 else 2 by rw [hokT]; rfl), (Ext.trans (Ext.trans (Ext.trans e1 e2) e3) e4)⟩
          | exact ⟨tup2 (show (0 : Int) = if (Cn.vecValid a && Cn.vecValid b) = true then Vc.order a b else 0 by rw [hokF]; rfl) rfl, (Ext.trans (Ext.trans (Ext.trans e1 e2) e3) e4)⟩

end Go.Proofs.YtbmbaajfkmejgaaGreatDoor
end
section
/-
  The walks of dots: texts. Conditions: the library's table and its errors lie in memory.
-/
namespace Go.Proofs.YtbmbaajfkmejgaaGreatDoor
open Go.Pn Go.RowKit Go.Proofs
attribute [local irreducible] O C D


/-- The library's table of powers of ten lies in memory. -/
structure Tb (w : World) : Prop where
  t : Lib.TabIs Tryz.prog w "internal/strconv.uint64pow10" .u64 Lib.pow10Tab
theorem Tb.keep {w w' : World} (h : Tb w) (e : Le w w') : Tb w' := ⟨Go.Joins.tab_stays (B := w.heap.size) (g := 5) (by kernel_rfl) h.t e.below (Nat.le_refl _)⟩
theorem bytesWorld_le (w : World) (e : TypeId) (s : ByteArray) : Le w (Lib.bytesWorld w e s) := by
  refine ⟨rfl, rfl, rfl, ?_, fun k hk _ => ?_⟩
  · simp [Lib.bytesWorld, World.freeze]
  · unfold Lib.bytesWorld World.freeze
    rw [if_neg (by decide)]
    show ((w.heap.push _).modify w.heap.size _)[k]? = _
    rw [Array.getElem?_modify, if_neg (by omega), Array.getElem?_push, if_neg (by omega)]
theorem itoa_spec (n : Int) (w : World) (h0 : -9223372036854775808 ≤ n ∧ n ≤ 9223372036854775807) (ht : Tb w) : Ret Tryz.prog 69 #[.int .i64 n] w (fun v w' => v = str (Lib.itoa n) ∧ Le w w') := by
  refine Ret.of (Tryz.strconv_Itoa n h0.1 h0.2 w ht.t) ?_
  rintro e w' ⟨rfl, k, os, rfl⟩
  exact ⟨_, rfl, rfl, ⟨rfl, rfl, rfl, by simp [Go.Sort.grow], fun i hi _ => by show (w.heap ++ os)[i]? = _; rw [Array.getElem?_append_left hi]⟩⟩
theorem atoi_ok (l : List UInt8) (n : Int) (w : World) (hl : l.length ≤ 281474976710656) (h : Lib.atoiAll l = .ok n) : Ret Tryz.prog 68 #[str l] w (fun v w' => v = .tuple #[.int .i64 n, .nilIface] ∧ Le w w') := by
  refine Ret.of (Tryz.strconv_Atoi_ok ⟨l.toArray⟩ (by simp [ByteArray.size]; omega) n h w) ?_
  rintro e w' ⟨rfl, rfl | ⟨t, rfl⟩⟩
  · exact ⟨_, rfl, rfl, Le.refl _⟩
  · exact ⟨_, rfl, rfl, bytesWorld_le w _ _⟩
theorem atoi_err (l : List UInt8) (es er : Value) (w : World) (hl : l.length ≤ 281474976710656) (h : ∀ n, Lib.atoiAll l ≠ .ok n) (hes : CellIs w 3 es) (her : CellIs w 4 er) (g1 : ∃ te pe, es = .iface te pe) (g2 : ∃ te pe, er = .iface te pe) :
    Ret Tryz.prog 68 #[str l] w (fun v w' => ∃ (r : Int) (y : Value), v = .tuple #[.int .i64 r, .iface 135 y] ∧ Le w w') := by
  have hsz : (ByteArray.mk l.toArray).size ≤ 281474976710656 := by simpa [ByteArray.size] using hl
  cases hq : Lib.atoiAll l with
  | ok n => exact absurd hq (h n)
  | «syntax» =>
    refine Ret.of (Tryz.strconv_Atoi_syntax ⟨l.toArray⟩ hsz hq es w hes (.inr g1)) ?_
    rintro e w' ⟨N, rfl, _, _, hb⟩
    exact ⟨_, rfl, _, _, rfl, Le.of_below hb (Nat.le_refl _)⟩
  | range =>
    refine Ret.of (Tryz.strconv_Atoi_range ⟨l.toArray⟩ hsz hq er w her (.inr g2)) ?_
    rintro e w' ⟨N, rfl, _, _, hb⟩
    exact ⟨_, rfl, _, _, rfl, Le.of_below hb (Nat.le_refl _)⟩
theorem atoi_any (l : List UInt8) (es er : Value) (w : World) (hl : l.length ≤ 281474976710656) (hes : CellIs w 3 es) (her : CellIs w 4 er) (g1 : ∃ te pe, es = .iface te pe) (g2 : ∃ te pe, er = .iface te pe) :
    Ret Tryz.prog 68 #[str l] w (fun v w' => ∃ (r : Int) (y : Value), v = .tuple #[.int .i64 r, y] ∧ Le w w') := by
  by_cases h : ∃ n, Lib.atoiAll l = .ok n
  · obtain ⟨n, h⟩ := h
    refine (atoi_ok l n w hl h).mono ?_
    rintro v w' ⟨rfl, e⟩
    exact ⟨_, _, rfl, e⟩
  · refine (atoi_err l es er w hl (fun n hn => h ⟨n, hn⟩) hes her g1 g2).mono ?_
    rintro v w' ⟨r, y, rfl, e⟩
    exact ⟨_, _, rfl, e⟩
theorem index_of (l : List UInt8) (w : World) : Ret Tryz.prog 97 #[str l, str [46]] w (fun v w' => v = .int .i64 (Lib.indexByte l 46) ∧ w' = w) := by
  refine Ret.of (Tryz.stringslite_Index_one ⟨l.toArray⟩ 46 w) ?_
  rintro e w' ⟨rfl, rfl⟩
  exact ⟨_, rfl, rfl, rfl⟩

theorem cuts_spec (l : List UInt8) (w : World) (hl : l.length ≤ 281474976710656) :
    Ret Tryz.prog 85 #[str (l), str ([46])] w (fun v w' => ∃ b, v = .tuple #[str (Dt.cut l).1, str (Dt.cut l).2, .bool b] ∧ Le w w') := by
  have hi := Dt.index_ge l 46
  refine enter (args := [str (l), str ([46])]) (n := 23) Tryz.func85 rfl rfl (Nat.le_of_ble_eq_true rfl) ?_
  refine C.seqK fun K1 hK1 => ?_
  refine C.region ?_
  refine O.asg ?_
  refine O.asg ?_
  refine O.asg ?_
  refine O.nil ?_
  refine hK1 _ _ ?_
  refine C.seqK fun K2 hK2 => ?_
  refine C.seqK fun K3 hK3 => ?_
  refine C.region ?_
  refine O.mv ?_
  refine O.mv ?_
  refine O.call Tryz.call97 (args2 rfl rfl) (index_of _ _) ?_
  rintro v_10 w1 ⟨rfl, hw_⟩
  replace hw_ := hw_.symm
  subst hw_
  refine O.asg ?_
  refine O.nil ?_
  refine hK3 _ _ ?_
  refine C.seqK fun K4 hK4 => ?_
  refine C.region ?_
  refine O.mv ?_
  refine O.geqI rfl rfl ?_
  refine O.nil ?_
  refine hK4 _ _ ?_
  refine C.condD rfl (fun c12 => ?_) (fun c12 => ?_)
  ·
    refine C.seqK fun K5 hK5 => ?_
    refine C.draw (by kernel_rfl) fun w1 e1 => ?_
    have z1 := e1.size
    refine D.take (i := 0) rfl rfl rfl rfl (by kernel_rfl) (Le.refl _) ⟨pure _, rfl⟩ (fun w_ hw_ N_ hN => (O.mv (O.nil hN))) ?_
    refine D.take (i := 1) rfl rfl rfl rfl (by kernel_rfl) (Le.refl _) ⟨pure _, rfl⟩ (fun w_ hw_ N_ hN => (O.mv (O.nil hN))) ?_
    refine D.take (i := 2) rfl rfl rfl rfl (by kernel_rfl) (Le.refl _) ⟨_, rfl⟩ (fun w_ hw_ N_ hN => (O.subS Tryz.underlying9 rfl (.inl ⟨rfl, rfl⟩) (.inr ⟨_, _, rfl, rfl⟩) (by omega) (O.nil hN))) ?_
    refine D.take (i := 3) rfl rfl rfl rfl (by kernel_rfl) (Le.refl _) ⟨pure _, rfl⟩ (fun w_ hw_ N_ hN => (O.mv (O.nil hN))) ?_
    refine D.take (i := 4) rfl rfl rfl rfl (by kernel_rfl) (Le.refl _) ⟨pure _, rfl⟩ (fun w_ hw_ N_ hN => (O.mv (O.nil hN))) ?_
    refine D.take (i := 5) rfl rfl rfl rfl (by kernel_rfl) (Le.refl _) ⟨pure _, rfl⟩ (fun w_ hw_ N_ hN => (O.mv (O.nil hN))) ?_
    refine D.take (i := 6) rfl rfl rfl rfl (by kernel_rfl) (Le.refl _) len_form (fun w_ hw_ N_ hN => (O.lenS Tryz.underlying9 rfl (O.nil hN))) ?_
    refine D.take (i := 7) rfl rfl rfl rfl (by kernel_rfl) (Le.refl _) ⟨_, rfl⟩ (fun w_ hw_ N_ hN => (O.addI rfl rfl (by show InI (_ + (([46] : List UInt8).length : Int)); unfold InI; simp; omega) (O.nil hN))) ?_
    refine D.take (i := 8) rfl rfl rfl rfl (by kernel_rfl) (Le.refl _) ⟨_, rfl⟩ (fun w_ hw_ N_ hN => (O.subS Tryz.underlying9 rfl (.inr ⟨_, _, rfl, rfl⟩) (.inl ⟨rfl, rfl⟩) (by simp; omega) (O.nil hN))) ?_
    refine D.take (i := 9) rfl rfl rfl rfl (by kernel_rfl) (Le.refl _) ⟨pure _, rfl⟩ (fun w_ hw_ N_ hN => (O.asg (O.nil hN))) ?_
    refine D.take (i := 10) rfl rfl rfl rfl (by kernel_rfl) (Le.refl _) ⟨pure _, rfl⟩ (fun w_ hw_ N_ hN => (O.asg (O.nil hN))) ?_
    refine D.take (i := 11) rfl rfl rfl rfl (by kernel_rfl) (Le.refl _) ⟨pure _, rfl⟩ (fun w_ hw_ N_ hN => (O.asg (O.nil hN))) ?_
    refine D.done (by kernel_rfl) ?_
    refine hK5 _ _ ?_
    refine C.ret ?_
    refine Outs.three rfl rfl rfl rfl ?_
    first
    | (refine ⟨true, ?_, e1⟩
       show Value.tuple #[str ((l.take (Lib.indexByte l 46).toNat).drop (0 : Int).toNat), str ((l.take ((l.length : Nat) : Int).toNat).drop (Lib.indexByte l 46 + 1).toNat), .bool true] = _
       have h1 : (Lib.indexByte l 46 + 1).toNat = (Lib.indexByte l 46).toNat + 1 := by omega
       unfold Dt.cut
       rw [if_pos c12, h1, Int.toNat_natCast, List.take_length]
       rfl)
    | (refine ⟨false, ?_, e1⟩
       unfold Dt.cut
       rw [if_neg c12]
       rfl)
  ·
    refine C.skip ?_
    refine hK2 _ _ ?_
    refine C.seqK fun K6 hK6 => ?_
    refine C.region ?_
    refine O.mv ?_
    refine O.asg ?_
    refine O.asg ?_
    refine O.asg ?_
    refine O.nil ?_
    refine hK6 _ _ ?_
    refine C.ret ?_
    refine Outs.three rfl rfl rfl rfl ?_
    first
    | (refine ⟨true, ?_, (Le.refl _)⟩
       show Value.tuple #[str ((l.take (Lib.indexByte l 46).toNat).drop (0 : Int).toNat), str ((l.take ((l.length : Nat) : Int).toNat).drop (Lib.indexByte l 46 + 1).toNat), .bool true] = _
       have h1 : (Lib.indexByte l 46 + 1).toNat = (Lib.indexByte l 46).toNat + 1 := by omega
       unfold Dt.cut
       rw [if_pos c12, h1, Int.toNat_natCast, List.take_length]
       rfl)
    | (refine ⟨false, ?_, (Le.refl _)⟩
       unfold Dt.cut
       rw [if_neg c12]
       rfl)

theorem cut_spec (l : List UInt8) (w : World) (hl : l.length ≤ 281474976710656) :
    Ret Tryz.prog 67 #[str (l), str ([46])] w (fun v w' => ∃ b, v = .tuple #[str (Dt.cut l).1, str (Dt.cut l).2, .bool b] ∧ Le w w') := by
  refine enter (args := [str (l), str ([46])]) (n := 13) Tryz.func67 rfl rfl (Nat.le_of_ble_eq_true rfl) ?_
  refine C.seqK fun K1 hK1 => ?_
  refine C.region ?_
  refine O.asg ?_
  refine O.asg ?_
  refine O.asg ?_
  refine O.nil ?_
  refine hK1 _ _ ?_
  refine C.seqK fun K2 hK2 => ?_
  refine C.region ?_
  refine O.mv ?_
  refine O.mv ?_
  refine O.call Tryz.call85 (args2 rfl rfl) (cuts_spec l _ hl) ?_
  rintro v_9 w1 ⟨bv9, rfl, e1⟩
  have z1 := e1.size
  refine O.extract rfl rfl ?_
  refine O.extract rfl rfl ?_
  refine O.extract rfl rfl ?_
  refine O.asg ?_
  refine O.asg ?_
  refine O.asg ?_
  refine O.nil ?_
  refine hK2 _ _ ?_
  refine C.ret ?_
  refine Outs.three rfl rfl rfl rfl ?_
  exact ⟨_, rfl, e1⟩

theorem text_spec (d : Dt.Dot) (w : World) (hd : Dt.Valid d) (htb : Tb w) :
    Ret Tryz.prog 58 #[Dt.dv (d)] w (fun v w' => v = str (Dt.text d) ∧ Le w w') := by
  have hd2 := hd
  unfold Dt.Valid at hd2
  refine enter (args := [Dt.dv (d)]) (n := 11) Tryz.func58 rfl rfl (Nat.le_of_ble_eq_true rfl) ?_
  refine C.seqK fun K1 hK1 => ?_
  refine C.region ?_
  refine O.box (v := Dt.dv (d)) rfl (fun b1 w1 hb1 hz1 e1 => ?_)
  have z1 := e1.size
  have h1 := hz1.own
  have hl1 := h1.lt
  refine O.asg ?_
  refine O.nil ?_
  refine hK1 _ _ ?_
  refine C.seqK fun K2 hK2 => ?_
  refine C.draw (by kernel_rfl) fun w2 e2 => ?_
  have z2 := e2.size
  refine D.take (i := 0) rfl rfl rfl rfl (by kernel_rfl) (Le.refl _) ⟨_, rfl⟩ (fun w_ hw_ N_ hN => (O.fieldAd Tryz.underlying25 rfl Tryz.sizeOf3 (by decide) rfl (O.nil hN))) ?_
  refine D.take (i := 1) rfl rfl rfl rfl (by kernel_rfl) (Le.refl _) ⟨_, rfl⟩ (fun w_ hw_ N_ hN => (O.loadO Tryz.isAgg3 rfl ((h1.keep e2).keep hw_) rfl (O.nil hN))) ?_
  refine D.take (i := 4) rfl rfl rfl rfl (by kernel_rfl) (Le.refl _) ⟨_, rfl⟩ (fun w_ hw_ N_ hN => (O.fieldAd Tryz.underlying25 rfl Tryz.sizeOf3 (by decide) rfl (O.nil hN))) ?_
  refine D.take (i := 5) rfl rfl rfl rfl (by kernel_rfl) (Le.refl _) ⟨_, rfl⟩ (fun w_ hw_ N_ hN => (O.loadO Tryz.isAgg3 rfl ((h1.keep e2).keep hw_) rfl (O.nil hN))) ?_
  refine D.one (i := 2) rfl rfl (by kernel_rfl) ?_
  refine O.call Tryz.call69 (args1 rfl) (itoa_spec d.1 _ (by omega) ((htb.keep e1).keep e2)) ?_
  rintro v_5 w3 ⟨rfl, e3⟩
  have z3 := e3.size
  refine O.nil ⟨e3, ?_⟩
  refine D.take (i := 3) rfl rfl rfl rfl (by kernel_rfl) e3 ⟨_, rfl⟩ (fun w_ hw_ N_ hN => (O.addS rfl rfl (by have := Dt.itoa_len hd2; simp; omega) (O.nil hN))) ?_
  refine D.one (i := 6) rfl rfl (by kernel_rfl) ?_
  refine O.call Tryz.call69 (args1 rfl) (itoa_spec d.2 _ (by omega) (((htb.keep e1).keep e2).keep e3)) ?_
  rintro v_9 w4 ⟨rfl, e4⟩
  have z4 := e4.size
  refine O.nil ⟨(Ext.trans e3 e4), ?_⟩
  refine D.take (i := 7) rfl rfl rfl rfl (by kernel_rfl) (Ext.trans e3 e4) ⟨_, rfl⟩ (fun w_ hw_ N_ hN => (O.addS rfl rfl (by have := Dt.itoa_len hd2; simp; omega) (O.nil hN))) ?_
  refine D.take (i := 8) rfl rfl rfl rfl (by kernel_rfl) (Ext.trans e3 e4) ⟨pure _, rfl⟩ (fun w_ hw_ N_ hN => (O.asg (O.nil hN))) ?_
  refine D.done (by kernel_rfl) ?_
  refine hK2 _ _ ?_
  refine C.ret ?_
  refine Outs.one rfl rfl ?_
  exact ⟨rfl, (Ext.trans (Ext.trans (Ext.trans e1 e2) e3) e4)⟩

theorem dtext_spec (d : Dt.Dot) (w : World) (htb : Tb w) :
    Ret Tryz.prog 48 #[Dt.dv (d)] w (fun v w' => v = (if Dt.Valid d then .tuple #[str (Dt.text d), .int .i64 0] else .tuple #[str [], .int .i64 2]) ∧ Le w w') := by
  refine enter (args := [Dt.dv (d)]) (n := 9) Tryz.func48 rfl rfl (Nat.le_of_ble_eq_true rfl) ?_
  refine C.seqK fun K1 hK1 => ?_
  refine C.region ?_
  refine O.box (v := Dt.dv (d)) rfl (fun b1 w1 hb1 hz1 e1 => ?_)
  have z1 := e1.size
  have h1 := hz1.own
  have hl1 := h1.lt
  refine O.asg ?_
  refine O.asg ?_
  refine O.nil ?_
  refine hK1 _ _ ?_
  refine C.seqK fun K2 hK2 => ?_
  refine C.seqK fun K3 hK3 => ?_
  refine C.region ?_
  refine O.loadOA Tryz.isAgg25 Tryz.sizeOf25 rfl h1 (Nat.le_of_ble_eq_true rfl) ?_
  refine O.call Tryz.call38 (args1 rfl) (valid_spec d _) ?_
  rintro v_5 w2 ⟨rfl, e2⟩
  have z2 := e2.size
  refine O.not rfl ?_
  refine O.nil ?_
  refine hK3 _ _ ?_
  refine C.cond rfl (fun c6 => ?_) (fun c6 => ?_)
  ·
    have hv : ¬ Dt.Valid d := by simpa using c6
    refine C.seqK fun K4 hK4 => ?_
    refine C.region ?_
    refine O.asg ?_
    refine O.asg ?_
    refine O.nil ?_
    refine hK4 _ _ ?_
    refine C.ret ?_
    refine Outs.two rfl rfl rfl ?_
    first
    | exact ⟨(if_neg hv).symm, (Ext.trans e1 e2)⟩
    | exact ⟨(if_pos hv).symm, (Ext.trans e1 e2)⟩
  ·
    have hv : Dt.Valid d := by simpa using c6
    refine C.skip ?_
    refine hK2 _ _ ?_
    refine C.seqK fun K5 hK5 => ?_
    refine C.region ?_
    refine O.loadOA Tryz.isAgg25 Tryz.sizeOf25 rfl (h1.keep e2) (Nat.le_of_ble_eq_true rfl) ?_
    refine O.call Tryz.call58 (args1 rfl) (text_spec d _ hv ((htb.keep e1).keep e2)) ?_
    rintro v_8 w3 ⟨rfl, e3⟩
    have z3 := e3.size
    refine O.asg ?_
    refine O.asg ?_
    refine O.nil ?_
    refine hK5 _ _ ?_
    refine C.ret ?_
    refine Outs.two rfl rfl rfl ?_
    first
    | exact ⟨(if_neg hv).symm, (Ext.trans (Ext.trans e1 e2) e3)⟩
    | exact ⟨(if_pos hv).symm, (Ext.trans (Ext.trans e1 e2) e3)⟩

def Dt.gotE : Option Dt.Dot → Value
  | some d => .tuple #[Dt.dv d, .int .i64 0]
  | none => .tuple #[Dt.dv (0, 0), .int .i64 6]
def Dt.gotB : Option Dt.Dot → Value
  | some d => .tuple #[Dt.dv d, .bool true]
  | none => .tuple #[Dt.dv (0, 0), .bool false]
theorem parse_a_spec (l : List UInt8) (r c : Int) (w : World) (hl : l.length ≤ 281474976710656) (htb : Tb w) (q1 : Lib.atoiAll (Dt.cut l).1 = .ok r) (q2 : Lib.atoiAll (Dt.cut l).2 = .ok c) :
    Ret Tryz.prog 57 #[str (l)] w (fun v w' => v = Dt.gotE (Dt.pparse l) ∧ Le w w') := by
  have hc := Dt.cut_len l
  refine enter (args := [str (l)]) (n := 50) Tryz.func57 rfl rfl (Nat.le_of_ble_eq_true rfl) ?_
  refine C.seqK fun K1 hK1 => ?_
  refine C.region ?_
  refine O.alloc Tryz.zeroValue25 (fun b2 w1 hb2 hz2 e1 => ?_)
  have z1 := e1.size
  have h2 := hz2.own
  have hl2 := h2.lt
  refine O.asg ?_
  refine O.nil ?_
  refine hK1 _ _ ?_
  refine C.seqK fun K2 hK2 => ?_
  refine C.region ?_
  refine O.mv ?_
  refine O.call Tryz.call67 (args2 rfl rfl) (cut_spec l _ hl) ?_
  rintro v_14 w2 ⟨bv14, rfl, e2⟩
  have z2 := e2.size
  refine O.mv ?_
  refine O.extract rfl rfl ?_
  refine O.extract rfl rfl ?_
  refine O.extract rfl rfl ?_
  refine O.asg ?_
  refine O.asg ?_
  refine O.asg ?_
  refine O.nil ?_
  refine hK2 _ _ ?_
  refine C.seqK fun K3 hK3 => ?_
  refine C.region ?_
  refine O.mv ?_
  refine O.call Tryz.call68 (args1 rfl) (atoi_ok _ _ _ (by omega) q1) ?_
  rintro v_20 w3 ⟨rfl, e3⟩
  have z3 := e3.size
  refine O.mv ?_
  refine O.extract rfl rfl ?_
  refine O.extract rfl rfl ?_
  refine O.asg ?_
  refine O.asg ?_
  refine O.nil ?_
  refine hK3 _ _ ?_
  refine C.seqK fun K4 hK4 => ?_
  refine C.region ?_
  refine O.mv ?_
  refine O.call Tryz.call68 (args1 rfl) (atoi_ok _ _ _ (by omega) q2) ?_
  rintro v_25 w4 ⟨rfl, e4⟩
  have z4 := e4.size
  refine O.mv ?_
  refine O.extract rfl rfl ?_
  refine O.extract rfl rfl ?_
  refine O.asg ?_
  refine O.asg ?_
  refine O.nil ?_
  refine hK4 _ _ ?_
  refine C.seqK fun K5 hK5 => ?_
  refine C.region ?_
  refine O.mv ?_
  refine O.mv ?_
  refine O.build (cells := #[.int .i64 r, .int .i64 c]) rfl (by kernel_rfl) ?_
  refine O.alloc Tryz.zeroValue25 (fun b11 w5 hb11 hz11 e5 => ?_)
  have z5 := e5.size
  have h11 := hz11.own
  have hl11 := h11.lt
  refine O.storeA (vs := [.int .i64 r, .int .i64 c]) Tryz.sizeOf25 rfl rfl rfl (by simp [Value.oneCell']) h11 (Nat.le_of_ble_eq_true rfl) (fun w6 hs6 e6 z6 => ?_)
  refine O.nil ?_
  refine hK5 _ _ ?_
  refine C.seqK fun K6 hK6 => ?_
  refine C.seqK fun K7 hK7 => ?_
  refine C.region ?_
  refine O.mv ?_
  refine O.neqN0 rfl Tryz.underlying93 ?_
  refine O.mv ?_
  refine O.yes rfl rfl ?_
  refine O.mv ?_
  refine O.yes rfl rfl ?_
  refine O.neqN0 rfl Tryz.underlying93 ?_
  refine O.pickF rfl ?_
  refine O.mv ?_
  refine O.yes rfl rfl ?_
  refine O.loadOA Tryz.isAgg25 Tryz.sizeOf25 rfl hs6 (Nat.le_of_ble_eq_true rfl) ?_
  refine O.yes rfl rfl ?_
  refine O.call Tryz.call38 (args1 rfl) (valid_spec (r, c) _) ?_
  rintro v_39 w7 ⟨rfl, e7⟩
  have z7 := e7.size
  refine O.yes rfl rfl ?_
  refine O.not rfl ?_
  refine O.pickF rfl ?_
  refine O.mv ?_
  refine O.split (x := .tmp 42) rfl (fun c42 => ?_) (fun c42 => ?_)
  ·
    have hv : ¬ Dt.Valid (r, c) := by simpa using c42
    refine O.no rfl (noB (isT' rfl c42) rfl) ?_
    refine O.no rfl (noB (isT' rfl c42) rfl) ?_
    refine O.no rfl (noB (isT' rfl c42) rfl) ?_
    refine O.no rfl (noB (isT' rfl c42) rfl) ?_
    refine O.pickT (isT' rfl c42) ?_
    refine O.nil ?_
    refine hK7 _ _ ?_
    refine C.condT rfl ?_
    refine C.seqK fun K8 hK8 => ?_
    refine C.region ?_
    refine O.build (cells := #[.int .i64 0, .int .i64 0]) rfl (by kernel_rfl) ?_
    refine O.storeA (vs := [.int .i64 0, .int .i64 0]) Tryz.sizeOf25 rfl rfl rfl (by simp [Value.oneCell']) ((((((h2.keep e2).keep e3).keep e4).keep e5).keepM e6 (by intro h; (try dsimp only at h); omega)).keep e7) (Nat.le_of_ble_eq_true rfl) (fun w8 hs8 e8 z8 => ?_)
    refine O.asg ?_
    refine O.nil ?_
    refine hK8 _ _ ?_
    refine C.ret ?_
    refine Outs.cellA2 rfl Tryz.isAgg25 Tryz.sizeOf25 rfl rfl hs8 rfl ?_
    first
    | exact ⟨(congrArg Dt.gotE ((Dt.pparse_ok q1 q2).trans (if_neg (fun h => hv h.1)))).symm, (Ext.new (Ext.trans (Ext.new (Ext.trans (Ext.trans (Ext.trans (Ext.trans e1 e2) e3) e4) e5) e6 (by rintro i hi rfl; omega)) e7) e8 (by rintro i hi rfl; omega))⟩
    | exact ⟨(congrArg Dt.gotE ((Dt.pparse_ok q1 q2).trans (if_neg (fun h => c47 h.2)))).symm, (Ext.new (Ext.trans (Ext.new (Ext.trans (Ext.trans (Ext.trans (Ext.trans e1 e2) e3) e4) e5) e6 (by rintro i hi rfl; omega)) e7) e8 (by rintro i hi rfl; omega))⟩
    | exact ⟨(congrArg Dt.gotE ((Dt.pparse_ok q1 q2).trans (if_pos ⟨hv, Decidable.of_not_not c47⟩))).symm, (Ext.new (Ext.trans (Ext.new (Ext.trans (Ext.trans (Ext.trans (Ext.trans e1 e2) e3) e4) e5) e6 (by rintro i hi rfl; omega)) e7) e8 (by rintro i hi rfl; omega))⟩
  ·
    have hv : Dt.Valid (r, c) := by simpa using c42
    refine O.yes rfl (isF' rfl c42) ?_
    refine O.loadOA Tryz.isAgg25 Tryz.sizeOf25 rfl (hs6.keep e7) (Nat.le_of_ble_eq_true rfl) ?_
    refine O.yes rfl (isF' rfl c42) ?_
    refine O.call Tryz.call58 (args1 rfl) (text_spec (r, c) _ hv (htb.keep (Ext.trans (Ext.new (Ext.trans (Ext.trans (Ext.trans (Ext.trans e1 e2) e3) e4) e5) e6 (by rintro i hi rfl; omega)) e7))) ?_
    rintro v_44 w9 ⟨rfl, e9⟩
    have z9 := e9.size
    refine O.yes rfl (isF' rfl c42) ?_
    refine O.mv ?_
    refine O.yes rfl (isF' rfl c42) ?_
    refine O.neqS rfl rfl ?_
    refine O.pickF (isF' rfl c42) ?_
    refine O.nil ?_
    refine hK7 _ _ ?_
    refine C.condD rfl (fun c47 => ?_) (fun c47 => ?_)
    ·
      refine C.seqK fun K9 hK9 => ?_
      refine C.region ?_
      refine O.build (cells := #[.int .i64 0, .int .i64 0]) rfl (by kernel_rfl) ?_
      refine O.storeA (vs := [.int .i64 0, .int .i64 0]) Tryz.sizeOf25 rfl rfl rfl (by simp [Value.oneCell']) (((((((h2.keep e2).keep e3).keep e4).keep e5).keepM e6 (by intro h; (try dsimp only at h); omega)).keep e7).keep e9) (Nat.le_of_ble_eq_true rfl) (fun w10 hs10 e10 z10 => ?_)
      refine O.asg ?_
      refine O.nil ?_
      refine hK9 _ _ ?_
      refine C.ret ?_
      refine Outs.cellA2 rfl Tryz.isAgg25 Tryz.sizeOf25 rfl rfl hs10 rfl ?_
      first
      | exact ⟨(congrArg Dt.gotE ((Dt.pparse_ok q1 q2).trans (if_neg (fun h => hv h.1)))).symm, (Ext.new (Ext.trans (Ext.trans (Ext.new (Ext.trans (Ext.trans (Ext.trans (Ext.trans e1 e2) e3) e4) e5) e6 (by rintro i hi rfl; omega)) e7) e9) e10 (by rintro i hi rfl; omega))⟩
      | exact ⟨(congrArg Dt.gotE ((Dt.pparse_ok q1 q2).trans (if_neg (fun h => c47 h.2)))).symm, (Ext.new (Ext.trans (Ext.trans (Ext.new (Ext.trans (Ext.trans (Ext.trans (Ext.trans e1 e2) e3) e4) e5) e6 (by rintro i hi rfl; omega)) e7) e9) e10 (by rintro i hi rfl; omega))⟩
      | exact ⟨(congrArg Dt.gotE ((Dt.pparse_ok q1 q2).trans (if_pos ⟨hv, Decidable.of_not_not c47⟩))).symm, (Ext.new (Ext.trans (Ext.trans (Ext.new (Ext.trans (Ext.trans (Ext.trans (Ext.trans e1 e2) e3) e4) e5) e6 (by rintro i hi rfl; omega)) e7) e9) e10 (by rintro i hi rfl; omega))⟩
    ·
      refine C.skip ?_
      refine hK6 _ _ ?_
      refine C.seqK fun K10 hK10 => ?_
      refine C.region ?_
      refine O.loadOA Tryz.isAgg25 Tryz.sizeOf25 rfl ((hs6.keep e7).keep e9) (Nat.le_of_ble_eq_true rfl) ?_
      refine O.storeA (vs := [.int .i64 r, .int .i64 c]) Tryz.sizeOf25 rfl rfl rfl (by simp [Value.oneCell']) (((((((h2.keep e2).keep e3).keep e4).keep e5).keepM e6 (by intro h; (try dsimp only at h); omega)).keep e7).keep e9) (Nat.le_of_ble_eq_true rfl) (fun w11 hs11 e11 z11 => ?_)
      refine O.asg ?_
      refine O.nil ?_
      refine hK10 _ _ ?_
      refine C.ret ?_
      refine Outs.cellA2 rfl Tryz.isAgg25 Tryz.sizeOf25 rfl rfl hs11 rfl ?_
      first
      | exact ⟨(congrArg Dt.gotE ((Dt.pparse_ok q1 q2).trans (if_neg (fun h => hv h.1)))).symm, (Ext.new (Ext.trans (Ext.trans (Ext.new (Ext.trans (Ext.trans (Ext.trans (Ext.trans e1 e2) e3) e4) e5) e6 (by rintro i hi rfl; omega)) e7) e9) e11 (by rintro i hi rfl; omega))⟩
      | exact ⟨(congrArg Dt.gotE ((Dt.pparse_ok q1 q2).trans (if_neg (fun h => c47 h.2)))).symm, (Ext.new (Ext.trans (Ext.trans (Ext.new (Ext.trans (Ext.trans (Ext.trans (Ext.trans e1 e2) e3) e4) e5) e6 (by rintro i hi rfl; omega)) e7) e9) e11 (by rintro i hi rfl; omega))⟩
      | exact ⟨(congrArg Dt.gotE ((Dt.pparse_ok q1 q2).trans (if_pos ⟨hv, Decidable.of_not_not c47⟩))).symm, (Ext.new (Ext.trans (Ext.trans (Ext.new (Ext.trans (Ext.trans (Ext.trans (Ext.trans e1 e2) e3) e4) e5) e6 (by rintro i hi rfl; omega)) e7) e9) e11 (by rintro i hi rfl; omega))⟩

theorem parse_b_spec (l : List UInt8) (es er : Value) (w : World) (hl : l.length ≤ 281474976710656) (hes : CellIs w 3 es) (her : CellIs w 4 er) (g1 : ∃ te pe, es = .iface te pe) (g2 : ∃ te pe, er = .iface te pe) (q1 : ∀ n, Lib.atoiAll (Dt.cut l).1 ≠ .ok n) :
    Ret Tryz.prog 57 #[str (l)] w (fun v w' => v = Dt.gotE (Dt.pparse l) ∧ Le w w') := by
  have hc := Dt.cut_len l
  refine enter (args := [str (l)]) (n := 50) Tryz.func57 rfl rfl (Nat.le_of_ble_eq_true rfl) ?_
  refine C.seqK fun K1 hK1 => ?_
  refine C.region ?_
  refine O.alloc Tryz.zeroValue25 (fun b2 w1 hb2 hz2 e1 => ?_)
  have z1 := e1.size
  have h2 := hz2.own
  have hl2 := h2.lt
  refine O.asg ?_
  refine O.nil ?_
  refine hK1 _ _ ?_
  refine C.seqK fun K2 hK2 => ?_
  refine C.region ?_
  refine O.mv ?_
  refine O.call Tryz.call67 (args2 rfl rfl) (cut_spec l _ hl) ?_
  rintro v_14 w2 ⟨bv14, rfl, e2⟩
  have z2 := e2.size
  refine O.mv ?_
  refine O.extract rfl rfl ?_
  refine O.extract rfl rfl ?_
  refine O.extract rfl rfl ?_
  refine O.asg ?_
  refine O.asg ?_
  refine O.asg ?_
  refine O.nil ?_
  refine hK2 _ _ ?_
  refine C.seqK fun K3 hK3 => ?_
  refine C.region ?_
  refine O.mv ?_
  refine O.call Tryz.call68 (args1 rfl) (atoi_err _ es er _ (by omega) q1 ((hes.keep e1).keep e2) ((her.keep e1).keep e2) g1 g2) ?_
  rintro v_20 w3 ⟨rv20, yv20, rfl, e3⟩
  have z3 := e3.size
  refine O.mv ?_
  refine O.extract rfl rfl ?_
  refine O.extract rfl rfl ?_
  refine O.asg ?_
  refine O.asg ?_
  refine O.nil ?_
  refine hK3 _ _ ?_
  refine C.seqK fun K4 hK4 => ?_
  refine C.region ?_
  refine O.mv ?_
  refine O.call Tryz.call68 (args1 rfl) (atoi_any _ es er _ (by omega) (((hes.keep e1).keep e2).keep e3) (((her.keep e1).keep e2).keep e3) g1 g2) ?_
  rintro v_25 w4 ⟨rv25, yv25, rfl, e4⟩
  have z4 := e4.size
  refine O.mv ?_
  refine O.extract rfl rfl ?_
  refine O.extract rfl rfl ?_
  refine O.asg ?_
  refine O.asg ?_
  refine O.nil ?_
  refine hK4 _ _ ?_
  refine C.seqK fun K5 hK5 => ?_
  refine C.region ?_
  refine O.mv ?_
  refine O.mv ?_
  refine O.build (cells := #[.int .i64 rv20, .int .i64 rv25]) rfl (by kernel_rfl) ?_
  refine O.alloc Tryz.zeroValue25 (fun b11 w5 hb11 hz11 e5 => ?_)
  have z5 := e5.size
  have h11 := hz11.own
  have hl11 := h11.lt
  refine O.storeA (vs := [.int .i64 rv20, .int .i64 rv25]) Tryz.sizeOf25 rfl rfl rfl (by simp [Value.oneCell']) h11 (Nat.le_of_ble_eq_true rfl) (fun w6 hs6 e6 z6 => ?_)
  refine O.nil ?_
  refine hK5 _ _ ?_
  refine C.seqK fun K6 hK6 => ?_
  refine C.seqK fun K7 hK7 => ?_
  refine C.region ?_
  refine O.mv ?_
  refine O.neqN1 rfl rfl Tryz.underlying93 ?_
  refine O.mv ?_
  refine O.no rfl (noB rfl rfl) ?_
  refine O.no rfl (noB rfl rfl) ?_
  refine O.pickT rfl ?_
  refine O.mv ?_
  refine O.no rfl (noB rfl rfl) ?_
  refine O.no rfl (noB rfl rfl) ?_
  refine O.no rfl (noB rfl rfl) ?_
  refine O.pickT rfl ?_
  refine O.mv ?_
  refine O.no rfl (noB rfl rfl) ?_
  refine O.no rfl (noB rfl rfl) ?_
  refine O.no rfl (noB rfl rfl) ?_
  refine O.no rfl (noB rfl rfl) ?_
  refine O.pickT rfl ?_
  refine O.nil ?_
  refine hK7 _ _ ?_
  refine C.condT rfl ?_
  refine C.seqK fun K8 hK8 => ?_
  refine C.region ?_
  refine O.build (cells := #[.int .i64 0, .int .i64 0]) rfl (by kernel_rfl) ?_
  refine O.storeA (vs := [.int .i64 0, .int .i64 0]) Tryz.sizeOf25 rfl rfl rfl (by simp [Value.oneCell']) (((((h2.keep e2).keep e3).keep e4).keep e5).keepM e6 (by intro h; (try dsimp only at h); omega)) (Nat.le_of_ble_eq_true rfl) (fun w7 hs7 e7 z7 => ?_)
  refine O.asg ?_
  refine O.nil ?_
  refine hK8 _ _ ?_
  refine C.ret ?_
  refine Outs.cellA2 rfl Tryz.isAgg25 Tryz.sizeOf25 rfl rfl hs7 rfl ?_
  exact ⟨(congrArg Dt.gotE (Dt.pparse_e1 q1)).symm, (Ext.new (Ext.new (Ext.trans (Ext.trans (Ext.trans (Ext.trans e1 e2) e3) e4) e5) e6 (by rintro i hi rfl; omega)) e7 (by rintro i hi rfl; omega))⟩

theorem parse_c_spec (l : List UInt8) (r : Int) (es er : Value) (w : World) (hl : l.length ≤ 281474976710656) (hes : CellIs w 3 es) (her : CellIs w 4 er) (g1 : ∃ te pe, es = .iface te pe) (g2 : ∃ te pe, er = .iface te pe) (q1 : Lib.atoiAll (Dt.cut l).1 = .ok r) (q2 : ∀ n, Lib.atoiAll (Dt.cut l).2 ≠ .ok n) :
    Ret Tryz.prog 57 #[str (l)] w (fun v w' => v = Dt.gotE (Dt.pparse l) ∧ Le w w') := by
  have hc := Dt.cut_len l
  refine enter (args := [str (l)]) (n := 50) Tryz.func57 rfl rfl (Nat.le_of_ble_eq_true rfl) ?_
  refine C.seqK fun K1 hK1 => ?_
  refine C.region ?_
  refine O.alloc Tryz.zeroValue25 (fun b2 w1 hb2 hz2 e1 => ?_)
  have z1 := e1.size
  have h2 := hz2.own
  have hl2 := h2.lt
  refine O.asg ?_
  refine O.nil ?_
  refine hK1 _ _ ?_
  refine C.seqK fun K2 hK2 => ?_
  refine C.region ?_
  refine O.mv ?_
  refine O.call Tryz.call67 (args2 rfl rfl) (cut_spec l _ hl) ?_
  rintro v_14 w2 ⟨bv14, rfl, e2⟩
  have z2 := e2.size
  refine O.mv ?_
  refine O.extract rfl rfl ?_
  refine O.extract rfl rfl ?_
  refine O.extract rfl rfl ?_
  refine O.asg ?_
  refine O.asg ?_
  refine O.asg ?_
  refine O.nil ?_
  refine hK2 _ _ ?_
  refine C.seqK fun K3 hK3 => ?_
  refine C.region ?_
  refine O.mv ?_
  refine O.call Tryz.call68 (args1 rfl) (atoi_ok _ _ _ (by omega) q1) ?_
  rintro v_20 w3 ⟨rfl, e3⟩
  have z3 := e3.size
  refine O.mv ?_
  refine O.extract rfl rfl ?_
  refine O.extract rfl rfl ?_
  refine O.asg ?_
  refine O.asg ?_
  refine O.nil ?_
  refine hK3 _ _ ?_
  refine C.seqK fun K4 hK4 => ?_
  refine C.region ?_
  refine O.mv ?_
  refine O.call Tryz.call68 (args1 rfl) (atoi_err _ es er _ (by omega) q2 (((hes.keep e1).keep e2).keep e3) (((her.keep e1).keep e2).keep e3) g1 g2) ?_
  rintro v_25 w4 ⟨rv25, yv25, rfl, e4⟩
  have z4 := e4.size
  refine O.mv ?_
  refine O.extract rfl rfl ?_
  refine O.extract rfl rfl ?_
  refine O.asg ?_
  refine O.asg ?_
  refine O.nil ?_
  refine hK4 _ _ ?_
  refine C.seqK fun K5 hK5 => ?_
  refine C.region ?_
  refine O.mv ?_
  refine O.mv ?_
  refine O.build (cells := #[.int .i64 r, .int .i64 rv25]) rfl (by kernel_rfl) ?_
  refine O.alloc Tryz.zeroValue25 (fun b11 w5 hb11 hz11 e5 => ?_)
  have z5 := e5.size
  have h11 := hz11.own
  have hl11 := h11.lt
  refine O.storeA (vs := [.int .i64 r, .int .i64 rv25]) Tryz.sizeOf25 rfl rfl rfl (by simp [Value.oneCell']) h11 (Nat.le_of_ble_eq_true rfl) (fun w6 hs6 e6 z6 => ?_)
  refine O.nil ?_
  refine hK5 _ _ ?_
  refine C.seqK fun K6 hK6 => ?_
  refine C.seqK fun K7 hK7 => ?_
  refine C.region ?_
  refine O.mv ?_
  refine O.neqN0 rfl Tryz.underlying93 ?_
  refine O.mv ?_
  refine O.yes rfl rfl ?_
  refine O.mv ?_
  refine O.yes rfl rfl ?_
  refine O.neqN1 rfl rfl Tryz.underlying93 ?_
  refine O.pickF rfl ?_
  refine O.mv ?_
  refine O.no rfl (noB rfl rfl) ?_
  refine O.no rfl (noB rfl rfl) ?_
  refine O.no rfl (noB rfl rfl) ?_
  refine O.pickT rfl ?_
  refine O.mv ?_
  refine O.no rfl (noB rfl rfl) ?_
  refine O.no rfl (noB rfl rfl) ?_
  refine O.no rfl (noB rfl rfl) ?_
  refine O.no rfl (noB rfl rfl) ?_
  refine O.pickT rfl ?_
  refine O.nil ?_
  refine hK7 _ _ ?_
  refine C.condT rfl ?_
  refine C.seqK fun K8 hK8 => ?_
  refine C.region ?_
  refine O.build (cells := #[.int .i64 0, .int .i64 0]) rfl (by kernel_rfl) ?_
  refine O.storeA (vs := [.int .i64 0, .int .i64 0]) Tryz.sizeOf25 rfl rfl rfl (by simp [Value.oneCell']) (((((h2.keep e2).keep e3).keep e4).keep e5).keepM e6 (by intro h; (try dsimp only at h); omega)) (Nat.le_of_ble_eq_true rfl) (fun w7 hs7 e7 z7 => ?_)
  refine O.asg ?_
  refine O.nil ?_
  refine hK8 _ _ ?_
  refine C.ret ?_
  refine Outs.cellA2 rfl Tryz.isAgg25 Tryz.sizeOf25 rfl rfl hs7 rfl ?_
  exact ⟨(congrArg Dt.gotE (Dt.pparse_e2 q2)).symm, (Ext.new (Ext.new (Ext.trans (Ext.trans (Ext.trans (Ext.trans e1 e2) e3) e4) e5) e6 (by rintro i hi rfl; omega)) e7 (by rintro i hi rfl; omega))⟩


theorem parse_spec (l : List UInt8) (es er : Value) (w : World) (hl : l.length ≤ 281474976710656) (htb : Tb w) (hes : CellIs w 3 es) (her : CellIs w 4 er) (g1 : ∃ te pe, es = .iface te pe) (g2 : ∃ te pe, er = .iface te pe) : Ret Tryz.prog 57 #[str l] w (fun v w' => v = Dt.gotE (Dt.pparse l) ∧ Le w w') := by
  by_cases h1 : ∃ r, Lib.atoiAll (Dt.cut l).1 = .ok r
  · obtain ⟨r, q1⟩ := h1
    by_cases h2 : ∃ c, Lib.atoiAll (Dt.cut l).2 = .ok c
    · obtain ⟨c, q2⟩ := h2
      exact parse_a_spec l r c w hl htb q1 q2
    · exact parse_c_spec l r es er w hl hes her g1 g2 q1 (fun n hn => h2 ⟨n, hn⟩)
  · exact parse_b_spec l es er w hl hes her g1 g2 (fun n hn => h1 ⟨n, hn⟩)

end Go.Proofs.YtbmbaajfkmejgaaGreatDoor
end
section
/-
  The walks of dots: the reference's texts. No condition beyond what each says.
-/
namespace Go.Proofs.YtbmbaajfkmejgaaGreatDoor
open Go.Pn Go.RowKit Go.Proofs
attribute [local irreducible] O C D

theorem digits_step_spec (n : Nat) (w : World) (hn : n ≤ 4294967295) (ih : ∀ m w, m < n → Ret Tryz.prog 55 #[.int .i64 (m : Int)] w (fun v w' => v = str (Lib.decDigits m) ∧ w' = w)) :
    Ret Tryz.prog 55 #[.int .i64 ((n : Int))] w (fun v w' => v = str (Lib.decDigits n) ∧ w' = w) := by
  refine enter (args := [.int .i64 ((n : Int))]) (n := 16) Tryz.func55 rfl rfl (Nat.le_of_ble_eq_true rfl) ?_
  refine C.seqK fun K1 hK1 => ?_
  refine C.region ?_
  refine O.asg ?_
  refine O.nil ?_
  refine hK1 _ _ ?_
  refine C.seqK fun K2 hK2 => ?_
  refine C.seqK fun K3 hK3 => ?_
  refine C.region ?_
  refine O.mv ?_
  refine O.lssI rfl rfl ?_
  refine O.nil ?_
  refine hK3 _ _ ?_
  refine C.condD rfl (fun c4 => ?_) (fun c4 => ?_)
  ·
    refine C.seqK fun K4 hK4 => ?_
    refine C.region ?_
    refine O.mv ?_
    refine O.mv ?_
    refine O.addI rfl rfl (by unfold InI; omega) ?_
    refine O.subS (l := Dt.ten) Tryz.underlying9 rfl (.inr ⟨_, _, rfl, rfl⟩) (.inr ⟨_, _, rfl, rfl⟩) (by have e : Dt.ten.length = 10 := rfl; rw [e]; omega) ?_
    refine O.asg ?_
    refine O.nil ?_
    refine hK4 _ _ ?_
    refine C.ret ?_
    refine Outs.one rfl rfl ?_
    first
    | exact ⟨congrArg str (Dt.dec_small (by omega)), rfl⟩
    | exact ⟨congrArg str (Dt.dec_big (by omega)), rfl⟩
  ·
    refine C.skip ?_
    refine hK2 _ _ ?_
    refine C.seqK fun K5 hK5 => ?_
    refine C.region ?_
    refine O.mv ?_
    refine O.quoI rfl rfl (by omega) ?_
    refine O.cast (v' := .int .i64 ((n / 10 : Nat) : Int)) rfl ?_
    refine O.call Tryz.call55 (args1 rfl) (ih (n / 10) _ (by omega)) ?_
    rintro v_11 w1 ⟨rfl, hw_⟩
    replace hw_ := hw_.symm
    subst hw_
    refine O.mv ?_
    refine O.remI rfl rfl (by omega) ?_
    refine O.cast (v' := .int .i64 ((n % 10 : Nat) : Int)) rfl ?_
    refine O.call Tryz.call55 (args1 rfl) (ih (n % 10) _ (by omega)) ?_
    rintro v_14 w1 ⟨rfl, hw_⟩
    replace hw_ := hw_.symm
    subst hw_
    refine O.addS rfl rfl (by have h1 := Dt.dec_len (n / 10); have h2 := Dt.dec_len (n % 10); omega) ?_
    refine O.asg ?_
    refine O.nil ?_
    refine hK5 _ _ ?_
    refine C.ret ?_
    refine Outs.one rfl rfl ?_
    first
    | exact ⟨congrArg str (Dt.dec_small (by omega)), rfl⟩
    | exact ⟨congrArg str (Dt.dec_big (by omega)), rfl⟩


theorem digits_nat (n : Nat) : ∀ w, n ≤ 4294967295 → Ret Tryz.prog 55 #[.int .i64 (n : Int)] w (fun v w' => v = str (Lib.decDigits n) ∧ w' = w) := by
  induction n using Nat.strongRecOn with
  | _ n ih => exact fun w hn => digits_step_spec n w hn (fun m w hm => ih m hm w (by omega))
theorem digits_spec (x : Int) (w : World) (hx : 0 ≤ x ∧ x ≤ 4294967295) : Ret Tryz.prog 55 #[.int .i64 x] w (fun v w' => v = str (Lib.itoa x) ∧ w' = w) := by
  obtain ⟨n, rfl⟩ := Int.eq_ofNat_of_zero_le hx.1
  have h := digits_nat n w (by omega)
  rw [Dt.itoa_nat (by omega), Int.toNat_natCast]
  exact h

theorem rtext_spec (d : Dt.Dot) (w : World) (hd : Dt.Valid d) :
    Ret Tryz.prog 44 #[Dt.dv (d)] w (fun v w' => v = str (Dt.text d) ∧ Le w w') := by
  have hd2 := hd
  unfold Dt.Valid at hd2
  refine enter (args := [Dt.dv (d)]) (n := 11) Tryz.func44 rfl rfl (Nat.le_of_ble_eq_true rfl) ?_
  refine C.seqK fun K1 hK1 => ?_
  refine C.region ?_
  refine O.box (v := Dt.dv (d)) rfl (fun b1 w1 hb1 hz1 e1 => ?_)
  have z1 := e1.size
  have h1 := hz1.own
  have hl1 := h1.lt
  refine O.asg ?_
  refine O.nil ?_
  refine hK1 _ _ ?_
  refine C.seqK fun K2 hK2 => ?_
  refine C.draw (by kernel_rfl) fun w2 e2 => ?_
  have z2 := e2.size
  refine D.take (i := 0) rfl rfl rfl rfl (by kernel_rfl) (Le.refl _) ⟨_, rfl⟩ (fun w_ hw_ N_ hN => (O.fieldAd Tryz.underlying25 rfl Tryz.sizeOf3 (by decide) rfl (O.nil hN))) ?_
  refine D.take (i := 1) rfl rfl rfl rfl (by kernel_rfl) (Le.refl _) ⟨_, rfl⟩ (fun w_ hw_ N_ hN => (O.loadO Tryz.isAgg3 rfl ((h1.keep e2).keep hw_) rfl (O.nil hN))) ?_
  refine D.take (i := 4) rfl rfl rfl rfl (by kernel_rfl) (Le.refl _) ⟨_, rfl⟩ (fun w_ hw_ N_ hN => (O.fieldAd Tryz.underlying25 rfl Tryz.sizeOf3 (by decide) rfl (O.nil hN))) ?_
  refine D.take (i := 5) rfl rfl rfl rfl (by kernel_rfl) (Le.refl _) ⟨_, rfl⟩ (fun w_ hw_ N_ hN => (O.loadO Tryz.isAgg3 rfl ((h1.keep e2).keep hw_) rfl (O.nil hN))) ?_
  refine D.one (i := 2) rfl rfl (by kernel_rfl) ?_
  refine O.call Tryz.call55 (args1 rfl) (digits_spec d.1 _ (by omega)) ?_
  rintro v_5 w3 ⟨rfl, hw_⟩
  replace hw_ := hw_.symm
  subst hw_
  refine O.nil ⟨(Le.refl _), ?_⟩
  refine D.take (i := 3) rfl rfl rfl rfl (by kernel_rfl) (Le.refl _) ⟨_, rfl⟩ (fun w_ hw_ N_ hN => (O.addS rfl rfl (by have := Dt.itoa_len hd2; simp; omega) (O.nil hN))) ?_
  refine D.one (i := 6) rfl rfl (by kernel_rfl) ?_
  refine O.call Tryz.call55 (args1 rfl) (digits_spec d.2 _ (by omega)) ?_
  rintro v_9 w3 ⟨rfl, hw_⟩
  replace hw_ := hw_.symm
  subst hw_
  refine O.nil ⟨(Le.refl _), ?_⟩
  refine D.take (i := 7) rfl rfl rfl rfl (by kernel_rfl) (Le.refl _) ⟨_, rfl⟩ (fun w_ hw_ N_ hN => (O.addS rfl rfl (by have := Dt.itoa_len hd2; simp; omega) (O.nil hN))) ?_
  refine D.take (i := 8) rfl rfl rfl rfl (by kernel_rfl) (Le.refl _) ⟨pure _, rfl⟩ (fun w_ hw_ N_ hN => (O.asg (O.nil hN))) ?_
  refine D.done (by kernel_rfl) ?_
  refine hK2 _ _ ?_
  refine C.ret ?_
  refine Outs.one rfl rfl ?_
  exact ⟨rfl, (Ext.trans e1 e2)⟩

set_option maxHeartbeats 2000000 in
theorem rparse_spec (l : List UInt8) (w : World) (hl : l.length ≤ maxLen) :
    Ret Tryz.prog 45 #[str (l)] w (fun v w' => v = Dt.gotB (Dt.rparse l) ∧ Le w w') := by
  have hl2 := hl
  unfold maxLen at hl2
  refine enter (args := [str (l)]) (n := 64) Tryz.func45 rfl rfl (Nat.le_of_ble_eq_true rfl) ?_
  refine C.seqK fun K1 hK1 => ?_
  refine C.region ?_
  refine O.alloc Tryz.zeroValue25 (fun b2 w1 hb2 hz2 e1 => ?_)
  have z1 := e1.size
  have h2 := hz2.own
  have hl2 := h2.lt
  refine O.asg ?_
  refine O.nil ?_
  refine hK1 _ _ ?_
  refine C.seqK fun K2 hK2 => ?_
  refine C.region ?_
  refine O.alloc Tryz.zeroValue81 (fun b4 w2 hb4 hz4 e2 => ?_)
  have z2 := e2.size
  have h4 := hz4.own
  have hl4 := h4.lt
  refine O.nil ?_
  refine hK2 _ _ ?_
  refine C.seqK fun K3 hK3 => ?_
  refine C.region ?_
  refine O.asg ?_
  refine O.nil ?_
  refine hK3 _ _ ?_
  refine C.seqK fun K4 hK4 => ?_
  refine C.seqK fun K5 hK5 => ?_
  refine C.region ?_
  refine O.asg ?_
  refine O.nil ?_
  refine hK5 _ _ ?_
  refine C.block fun K6 hK6 => ?_
  refine C.loop0 (σ := Nat × Int × Int × Int) (fun f0 w0 ⟨i, k, a, b⟩ f wz => f 5 = .int .i64 (k) ∧ f 6 = .int .i64 (i) ∧ f 0 = f0 0 ∧ f 2 = f0 2 ∧ f 4 = f0 4 ∧ Le w wz ∧ Own wz b4 81 [.int .i64 a, .int .i64 b] ∧ Own wz b2 25 [.int .i64 0, .int .i64 0] ∧ i ≤ l.length ∧ (k = 0 ∨ k = 1) ∧ (0 ≤ a ∧ a ≤ 1099511627776 ∧ 0 ≤ b ∧ b ≤ 1099511627776) ∧ Dt.rfrom 0 0 0 l = Dt.rfrom k.toNat a b (l.drop i)) (fun ⟨i, k, a, b⟩ => l.length - i) (0, 0, 0, 0) ?_ ?_
  ·
    refine ⟨rfl, rfl, rfl, rfl, rfl, (Ext.trans e1 e2), h4, (h2.keep e2), ?_⟩
    exact ⟨Nat.zero_le _, .inl rfl, ⟨by omega, by omega, by omega, by omega⟩, rfl⟩
  ·
    rintro ⟨i, k, a, b⟩ f_1 w3 ⟨s5_1, s6_1, s0_1, s2_1, s4_1, e_1, r0_1, r1_1, ⟨hk, hk1, hab, hp⟩⟩
    have z_1 := e_1.size
    have hb2l := r1_1.lt
    have hb4l := r0_1.lt
    refine C.seqK fun K7 hK7 => ?_
    refine C.seqK fun K8 hK8 => ?_
    refine C.region ?_
    refine O.mv ?_
    refine O.mv ?_
    refine O.lenS Tryz.underlying9 s0_1 ?_
    refine O.lssI s6_1 rfl ?_
    refine O.nil ?_
    refine hK8 _ _ ?_
    refine C.condD rfl (fun c11 => ?_) (fun c11 => ?_)
    ·
      have hk2 : i < l.length := by omega
      obtain ⟨c, hc⟩ : ∃ c : BitVec 8, c = (l[i]'hk2).toBitVec := ⟨_, rfl⟩
      have hcl := c.isLt
      refine C.skip ?_
      refine hK7 _ _ ?_
      refine C.seqK fun K9 hK9 => ?_
      refine C.block fun K10 hK10 => ?_
      refine C.block fun K11 hK11 => ?_
      refine C.seqK fun K12 hK12 => ?_
      refine C.region ?_
      refine O.mv ?_
      refine O.mv ?_
      refine O.indexS Tryz.underlying9 s0_1 s6_1 (by simp; omega) ?_
      refine O.cast (v' := .int .u8 (c.toNat : Int)) (by rw [hc]; simp [hk2]) ?_
      refine O.geqU (m := 8) (b := 48#8) rfl rfl ?_
      refine O.mv ?_
      refine O.cut 5 (fun f f' => f' 25 = .bool (decide (48#8 ≤ c ∧ c ≤ 57#8)) ∧ f' 0 = f 0 ∧ f' 2 = f 2 ∧ f' 4 = f 4 ∧ f' 5 = f 5 ∧ f' 6 = f 6) ?_ ?_
      ·
        refine O.splitD (x := .tmp 20) rfl (fun c20 => ?_) (fun c20 => ?_)
        ·
          refine O.yes rfl (isT rfl c20) ?_
          refine O.mv ?_
          refine O.yes rfl (isT rfl c20) ?_
          refine O.mv ?_
          refine O.yes rfl (isT rfl c20) ?_
          refine O.indexS Tryz.underlying9 s0_1 s6_1 (by simp; omega) ?_
          refine O.cast (v' := .int .u8 (c.toNat : Int)) (by rw [hc]; simp [hk2]) ?_
          refine O.yes rfl (isT rfl c20) ?_
          refine O.leqU (m := 8) (b := 57#8) rfl rfl ?_
          refine O.pickT (isT rfl c20) ?_
          refine O.nil ?_
          refine ⟨⟨?_, rfl, rfl, rfl, rfl, rfl⟩, rfl⟩
          first | exact rfl | exact Eq.trans rfl (congrArg Value.bool (dAnd (by assumption))) | exact Eq.trans rfl (congrArg Value.bool (dAndF (by assumption))) | exact Eq.trans rfl (congrArg Value.bool (dOr (by assumption))) | exact Eq.trans rfl (congrArg Value.bool (dOrT (by assumption)))
        ·
          refine O.no rfl (noB (isF rfl c20) rfl) ?_
          refine O.no rfl (noB (isF rfl c20) rfl) ?_
          refine O.no rfl (noB (isF rfl c20) rfl) ?_
          refine O.no rfl (noB (isF rfl c20) rfl) ?_
          refine O.pickF (isF rfl c20) ?_
          refine O.nil ?_
          refine ⟨⟨?_, rfl, rfl, rfl, rfl, rfl⟩, rfl⟩
          first | exact rfl | exact Eq.trans rfl (congrArg Value.bool (dAnd (by assumption))) | exact Eq.trans rfl (congrArg Value.bool (dAndF (by assumption))) | exact Eq.trans rfl (congrArg Value.bool (dOr (by assumption))) | exact Eq.trans rfl (congrArg Value.bool (dOrT (by assumption)))
      ·
        rintro f_2 ⟨s25_2, s0_2, s2_2, s4_2, s5_2, s6_2⟩
        refine O.asg ?_
        refine O.nil ?_
        refine hK12 _ _ ?_
        refine C.condD s25_2 (fun c15 => ?_) (fun c15 => ?_)
        ·
          have hc48 : 48 ≤ c.toNat := by have := c15.1; rw [BitVec.le_def] at this; exact this
          have hx : 0 ≤ (if k.toNat = 0 then a else b) ∧ (if k.toNat = 0 then a else b) ≤ 1099511627776 := by split <;> omega
          refine C.drawB (wB := w) (by kernel_rfl) fun w4 e4 => ?_
          have z4 := e4.size
          refine D.take (i := 0) rfl rfl rfl rfl (by kernel_rfl) (Ext.trans e_1 e4) ⟨pure _, rfl⟩ (fun w_ hw_ N_ hN => (O.mv (O.nil hN))) ?_
          refine D.take (i := 1) rfl rfl rfl rfl (by kernel_rfl) (Ext.trans e_1 e4) ⟨pure _, rfl⟩ (fun w_ hw_ N_ hN => (O.mv (O.nil hN))) ?_
          refine D.take (i := 5) rfl rfl rfl rfl (by kernel_rfl) (Ext.trans e_1 e4) ⟨pure _, rfl⟩ (fun w_ hw_ N_ hN => (O.mv (O.nil hN))) ?_
          refine D.take (i := 6) rfl rfl rfl rfl (by kernel_rfl) (Ext.trans e_1 e4) ⟨pure _, rfl⟩ (fun w_ hw_ N_ hN => (O.mv (O.nil hN))) ?_
          refine D.take (i := 7) rfl rfl rfl rfl (by kernel_rfl) (Ext.trans e_1 e4) ⟨_, rfl⟩ (fun w_ hw_ N_ hN => (O.indexS Tryz.underlying9 (Eq.trans s0_2 s0_1) (Eq.trans s6_2 s6_1) (by simp; omega) (O.nil hN))) ?_
          refine D.cast (v' := .int .u8 (c.toNat : Int)) (by rw [hc]; simp [hk2]) ?_
          refine D.take (i := 8) rfl rfl rfl rfl (by kernel_rfl) (Ext.trans e_1 e4) ⟨_, rfl⟩ (fun w_ hw_ N_ hN => (O.convUI (m := 8) Tryz.underlying5 Tryz.underlying3 rfl (by decide) (O.nil hN))) ?_
          refine D.one (i := 2) rfl rfl (by kernel_rfl) ?_
          refine O.idxA Tryz.underlying81 Tryz.sizeOf3 (Eq.trans s4_2 s4_1) (Eq.trans s5_2 s5_1) (by omega) ?_
          refine O.nil ⟨(Ext.trans e_1 e4), ?_⟩
          refine D.one (i := 3) rfl rfl (by kernel_rfl) ?_
          refine O.loadO Tryz.isAgg3 rfl (r0_1.keep e4) (Dt.arr_get hk1) ?_
          refine O.nil ⟨(Ext.trans e_1 e4), ?_⟩
          refine D.take (i := 4) rfl rfl rfl rfl (by kernel_rfl) (Ext.trans e_1 e4) ⟨_, rfl⟩ (fun w_ hw_ N_ hN => (O.mulI rfl rfl (by unfold InI; omega) (O.nil hN))) ?_
          refine D.take (i := 9) rfl rfl rfl rfl (by kernel_rfl) (Ext.trans e_1 e4) ⟨_, rfl⟩ (fun w_ hw_ N_ hN => (O.addI rfl rfl (by unfold InI; omega) (O.nil hN))) ?_
          refine D.take (i := 10) rfl rfl rfl rfl (by kernel_rfl) (Ext.trans e_1 e4) ⟨_, rfl⟩ (fun w_ hw_ N_ hN => (O.subI rfl rfl (by unfold InI; omega) (O.nil hN))) ?_
          refine D.one (i := 11) rfl rfl (by kernel_rfl) ?_
          refine O.minI rfl rfl ?_
          refine O.nil ⟨(Ext.trans e_1 e4), ?_⟩
          refine D.one (i := 12) rfl rfl (by kernel_rfl) ?_
          refine O.idxA Tryz.underlying81 Tryz.sizeOf3 (Eq.trans s4_2 s4_1) (Eq.trans s5_2 s5_1) (by omega) ?_
          refine O.nil ⟨(Ext.trans e_1 e4), ?_⟩
          refine D.one (i := 13) rfl rfl (by kernel_rfl) ?_
          refine O.store Tryz.sizeOf3 rfl rfl rfl (r0_1.keep e4) (by simp; omega) (fun w5 hs5 e5 z5 => ?_)
          try simp only [Nat.zero_add, Nat.mul_one] at hs5
          replace hs5 : Own w5 b4 81 ([Value.int .i64 a, .int .i64 b].set k.toNat (.int .i64 (Dt.cap (10 * (if k.toNat = 0 then a else b) + (c.toNat : Int) - 48)))) := hs5
          rw [Dt.arr_set hk1] at hs5
          refine O.nil ⟨(Ext.new (Ext.trans e_1 e4) e5 (by rintro i hi rfl; omega)), ?_⟩
          refine D.done (by kernel_rfl) ?_
          refine hK11 _ _ ?_
          refine hK10 _ _ ?_
          refine hK9 _ _ ?_
          refine C.region ?_
          refine O.mv ?_
          refine O.addI (Eq.trans s6_2 s6_1) rfl (by unfold InI; omega) ?_
          refine O.asg ?_
          refine O.nil ?_
          refine ⟨(i + 1, _, _, _), ⟨(Eq.trans s5_2 s5_1), rfl, (Eq.trans s0_2 s0_1), (Eq.trans s2_2 s2_1), (Eq.trans s4_2 s4_1), (Ext.new (Ext.trans e_1 e4) e5 (by rintro i hi rfl; omega)), hs5, ((r1_1.keep e4).keepM e5 (by intro h; (try dsimp only at h); omega)), ?_⟩, by first | omega | (simp only []; omega)⟩
          first
          | (refine ⟨by omega, hk1, ?_, hp.trans (Dt.from_dig (by rcases hk1 with rfl | rfl <;> decide) hk2 hc c15)⟩
             have h1 := Dt.cap_le (10 * (if k.toNat = 0 then a else b) + (c.toNat : Int) - 48)
             have h2 := Dt.cap_ge (n := 10 * (if k.toNat = 0 then a else b) + (c.toNat : Int) - 48) (by omega)
             unfold Dt.cap at h1 h2
             rcases hk1 with rfl | rfl
             · exact ⟨h2, h1, hab.2.2.1, hab.2.2.2⟩
             · exact ⟨hab.1, hab.2.1, h2, h1⟩)
          | (obtain ⟨c46, rfl⟩ := c39
             exact ⟨by omega, .inr rfl, hab, hp.trans (Dt.from_dot hk2 hc c15 c46)⟩)
        ·
          refine C.seqK fun K13 hK13 => ?_
          refine C.region ?_
          refine O.mv ?_
          refine O.mv ?_
          refine O.indexS Tryz.underlying9 (Eq.trans s0_2 s0_1) (Eq.trans s6_2 s6_1) (by simp; omega) ?_
          refine O.cast (v' := .int .u8 (c.toNat : Int)) (by rw [hc]; simp [hk2]) ?_
          refine O.eqlU (m := 8) (b := 46#8) rfl rfl ?_
          refine O.mv ?_
          refine O.cut 3 (fun f f' => f' 47 = .bool (decide (c = 46#8 ∧ k = 0)) ∧ f' 0 = f 0 ∧ f' 2 = f 2 ∧ f' 4 = f 4 ∧ f' 5 = f 5 ∧ f' 6 = f 6) ?_ ?_
          ·
            refine O.splitD (x := .tmp 44) rfl (fun c44 => ?_) (fun c44 => ?_)
            ·
              refine O.yes rfl (isT rfl c44) ?_
              refine O.mv ?_
              refine O.yes rfl (isT rfl c44) ?_
              refine O.eqlI (Eq.trans s5_2 s5_1) rfl ?_
              refine O.pickT (isT rfl c44) ?_
              refine O.nil ?_
              refine ⟨⟨?_, rfl, rfl, rfl, rfl, rfl⟩, rfl⟩
              first | exact rfl | exact Eq.trans rfl (congrArg Value.bool (dAnd (by assumption))) | exact Eq.trans rfl (congrArg Value.bool (dAndF (by assumption))) | exact Eq.trans rfl (congrArg Value.bool (dOr (by assumption))) | exact Eq.trans rfl (congrArg Value.bool (dOrT (by assumption)))
            ·
              refine O.no rfl (noB (isF rfl c44) rfl) ?_
              refine O.no rfl (noB (isF rfl c44) rfl) ?_
              refine O.pickF (isF rfl c44) ?_
              refine O.nil ?_
              refine ⟨⟨?_, rfl, rfl, rfl, rfl, rfl⟩, rfl⟩
              first | exact rfl | exact Eq.trans rfl (congrArg Value.bool (dAnd (by assumption))) | exact Eq.trans rfl (congrArg Value.bool (dAndF (by assumption))) | exact Eq.trans rfl (congrArg Value.bool (dOr (by assumption))) | exact Eq.trans rfl (congrArg Value.bool (dOrT (by assumption)))
          ·
            rintro f_3 ⟨s47_3, s0_3, s2_3, s4_3, s5_3, s6_3⟩
            refine O.asg ?_
            refine O.nil ?_
            refine hK13 _ _ ?_
            refine C.condD s47_3 (fun c39 => ?_) (fun c39 => ?_)
            ·
              refine C.region ?_
              refine O.asg ?_
              refine O.nil ?_
              refine hK11 _ _ ?_
              refine hK10 _ _ ?_
              refine hK9 _ _ ?_
              refine C.region ?_
              refine O.mv ?_
              refine O.addI (Eq.trans s6_3 (Eq.trans s6_2 s6_1)) rfl (by unfold InI; omega) ?_
              refine O.asg ?_
              refine O.nil ?_
              refine ⟨(i + 1, _, _, _), ⟨rfl, rfl, (Eq.trans s0_3 (Eq.trans s0_2 s0_1)), (Eq.trans s2_3 (Eq.trans s2_2 s2_1)), (Eq.trans s4_3 (Eq.trans s4_2 s4_1)), e_1, r0_1, r1_1, ?_⟩, by first | omega | (simp only []; omega)⟩
              first
              | (refine ⟨by omega, hk1, ?_, hp.trans (Dt.from_dig (by rcases hk1 with rfl | rfl <;> decide) hk2 hc c15)⟩
                 have h1 := Dt.cap_le (10 * (if k.toNat = 0 then a else b) + (c.toNat : Int) - 48)
                 have h2 := Dt.cap_ge (n := 10 * (if k.toNat = 0 then a else b) + (c.toNat : Int) - 48) (by omega)
                 unfold Dt.cap at h1 h2
                 rcases hk1 with rfl | rfl
                 · exact ⟨h2, h1, hab.2.2.1, hab.2.2.2⟩
                 · exact ⟨hab.1, hab.2.1, h2, h1⟩)
              | (obtain ⟨c46, rfl⟩ := c39
                 exact ⟨by omega, .inr rfl, hab, hp.trans (Dt.from_dot hk2 hc c15 c46)⟩)
            ·
              refine C.seqK fun K14 hK14 => ?_
              refine C.region ?_
              refine O.build (cells := #[.int .i64 0, .int .i64 0]) rfl (by kernel_rfl) ?_
              refine O.storeA (vs := [.int .i64 0, .int .i64 0]) Tryz.sizeOf25 rfl (Eq.trans s2_3 (Eq.trans s2_2 s2_1)) rfl (by simp [Value.oneCell']) r1_1 (Nat.le_of_ble_eq_true rfl) (fun w6 hs6 e6 z6 => ?_)
              refine O.asg ?_
              refine O.nil ?_
              refine hK14 _ _ ?_
              refine C.ret ?_
              refine Outs.cellA2 rfl Tryz.isAgg25 Tryz.sizeOf25 (Eq.trans s2_3 (Eq.trans s2_2 s2_1)) rfl hs6 rfl ?_
              first
              | exact ⟨(congrArg Dt.gotB (Dt.rparse_none (hp.trans (Dt.from_bad hk2 hc c15 (fun h => c39 ⟨h.1, by omega⟩))))).symm, (Ext.new e_1 e6 (by rintro i hi rfl; omega))⟩
              | exact ⟨(congrArg Dt.gotB ((Dt.rparse_some hend).trans (if_neg (fun h => hv h.1)))).symm, (Ext.new e_1 e6 (by rintro i hi rfl; omega))⟩
              | exact ⟨(congrArg Dt.gotB ((Dt.rparse_some hend).trans (if_neg (fun h => c61 h.2)))).symm, (Ext.new e_1 e6 (by rintro i hi rfl; omega))⟩
              | exact ⟨(congrArg Dt.gotB ((Dt.rparse_some hend).trans (if_pos ⟨hv, Decidable.of_not_not c61⟩))).symm, (Ext.new e_1 e6 (by rintro i hi rfl; omega))⟩
    ·
      have hend : Dt.rfrom 0 0 0 l = some (a, b) := Dt.from_end hp (by omega)
      refine C.exit ?_
      refine hK6 _ _ ?_
      refine hK4 _ _ ?_
      refine C.seqK fun K15 hK15 => ?_
      refine C.region ?_
      refine O.idxA (i := 0) Tryz.underlying81 Tryz.sizeOf3 s4_1 rfl (by omega) ?_
      refine O.loadO Tryz.isAgg3 rfl r0_1 rfl ?_
      refine O.idxA (i := 1) Tryz.underlying81 Tryz.sizeOf3 s4_1 rfl (by omega) ?_
      refine O.loadO Tryz.isAgg3 rfl r0_1 rfl ?_
      refine O.build (cells := #[.int .i64 a, .int .i64 b]) rfl (by kernel_rfl) ?_
      refine O.alloc Tryz.zeroValue25 (fun b7 w7 hb7 hz7 e7 => ?_)
      have z7 := e7.size
      have h7 := hz7.own
      have hl7 := h7.lt
      refine O.storeA (vs := [.int .i64 a, .int .i64 b]) Tryz.sizeOf25 rfl rfl rfl (by simp [Value.oneCell']) h7 (Nat.le_of_ble_eq_true rfl) (fun w8 hs8 e8 z8 => ?_)
      refine O.nil ?_
      refine hK15 _ _ ?_
      refine C.seqK fun K16 hK16 => ?_
      refine C.seqK fun K17 hK17 => ?_
      refine C.region ?_
      refine O.loadOA Tryz.isAgg25 Tryz.sizeOf25 rfl hs8 (Nat.le_of_ble_eq_true rfl) ?_
      refine O.call Tryz.call18 (args1 rfl) (rvalid_spec (a, b) _) ?_
      rintro v_54 w9 ⟨rfl, e9⟩
      have z9 := e9.size
      refine O.not rfl ?_
      refine O.mv ?_
      refine O.split (x := .tmp 56) rfl (fun c56 => ?_) (fun c56 => ?_)
      ·
        have hv : ¬ Dt.Valid (a, b) := by simpa using c56
        refine O.no rfl (noB (isT' rfl c56) rfl) ?_
        refine O.no rfl (noB (isT' rfl c56) rfl) ?_
        refine O.no rfl (noB (isT' rfl c56) rfl) ?_
        refine O.no rfl (noB (isT' rfl c56) rfl) ?_
        refine O.pickT (isT' rfl c56) ?_
        refine O.nil ?_
        refine hK17 _ _ ?_
        refine C.condT rfl ?_
        refine C.seqK fun K18 hK18 => ?_
        refine C.region ?_
        refine O.build (cells := #[.int .i64 0, .int .i64 0]) rfl (by kernel_rfl) ?_
        refine O.storeA (vs := [.int .i64 0, .int .i64 0]) Tryz.sizeOf25 rfl s2_1 rfl (by simp [Value.oneCell']) (((r1_1.keep e7).keepM e8 (by intro h; (try dsimp only at h); omega)).keep e9) (Nat.le_of_ble_eq_true rfl) (fun w10 hs10 e10 z10 => ?_)
        refine O.asg ?_
        refine O.nil ?_
        refine hK18 _ _ ?_
        refine C.ret ?_
        refine Outs.cellA2 rfl Tryz.isAgg25 Tryz.sizeOf25 s2_1 rfl hs10 rfl ?_
        first
        | exact ⟨(congrArg Dt.gotB (Dt.rparse_none (hp.trans (Dt.from_bad hk2 hc c15 (fun h => c39 ⟨h.1, by omega⟩))))).symm, (Ext.new (Ext.trans (Ext.new (Ext.trans e_1 e7) e8 (by rintro i hi rfl; omega)) e9) e10 (by rintro i hi rfl; omega))⟩
        | exact ⟨(congrArg Dt.gotB ((Dt.rparse_some hend).trans (if_neg (fun h => hv h.1)))).symm, (Ext.new (Ext.trans (Ext.new (Ext.trans e_1 e7) e8 (by rintro i hi rfl; omega)) e9) e10 (by rintro i hi rfl; omega))⟩
        | exact ⟨(congrArg Dt.gotB ((Dt.rparse_some hend).trans (if_neg (fun h => c61 h.2)))).symm, (Ext.new (Ext.trans (Ext.new (Ext.trans e_1 e7) e8 (by rintro i hi rfl; omega)) e9) e10 (by rintro i hi rfl; omega))⟩
        | exact ⟨(congrArg Dt.gotB ((Dt.rparse_some hend).trans (if_pos ⟨hv, Decidable.of_not_not c61⟩))).symm, (Ext.new (Ext.trans (Ext.new (Ext.trans e_1 e7) e8 (by rintro i hi rfl; omega)) e9) e10 (by rintro i hi rfl; omega))⟩
      ·
        have hv : Dt.Valid (a, b) := by simpa using c56
        refine O.yes rfl (isF' rfl c56) ?_
        refine O.loadOA Tryz.isAgg25 Tryz.sizeOf25 rfl (hs8.keep e9) (Nat.le_of_ble_eq_true rfl) ?_
        refine O.yes rfl (isF' rfl c56) ?_
        refine O.call Tryz.call44 (args1 rfl) (rtext_spec (a, b) _ hv) ?_
        rintro v_58 w11 ⟨rfl, e11⟩
        have z11 := e11.size
        refine O.yes rfl (isF' rfl c56) ?_
        refine O.mv ?_
        refine O.yes rfl (isF' rfl c56) ?_
        refine O.neqS rfl s0_1 ?_
        refine O.pickF (isF' rfl c56) ?_
        refine O.nil ?_
        refine hK17 _ _ ?_
        refine C.condD rfl (fun c61 => ?_) (fun c61 => ?_)
        ·
          refine C.seqK fun K19 hK19 => ?_
          refine C.region ?_
          refine O.build (cells := #[.int .i64 0, .int .i64 0]) rfl (by kernel_rfl) ?_
          refine O.storeA (vs := [.int .i64 0, .int .i64 0]) Tryz.sizeOf25 rfl s2_1 rfl (by simp [Value.oneCell']) ((((r1_1.keep e7).keepM e8 (by intro h; (try dsimp only at h); omega)).keep e9).keep e11) (Nat.le_of_ble_eq_true rfl) (fun w12 hs12 e12 z12 => ?_)
          refine O.asg ?_
          refine O.nil ?_
          refine hK19 _ _ ?_
          refine C.ret ?_
          refine Outs.cellA2 rfl Tryz.isAgg25 Tryz.sizeOf25 s2_1 rfl hs12 rfl ?_
          first
          | exact ⟨(congrArg Dt.gotB (Dt.rparse_none (hp.trans (Dt.from_bad hk2 hc c15 (fun h => c39 ⟨h.1, by omega⟩))))).symm, (Ext.new (Ext.trans (Ext.trans (Ext.new (Ext.trans e_1 e7) e8 (by rintro i hi rfl; omega)) e9) e11) e12 (by rintro i hi rfl; omega))⟩
          | exact ⟨(congrArg Dt.gotB ((Dt.rparse_some hend).trans (if_neg (fun h => hv h.1)))).symm, (Ext.new (Ext.trans (Ext.trans (Ext.new (Ext.trans e_1 e7) e8 (by rintro i hi rfl; omega)) e9) e11) e12 (by rintro i hi rfl; omega))⟩
          | exact ⟨(congrArg Dt.gotB ((Dt.rparse_some hend).trans (if_neg (fun h => c61 h.2)))).symm, (Ext.new (Ext.trans (Ext.trans (Ext.new (Ext.trans e_1 e7) e8 (by rintro i hi rfl; omega)) e9) e11) e12 (by rintro i hi rfl; omega))⟩
          | exact ⟨(congrArg Dt.gotB ((Dt.rparse_some hend).trans (if_pos ⟨hv, Decidable.of_not_not c61⟩))).symm, (Ext.new (Ext.trans (Ext.trans (Ext.new (Ext.trans e_1 e7) e8 (by rintro i hi rfl; omega)) e9) e11) e12 (by rintro i hi rfl; omega))⟩
        ·
          refine C.skip ?_
          refine hK16 _ _ ?_
          refine C.seqK fun K20 hK20 => ?_
          refine C.region ?_
          refine O.loadOA Tryz.isAgg25 Tryz.sizeOf25 rfl ((hs8.keep e9).keep e11) (Nat.le_of_ble_eq_true rfl) ?_
          refine O.storeA (vs := [.int .i64 a, .int .i64 b]) Tryz.sizeOf25 rfl s2_1 rfl (by simp [Value.oneCell']) ((((r1_1.keep e7).keepM e8 (by intro h; (try dsimp only at h); omega)).keep e9).keep e11) (Nat.le_of_ble_eq_true rfl) (fun w13 hs13 e13 z13 => ?_)
          refine O.asg ?_
          refine O.nil ?_
          refine hK20 _ _ ?_
          refine C.ret ?_
          refine Outs.cellA2 rfl Tryz.isAgg25 Tryz.sizeOf25 s2_1 rfl hs13 rfl ?_
          first
          | exact ⟨(congrArg Dt.gotB (Dt.rparse_none (hp.trans (Dt.from_bad hk2 hc c15 (fun h => c39 ⟨h.1, by omega⟩))))).symm, (Ext.new (Ext.trans (Ext.trans (Ext.new (Ext.trans e_1 e7) e8 (by rintro i hi rfl; omega)) e9) e11) e13 (by rintro i hi rfl; omega))⟩
          | exact ⟨(congrArg Dt.gotB ((Dt.rparse_some hend).trans (if_neg (fun h => hv h.1)))).symm, (Ext.new (Ext.trans (Ext.trans (Ext.new (Ext.trans e_1 e7) e8 (by rintro i hi rfl; omega)) e9) e11) e13 (by rintro i hi rfl; omega))⟩
          | exact ⟨(congrArg Dt.gotB ((Dt.rparse_some hend).trans (if_neg (fun h => c61 h.2)))).symm, (Ext.new (Ext.trans (Ext.trans (Ext.new (Ext.trans e_1 e7) e8 (by rintro i hi rfl; omega)) e9) e11) e13 (by rintro i hi rfl; omega))⟩
          | exact ⟨(congrArg Dt.gotB ((Dt.rparse_some hend).trans (if_pos ⟨hv, Decidable.of_not_not c61⟩))).symm, (Ext.new (Ext.trans (Ext.trans (Ext.new (Ext.trans e_1 e7) e8 (by rintro i hi rfl; omega)) e9) e11) e13 (by rintro i hi rfl; omega))⟩

end Go.Proofs.YtbmbaajfkmejgaaGreatDoor
end
section
/-
  The walks of vectors' texts. Conditions: slices as they lie in memory; the library's table.
-/
namespace Go.Proofs.YtbmbaajfkmejgaaGreatDoor
open Go.Pn Go.RowKit Go.Proofs
attribute [local irreducible] O C D

theorem inf9 : ∃ ie, Tryz.prog.info? 9 = some ie ∧ ie.size = 1 ∧ ie.bytes = 16 ∧ ie.zero = some (.string ⟨#[]⟩) := by
  have h : (Tryz.prog.info? 9).isSome = true := by kernel_rfl
  exact ⟨(Tryz.prog.info? 9).get h, (Option.some_get h).symm, by kernel_rfl, by kernel_rfl, by kernel_rfl⟩

theorem dtext_ok (d : Dt.Dot) (w : World) (hd : Dt.Valid d) (htb : Tb w) : Ret Tryz.prog 48 #[Dt.dv d] w (fun v w' => v = .tuple #[str (Dt.text d), .int .i64 0] ∧ Le w w') :=
  (dtext_spec d w htb).mono fun _ _ h => ⟨h.1.trans (if_pos hd), h.2⟩
theorem join_spec (v : Value) (l : List (List UInt8)) (B : Nat) (w : World) (h : OwnF strF 9 B w v l) (hne : l ≠ []) (hN : l.length ≤ 1000000) (hlen : (Vc.jn l).length ≤ 140737488355328) :
    Ret Tryz.prog 49 #[v, str [32]] w (fun r w' => r = str (Vc.jn l) ∧ Le w w') := by
  rcases h.sl.flat with ⟨a, rfl, rfl⟩ | ⟨b, off, cap, hF, rfl, hc, hlt, hcell⟩
  · exact absurd rfl hne
  · have e1 : (l.map (fun s => (⟨s.toArray⟩ : ByteArray))).map (·.data.toList) = l := by
      rw [List.map_map]
      conv => rhs; rw [← List.map_id l]
      apply List.map_congr_left
      intro a _
      rfl
    have hjj := Tryz.strings_Join b off cap (l.map (fun s => ⟨s.toArray⟩)) ⟨#[32]⟩ w (fun j x hx => by
        rw [List.getElem?_map] at hx
        obtain ⟨s, hs, rfl⟩ := Option.map_eq_some_iff.1 hx
        refine hcell j (str s) ?_
        have e2 : l.flatMap strF.e = l.map str := by
          show l.flatMap (fun x => [str x]) = l.map str
          clear hx hs h hcell hc hne hN hlen e1 hF
          induction l with
          | nil => rfl
          | cons a l ih => rw [List.flatMap_cons, ih]; rfl
        rw [e2, List.getElem?_map, hs]
        rfl) hlt (by rw [List.length_map]; omega) (by rw [List.length_map]; omega) (by rw [e1]; exact hlen)
    rw [e1, List.length_map] at hjj
    refine Ret.of hjj ?_
    rintro e w' ⟨rfl, hb⟩
    exact ⟨_, rfl, rfl, Le.of_below hb (Nat.le_refl _)⟩

theorem vraise_spec (v0 : Value) (l : List Dt.Dot) (F : Nat → Prop) (d : Dt.Dot) (w : World) (hl : Sl Dt.dotF.enc w F v0 l) (hF : ∀ k, F k → k < w.heap.size) (hn : l.length ≤ 1000000) :
    Ret Tryz.prog 40 #[v0, Dt.dv (d)] w (fun v w' => Le w w' ∧ ∃ u, v = .tuple #[u, .int .i64 (if Cn.vecValid l && Cn.vecValid [d] then 0 else 2)] ∧ OwnF Dt.dotF 25 w.heap.size w' u (if Cn.vecValid l && Cn.vecValid [d] then Vc.mrg l [d] else [])) := by
  have hle := hl.le
  have _hF9 := hF
  obtain ⟨ie25, ti25, ts25, tb25, tz25⟩ := inf25
  refine enter (args := [v0, Dt.dv (d)]) (n := 12) Tryz.func40 rfl rfl (Nat.le_of_ble_eq_true rfl) ?_
  refine C.seqK fun K1 hK1 => ?_
  refine C.region ?_
  refine O.box (v := Dt.dv (d)) rfl (fun b3 w1 hb3 hz3 e1 => ?_)
  have z1 := e1.size
  have h3 := hz3.own
  have hl3 := h3.lt
  refine O.asg ?_
  refine O.asg ?_
  refine O.nil ?_
  refine hK1 _ _ ?_
  refine C.seqK fun K2 hK2 => ?_
  refine C.region ?_
  refine O.mv ?_
  refine O.loadOA Tryz.isAgg25 Tryz.sizeOf25 rfl h3 (Nat.le_of_ble_eq_true rfl) ?_
  refine O.litG (G := Dt.dotF) [d] Tryz.underlying23 ti25 ts25 tz25 rfl (by decide) (by decide) rfl (fun b8 w2 hb8 hz8 e2 => ?_)
  have z2 := e2.size
  have h8 := hz8.own
  have hq8 := Sl.litG (n := 1) h8 rfl (by unfold maxLen; omega)
  refine O.call Tryz.call23 (args2 rfl rfl) (vmerge_spec v0 l (.slice (some ⟨b8, 0, none⟩) 1 1) [d] F (fun k => k = b8) _ ((hl.keep e1).keep e2) hq8 (fun j hj => by have q1 := hF j hj; omega) (fun j hj => by have hj : j = b8 := hj; have q1 := (h8).lt; omega) hn (by simp)) ?_
  rintro v_9 w3 ⟨e3, uv9, rfl, h9⟩
  have z3 := e3.size
  refine O.extract rfl rfl ?_
  refine O.extract rfl rfl ?_
  refine O.asg ?_
  refine O.asg ?_
  refine O.nil ?_
  refine hK2 _ _ ?_
  refine C.ret ?_
  refine Outs.two rfl rfl rfl ?_
  exact ⟨(Ext.trans (Ext.trans e1 e2) e3), _, rfl, (h9).low (by omega)⟩

set_option maxHeartbeats 2000000 in
theorem vtext_spec (v0 : Value) (l : List Dt.Dot) (F : Nat → Prop) (w : World) (hl : Sl Dt.dotF.enc w F v0 l) (hn : l.length ≤ 1000) (htb : Tb w) :
    Ret Tryz.prog 32 #[v0] w (fun v w' => v = (if Cn.vecValid l then .tuple #[str (Vc.vtext l), .int .i64 0] else .tuple #[str [], .int .i64 2]) ∧ Le w w') := by
  have hle := hl.le
  obtain ⟨ie9, ti9, ts9, tb9, tz9⟩ := inf9
  refine enter (args := [v0]) (n := 35) Tryz.func32 rfl rfl (Nat.le_of_ble_eq_true rfl) ?_
  refine C.seqK fun K1 hK1 => ?_
  refine C.region ?_
  refine O.asg ?_
  refine O.asg ?_
  refine O.nil ?_
  refine hK1 _ _ ?_
  refine C.seqK fun K2 hK2 => ?_
  refine C.block fun K3 hK3 => ?_
  refine C.seqK fun K4 hK4 => ?_
  refine C.region ?_
  refine O.mv ?_
  refine O.call Tryz.call9 (args1 rfl) (vecValid_spec _ _ _ _ hl) ?_
  rintro v_11 w1 ⟨rfl, e1⟩
  have z1 := e1.size
  refine O.not rfl ?_
  refine O.asg ?_
  refine O.nil ?_
  refine hK4 _ _ ?_
  refine C.cond rfl (fun c9 => ?_) (fun c9 => ?_)
  ·
    have hva : Cn.vecValid l = false := by simpa using c9
    refine C.seqK fun K5 hK5 => ?_
    refine C.region ?_
    refine O.asg ?_
    refine O.asg ?_
    refine O.nil ?_
    refine hK5 _ _ ?_
    refine C.ret ?_
    refine Outs.two rfl rfl rfl ?_
    first
    | (rw [hva]; exact ⟨rfl, e1⟩)
    | (rw [hva]; exact ⟨(show Value.tuple #[str [45], .int .i64 0] = Value.tuple #[str (Vc.vtext l), .int .i64 0] by unfold Vc.vtext; rw [if_pos hnil]), e1⟩)
    | (rw [hva]; exact ⟨(show Value.tuple #[str (Vc.jn (l.map Dt.text)), .int .i64 0] = Value.tuple #[str (Vc.vtext l), .int .i64 0] by unfold Vc.vtext; rw [if_neg hnn]), e1⟩)
  ·
    have hva : Cn.vecValid l = true := by simpa using c9
    have hok := Vc.ok_iff.1 hva
    refine C.seqK fun K6 hK6 => ?_
    refine C.region ?_
    refine O.mv ?_
    refine O.len Tryz.underlying23 rfl (hl.keep e1) ?_
    refine O.eqlI rfl rfl ?_
    refine O.asg ?_
    refine O.nil ?_
    refine hK6 _ _ ?_
    refine C.condD rfl (fun c13 => ?_) (fun c13 => ?_)
    ·
      have hnil : l = [] := List.eq_nil_of_length_eq_zero (by omega)
      refine C.seqK fun K7 hK7 => ?_
      refine C.region ?_
      refine O.asg ?_
      refine O.asg ?_
      refine O.nil ?_
      refine hK7 _ _ ?_
      refine C.ret ?_
      refine Outs.two rfl rfl rfl ?_
      first
      | (rw [hva]; exact ⟨rfl, e1⟩)
      | (rw [hva]; exact ⟨(show Value.tuple #[str [45], .int .i64 0] = Value.tuple #[str (Vc.vtext l), .int .i64 0] by unfold Vc.vtext; rw [if_pos hnil]), e1⟩)
      | (rw [hva]; exact ⟨(show Value.tuple #[str (Vc.jn (l.map Dt.text)), .int .i64 0] = Value.tuple #[str (Vc.vtext l), .int .i64 0] by unfold Vc.vtext; rw [if_neg hnn]), e1⟩)
    ·
      have hnn : l ≠ [] := fun q => c13 (by rw [q]; rfl)
      have hne : l.map Dt.text ≠ [] := fun q => hnn (List.map_eq_nil_iff.1 q)
      refine C.skip ?_
      refine hK3 _ _ ?_
      refine hK2 _ _ ?_
      refine C.seqK fun K8 hK8 => ?_
      refine C.region ?_
      refine O.asg ?_
      refine O.nil ?_
      refine hK8 _ _ ?_
      refine C.seqK fun K9 hK9 => ?_
      refine C.seqK fun K10 hK10 => ?_
      refine C.region ?_
      refine O.mv ?_
      refine O.len Tryz.underlying23 rfl (hl.keep e1) ?_
      refine O.mv ?_
      refine O.nil ?_
      refine hK10 _ _ ?_
      refine C.block fun K11 hK11 => ?_
      refine C.loop0 (σ := Nat × Value) (fun f0 w0 ⟨k, o⟩ f wz => f 4 = o ∧ f 19 = .int .i64 ((k : Int)) ∧ f 2 = f0 2 ∧ f 3 = f0 3 ∧ f 17 = f0 17 ∧ f 18 = f0 18 ∧ Le w wz ∧ OwnF strF 9 w.heap.size wz o ((l.take k).map Dt.text) ∧ k ≤ l.length) (fun ⟨k, o⟩ => l.length - k) (0, .slice none 0 0) ?_ ?_
      ·
        refine ⟨rfl, rfl, rfl, rfl, rfl, rfl, e1, (OwnF.nil _ _ _ _), ?_⟩
        exact Nat.zero_le _
      ·
        rintro ⟨k, o⟩ f_1 w2 ⟨s4_1, s19_1, s2_1, s3_1, s17_1, s18_1, e_1, r0_1, hk⟩
        have z_1 := e_1.size
        have r0_1s := r0_1.sl
        refine C.seqK fun K12 hK12 => ?_
        refine C.region ?_
        refine O.lssI s19_1 s18_1 ?_
        refine O.nil ?_
        refine hK12 _ _ ?_
        refine C.seqK fun K13 hK13 => ?_
        refine C.condD rfl (fun c20 => ?_) (fun c20 => ?_)
        ·
          have hk2 : k < l.length := by omega
          refine C.skip ?_
          refine hK13 _ _ ?_
          refine C.seqK fun K14 hK14 => ?_
          refine C.block fun K15 hK15 => ?_
          refine C.seqK fun K16 hK16 => ?_
          refine C.region ?_
          refine O.idx Tryz.underlying23 Tryz.sizeOf25 rfl s17_1 (hl.keep e_1) s19_1 (by omega) (fun a21 h21 => ?_)
          refine O.loadG (G := Dt.dotF) Tryz.isAgg25 Tryz.sizeOf25 rfl h21 ?_
          refine O.alloc Tryz.zeroValue25 (fun b6 w3 hb6 hz6 e3 => ?_)
          have z3 := e3.size
          have h6 := hz6.own
          have hl6 := h6.lt
          refine O.storeA (vs := [.int .i64 (l[(k : Int).toNat]'(by omega)).1, .int .i64 (l[(k : Int).toNat]'(by omega)).2]) Tryz.sizeOf25 rfl rfl rfl (by simp [Value.oneCell']) h6 (Nat.le_of_ble_eq_true rfl) (fun w4 hs4 e4 z4 => ?_)
          refine O.nil ?_
          refine hK16 _ _ ?_
          refine C.seqK fun K17 hK17 => ?_
          refine C.region ?_
          refine O.loadOA Tryz.isAgg25 Tryz.sizeOf25 rfl hs4 (Nat.le_of_ble_eq_true rfl) ?_
          refine O.call Tryz.call48 (args1 rfl) (dtext_ok (l[(k : Int).toNat]'(by omega)) _ (hok.2 _ (List.getElem_mem _)) (htb.keep (Ext.new (Ext.trans e_1 e3) e4 (by rintro i hi rfl; omega)))) ?_
          rintro v_25 w5 ⟨rfl, e5⟩
          have z5 := e5.size
          refine O.mv ?_
          refine O.extract rfl rfl ?_
          refine O.extract rfl rfl ?_
          refine O.asg ?_
          refine O.asg ?_
          refine O.nil ?_
          refine hK17 _ _ ?_
          refine C.region ?_
          refine O.mv ?_
          refine O.mv ?_
          refine O.litn [str (Dt.text (l[(k : Int).toNat]'(by omega)))] Tryz.underlying70 ti9 ts9 tz9 rfl (by decide) (by decide) rfl (by intro u hu; rw [List.mem_singleton.1 hu]; rfl) (fun b30 w6 hb30 hz30 e6 => ?_)
          have z6 := e6.size
          have h30 := hz30.own
          have hl30 := h30.lt
          have h30s : Sl strF.enc w6 (fun k => k = b30) (.slice (some ⟨b30, 0, none⟩) 1 1) [Dt.text (l[(k : Int).toNat]'(by omega))] := Sl.of_own (G := strF) h30 rfl (Nat.le_refl _) (by unfold maxLen; omega) (by simp [strF])
          refine O.appF (G := strF) Tryz.underlying70 ti9 tz9 ts9 rfl s4_1 rfl ((((r0_1.keep e3).keepM e4 (fun k hk h => by have := r0_1.bk_ge k hk; (try dsimp only at h); omega)).keep e5).keep e6) h30s (by rw [tb9]; simp; omega) (by unfold maxLen; simp; omega) (by omega) (fun v31 w7 h31 e7 => ?_)
          have z7 := e7.size
          have h31s := h31.sl
          refine O.asg ?_
          refine O.nil ?_
          refine hK15 _ _ ?_
          refine hK14 _ _ ?_
          refine C.region ?_
          refine O.addI s19_1 rfl (by unfold InI; omega) ?_
          refine O.mv ?_
          refine O.nil ?_
          refine ⟨(k + 1, _), ⟨rfl, rfl, s2_1, s3_1, s17_1, s18_1, (Ext.new (Ext.trans (Ext.trans (Ext.new (Ext.trans e_1 e3) e4 (by rintro i hi rfl; omega)) e5) e6) e7 (by intro i hi h; have := ((((r0_1.keep e3).keepM e4 (fun k hk h => by have := r0_1.bk_ge k hk; (try dsimp only at h); omega)).keep e5).keep e6).bk_ge i h; omega)), (by rw [List.take_succ_eq_append_getElem hk2, List.map_append]; exact h31), ?_⟩, by first | omega | (simp only []; omega)⟩
          omega
        ·
          obtain rfl : k = l.length := by omega
          have h4x := r0_1
          rw [List.take_length] at h4x
          refine C.exit ?_
          refine hK11 _ _ ?_
          refine hK9 _ _ ?_
          refine C.seqK fun K18 hK18 => ?_
          refine C.region ?_
          refine O.mv ?_
          refine O.call Tryz.call49 (args2 s4_1 rfl) (join_spec o (l.map Dt.text) _ _ h4x hne (by rw [List.length_map]; omega) (by have q1 := Vc.jn_len hok.2; omega)) ?_
          rintro v_34 w8 ⟨rfl, e8⟩
          have z8 := e8.size
          refine O.asg ?_
          refine O.asg ?_
          refine O.nil ?_
          refine hK18 _ _ ?_
          refine C.ret ?_
          refine Outs.two rfl rfl rfl ?_
          first
          | (rw [hva]; exact ⟨rfl, (Ext.trans e_1 e8)⟩)
          | (rw [hva]; exact ⟨(show Value.tuple #[str [45], .int .i64 0] = Value.tuple #[str (Vc.vtext l), .int .i64 0] by unfold Vc.vtext; rw [if_pos hnil]), (Ext.trans e_1 e8)⟩)
          | (rw [hva]; exact ⟨(show Value.tuple #[str (Vc.jn (l.map Dt.text)), .int .i64 0] = Value.tuple #[str (Vc.vtext l), .int .i64 0] by unfold Vc.vtext; rw [if_neg hnn]), (Ext.trans e_1 e8)⟩)

set_option maxHeartbeats 1000000 in
theorem rvtext_spec (v0 : Value) (l : List Dt.Dot) (F : Nat → Prop) (w : World) (hl : Sl Dt.dotF.enc w F v0 l) (hn : l.length ≤ 1000) (hva : Cn.vecValid l = true) :
    Ret Tryz.prog 28 #[v0] w (fun v w' => v = str (Vc.vtext l) ∧ Le w w') := by
  have hle := hl.le
  have hok := Vc.ok_iff.1 hva
  refine enter (args := [v0]) (n := 27) Tryz.func28 rfl rfl (Nat.le_of_ble_eq_true rfl) ?_
  refine C.seqK fun K1 hK1 => ?_
  refine C.region ?_
  refine O.asg ?_
  refine O.nil ?_
  refine hK1 _ _ ?_
  refine C.seqK fun K2 hK2 => ?_
  refine C.seqK fun K3 hK3 => ?_
  refine C.region ?_
  refine O.mv ?_
  refine O.len Tryz.underlying23 rfl hl ?_
  refine O.eqlI rfl rfl ?_
  refine O.nil ?_
  refine hK3 _ _ ?_
  refine C.condD rfl (fun c7 => ?_) (fun c7 => ?_)
  ·
    have hnil : l = [] := List.eq_nil_of_length_eq_zero (by omega)
    refine C.seqK fun K4 hK4 => ?_
    refine C.region ?_
    refine O.asg ?_
    refine O.nil ?_
    refine hK4 _ _ ?_
    refine C.ret ?_
    refine Outs.one rfl rfl ?_
    first
    | exact ⟨congrArg str (show [45] = Vc.vtext l by unfold Vc.vtext; rw [if_pos hnil]), (Le.refl _)⟩
    | (have e8 : k + 1 = l.length := by omega
       exact ⟨congrArg str (show Vc.jn ((l.take (k + 1)).map Dt.text) = Vc.vtext l by unfold Vc.vtext; rw [if_neg hnn, e8, List.take_length]), (Le.refl _)⟩)
  ·
    have hnn : l ≠ [] := fun q => c7 (by rw [q]; rfl)
    have hpos : 0 < l.length := List.length_pos_iff.2 hnn
    refine C.skip ?_
    refine hK2 _ _ ?_
    refine C.seqK fun K5 hK5 => ?_
    refine C.region ?_
    refine O.mv ?_
    refine O.idx Tryz.underlying23 Tryz.sizeOf25 rfl rfl hl rfl (by omega) (fun a9 h9 => ?_)
    refine O.loadG (G := Dt.dotF) Tryz.isAgg25 Tryz.sizeOf25 rfl h9 ?_
    refine O.call Tryz.call44 (args1 rfl) (rtext_spec (l[(0 : Int).toNat]'(by omega)) _ (hok.2 _ (List.getElem_mem _))) ?_
    rintro v_11 w1 ⟨rfl, e1⟩
    have z1 := e1.size
    refine O.asg ?_
    refine O.nil ?_
    refine hK5 _ _ ?_
    refine C.seqK fun K6 hK6 => ?_
    refine C.seqK fun K7 hK7 => ?_
    refine C.region ?_
    refine O.asg ?_
    refine O.nil ?_
    refine hK7 _ _ ?_
    refine C.block fun K8 hK8 => ?_
    refine C.loop0 (σ := Nat) (fun f0 w0 k f wz => f 3 = str (Vc.jn ((l.take (k + 1)).map Dt.text)) ∧ f 4 = .int .i64 ((k : Int) + 1) ∧ f 0 = f0 0 ∧ f 2 = f0 2 ∧ Le w wz ∧ k < l.length) (fun k => l.length - k) 0 ?_ ?_
    ·
      refine ⟨(Eq.trans rfl (congrArg str (by cases l with | nil => exact absurd rfl hnn | cons a r => simp [Vc.jn_cons]))), (Eq.trans rfl (i64_eq (by omega))), rfl, rfl, e1, ?_⟩
      exact hpos
    ·
      rintro k f_1 w2 ⟨s3_1, s4_1, s0_1, s2_1, e_1, hk⟩
      have z_1 := e_1.size
      have hjl := Vc.jn_len (v := l.take (k + 1)) (fun d hd => hok.2 d (List.mem_of_mem_take hd))
      rw [List.length_take, Nat.min_eq_left (by omega)] at hjl
      refine C.seqK fun K9 hK9 => ?_
      refine C.seqK fun K10 hK10 => ?_
      refine C.region ?_
      refine O.mv ?_
      refine O.mv ?_
      refine O.len Tryz.underlying23 s0_1 (hl.keep e_1) ?_
      refine O.lssI s4_1 rfl ?_
      refine O.nil ?_
      refine hK10 _ _ ?_
      refine C.condD rfl (fun c15 => ?_) (fun c15 => ?_)
      ·
        have hk2 : k + 1 < l.length := by omega
        have e9 : ((k : Int) + 1).toNat = k + 1 := by omega
        have ht9 := Vc.text_len (hok.2 (l[((k : Int) + 1).toNat]'(by omega)) (List.getElem_mem _))
        refine C.skip ?_
        refine hK9 _ _ ?_
        refine C.seqK fun K11 hK11 => ?_
        refine C.block fun K12 hK12 => ?_
        refine C.region ?_
        refine O.mv ?_
        refine O.addS s3_1 rfl (by rw [List.length_cons, List.length_nil]; omega) ?_
        refine O.mv ?_
        refine O.mv ?_
        refine O.idx Tryz.underlying23 Tryz.sizeOf25 rfl s0_1 (hl.keep e_1) s4_1 (by omega) (fun a22 h22 => ?_)
        refine O.loadG (G := Dt.dotF) Tryz.isAgg25 Tryz.sizeOf25 rfl h22 ?_
        refine O.call Tryz.call44 (args1 rfl) (rtext_spec (l[((k : Int) + 1).toNat]'(by omega)) _ (hok.2 _ (List.getElem_mem _))) ?_
        rintro v_24 w3 ⟨rfl, e3⟩
        have z3 := e3.size
        refine O.addS rfl rfl (by rw [List.length_append, List.length_cons, List.length_nil]; omega) ?_
        refine O.asg ?_
        refine O.nil ?_
        refine hK12 _ _ ?_
        refine hK11 _ _ ?_
        refine C.region ?_
        refine O.mv ?_
        refine O.addI s4_1 rfl (by unfold InI; omega) ?_
        refine O.asg ?_
        refine O.nil ?_
        refine ⟨(k + 1), ⟨(Eq.trans rfl (congrArg str (by simp only [e9]; rw [List.take_succ_eq_append_getElem hk2, List.map_append]; exact (Vc.jn_snoc (by rw [Ne, List.map_eq_nil_iff, List.take_eq_nil_iff]; simp; exact hnn) _).symm))), (Eq.trans rfl (i64_eq (by omega))), s0_1, s2_1, (Ext.trans e_1 e3), ?_⟩, by first | omega | (simp only []; omega)⟩
        omega
      ·
        refine C.exit ?_
        refine hK8 _ _ ?_
        refine hK6 _ _ ?_
        refine C.seqK fun K13 hK13 => ?_
        refine C.region ?_
        refine O.mv ?_
        refine O.asg ?_
        refine O.nil ?_
        refine hK13 _ _ ?_
        refine C.ret ?_
        refine Outs.one rfl s3_1 ?_
        first
        | exact ⟨congrArg str (show [45] = Vc.vtext l by unfold Vc.vtext; rw [if_pos hnil]), e_1⟩
        | (have e8 : k + 1 = l.length := by omega
           exact ⟨congrArg str (show Vc.jn ((l.take (k + 1)).map Dt.text) = Vc.vtext l by unfold Vc.vtext; rw [if_neg hnn, e8, List.take_length]), e_1⟩)

end Go.Proofs.YtbmbaajfkmejgaaGreatDoor
end
section
/-
  The walk of the reference that reads vectors' texts. Conditions: the length of the text.
-/
namespace Go.Proofs.YtbmbaajfkmejgaaGreatDoor
open Go.Pn Go.RowKit Go.Proofs
attribute [local irreducible] O C D


theorem rparse2_spec (l : List UInt8) (w : World) (hl : l.length ≤ maxLen) : Ret Tryz.prog 45 #[str l] w (fun v w' => v = .tuple #[Dt.dv ((Dt.rparse l).getD (0, 0)), .bool (Dt.rparse l).isSome] ∧ Le w w') :=
  (rparse_spec l w hl).mono fun _ _ h => ⟨h.1.trans (by cases Dt.rparse l <;> rfl), h.2⟩
theorem getD_u8 {s : List UInt8} {i : Nat} (h : i < s.length) : s.getD i 0 = s[i] := by simp [h]
theorem ne32 {s : List UInt8} {i : Nat} (h : i < s.length) (hn : (s.getD i 0).toBitVec ≠ 32#8) : s[i] ≠ 32 := fun e => hn (by rw [getD_u8 h, e]; rfl)
theorem eq32 {s : List UInt8} {i : Nat} (h : i < s.length) (hn : ¬ (s.getD i 0).toBitVec ≠ 32#8) : s[i] = 32 := by
  have := Decidable.of_not_not hn
  rw [getD_u8 h] at this
  exact UInt8.eq_of_toBitVec_eq this

set_option maxHeartbeats 4000000 in
theorem rvparse_spec (s : List UInt8) (w : World) (hl : s.length ≤ 1000000) :
    Ret Tryz.prog 29 #[str (s)] w (fun v w' => Le w w' ∧ ∃ u, v = .tuple #[u, .bool (Vc.vparse s).isSome] ∧ Sl Dt.dotF.enc w' (fun k => k < w'.heap.size) u ((Vc.vparse s).getD [])) := by
  obtain ⟨ie25, ti25, ts25, tb25, tz25⟩ := inf25
  refine enter (args := [str (s)]) (n := 47) Tryz.func29 rfl rfl (Nat.le_of_ble_eq_true rfl) ?_
  refine C.seqK fun K1 hK1 => ?_
  refine C.region ?_
  refine O.asg ?_
  refine O.asg ?_
  refine O.nil ?_
  refine hK1 _ _ ?_
  refine C.seqK fun K2 hK2 => ?_
  refine C.seqK fun K3 hK3 => ?_
  refine C.region ?_
  refine O.mv ?_
  refine O.eqlS rfl rfl ?_
  refine O.nil ?_
  refine hK3 _ _ ?_
  refine C.condD rfl (fun c10 => ?_) (fun c10 => ?_)
  ·
    refine C.seqK fun K4 hK4 => ?_
    refine C.region ?_
    refine O.asg ?_
    refine O.asg ?_
    refine O.nil ?_
    refine hK4 _ _ ?_
    refine C.ret ?_
    refine Outs.two rfl rfl rfl ?_
    first
    | (have hq : Vc.vparse s = some [] := by unfold Vc.vparse; rw [if_pos c10]
       rw [hq]; exact ⟨(Le.refl _), _, rfl, Sl.nil _ _ _⟩)
    | (have hq : Vc.vparse s = none := by
         obtain ⟨q, e⟩ := hcut.1
         rw [e, Vc.pgo_no hr9] at hp
         unfold Vc.vparse
         rw [if_neg c10, ← hp]
       rw [hq]; exact ⟨(Le.refl _), _, rfl, Sl.nil _ _ _⟩)
    | (have hv9 : Cn.vecValid ds = false := by simpa using c45
       have hq : Vc.vparse s = none := by
         unfold Vc.vparse
         rw [if_neg c10, hp]
         simp [hv9]
       rw [hq]; exact ⟨(Le.refl _), _, rfl, Sl.nil _ _ _⟩)
    | (have hv9 : Cn.vecValid ds = true := by simpa using c45
       have hB := ({app:4}).bk_ge
       have hS := ({app:4}).sl
       have hq : Vc.vparse s = some ds := by
         unfold Vc.vparse
         rw [if_neg c10, hp]
         simp [hv9]
       rw [hq]; exact ⟨(Le.refl _), _, rfl, hS.weak (fun j hj => (hB j hj).2)⟩)
  ·
    refine C.skip ?_
    refine hK2 _ _ ?_
    refine C.seqK fun K5 hK5 => ?_
    refine C.region ?_
    refine O.asg ?_
    refine O.nil ?_
    refine hK5 _ _ ?_
    refine C.seqK fun K6 hK6 => ?_
    refine C.region ?_
    refine O.asg ?_
    refine O.nil ?_
    refine hK6 _ _ ?_
    refine C.seqK fun K7 hK7 => ?_
    refine C.seqK fun K8 hK8 => ?_
    refine C.region ?_
    refine O.asg ?_
    refine O.nil ?_
    refine hK8 _ _ ?_
    refine C.block fun K9 hK9 => ?_
    refine C.loop0 (σ := Nat × Int × Value × List Dt.Dot) (fun f0 w0 ⟨i, z, o, ds⟩ f wz => f 4 = o ∧ f 5 = .int .i64 (z) ∧ f 6 = .int .i64 ((i : Int)) ∧ f 0 = f0 0 ∧ Le w wz ∧ OwnF Dt.dotF 25 w.heap.size wz o ds ∧ ((∃ a : Nat, z = (a : Int) ∧ a ≤ i ∧ i ≤ s.length ∧ ds.length ≤ a ∧ (∀ j, ∀ h : j < s.length, a ≤ j → j < i → s[j] ≠ 32) ∧ Vc.pgo ds (Vc.sp (s.drop a)) = Vc.many (Vc.sp s)) ∨ (i = s.length + 1 ∧ ds.length ≤ i ∧ Vc.many (Vc.sp s) = some ds))) (fun ⟨i, z, o, ds⟩ => s.length + 1 - i) (0, 0, .slice none 0 0, []) ?_ ?_
    ·
      refine ⟨rfl, rfl, rfl, rfl, (Le.refl _), (OwnF.nil _ _ _ _), ?_⟩
      exact .inl ⟨0, rfl, Nat.le_refl _, Nat.zero_le _, Nat.zero_le _, fun j _ _ h => absurd h (Nat.not_lt_zero _), by rw [List.drop_zero]; exact Vc.pgo_start _⟩
    ·
      rintro ⟨i, z, o, ds⟩ f_1 w1 ⟨s4_1, s5_1, s6_1, s0_1, e_1, r0_1, hI⟩
      have z_1 := e_1.size
      have r0_1s := r0_1.sl
      refine C.seqK fun K10 hK10 => ?_
      refine C.seqK fun K11 hK11 => ?_
      refine C.region ?_
      refine O.mv ?_
      refine O.mv ?_
      refine O.lenS Tryz.underlying9 s0_1 ?_
      refine O.leqI s6_1 rfl ?_
      refine O.nil ?_
      refine hK11 _ _ ?_
      refine C.condD rfl (fun c14 => ?_) (fun c14 => ?_)
      ·
        obtain ⟨a, rfl, ha, hi, hdl, hn, hp⟩ : ∃ a : Nat, z = (a : Int) ∧ a ≤ i ∧ i ≤ s.length ∧ ds.length ≤ a ∧ (∀ j, ∀ h : j < s.length, a ≤ j → j < i → s[j] ≠ 32) ∧ Vc.pgo ds (Vc.sp (s.drop a)) = Vc.many (Vc.sp s) := by
          rcases hI with h | ⟨h, _⟩
          · exact h
          · exfalso; omega
        refine C.skip ?_
        refine hK10 _ _ ?_
        refine C.seqK fun K12 hK12 => ?_
        refine C.block fun K13 hK13 => ?_
        refine C.seqK fun K14 hK14 => ?_
        refine C.seqK fun K15 hK15 => ?_
        refine C.region ?_
        refine O.mv ?_
        refine O.mv ?_
        refine O.lenS Tryz.underlying9 s0_1 ?_
        refine O.lssI s6_1 rfl ?_
        refine O.mv ?_
        refine O.cut 5 (fun f f' => f' 26 = .bool (decide ((i : Int) < (s.length : Int) ∧ (s.getD i 0).toBitVec ≠ 32#8)) ∧ f' 0 = f 0 ∧ f' 4 = f 4 ∧ f' 5 = f 5 ∧ f' 6 = f 6) ?_ ?_
        ·
          refine O.splitD (x := .tmp 21) rfl (fun c21 => ?_) (fun c21 => ?_)
          ·
            refine O.yes rfl (isT rfl c21) ?_
            refine O.mv ?_
            refine O.yes rfl (isT rfl c21) ?_
            refine O.mv ?_
            refine O.yes rfl (isT rfl c21) ?_
            refine O.indexS Tryz.underlying9 s0_1 s6_1 (by omega) ?_
            refine O.yes rfl (isT rfl c21) ?_
            refine O.neqU (m := 8) (b := 32#8) rfl rfl ?_
            refine O.pickT (isT rfl c21) ?_
            refine O.nil ?_
            refine ⟨⟨?_, rfl, rfl, rfl, rfl⟩, rfl⟩
            first | exact rfl | exact Eq.trans rfl (congrArg Value.bool (dAnd (by assumption))) | exact Eq.trans rfl (congrArg Value.bool (dAndF (by assumption))) | exact Eq.trans rfl (congrArg Value.bool (dOr (by assumption))) | exact Eq.trans rfl (congrArg Value.bool (dOrT (by assumption)))
          ·
            refine O.no rfl (noB (isF rfl c21) rfl) ?_
            refine O.no rfl (noB (isF rfl c21) rfl) ?_
            refine O.no rfl (noB (isF rfl c21) rfl) ?_
            refine O.no rfl (noB (isF rfl c21) rfl) ?_
            refine O.pickF (isF rfl c21) ?_
            refine O.nil ?_
            refine ⟨⟨?_, rfl, rfl, rfl, rfl⟩, rfl⟩
            first | exact rfl | exact Eq.trans rfl (congrArg Value.bool (dAnd (by assumption))) | exact Eq.trans rfl (congrArg Value.bool (dAndF (by assumption))) | exact Eq.trans rfl (congrArg Value.bool (dOr (by assumption))) | exact Eq.trans rfl (congrArg Value.bool (dOrT (by assumption)))
        ·
          rintro f_2 ⟨s26_2, s0_2, s4_2, s5_2, s6_2⟩
          refine O.nil ?_
          refine hK15 _ _ ?_
          refine C.condD s26_2 (fun c26 => ?_) (fun c26 => ?_)
          ·
            refine C.exit ?_
            refine hK13 _ _ ?_
            refine hK12 _ _ ?_
            refine C.region ?_
            refine O.mv ?_
            refine O.addI (Eq.trans s6_2 s6_1) rfl (by unfold InI; omega) ?_
            refine O.asg ?_
            refine O.nil ?_
            refine ⟨(i + 1, _, _, _), ⟨(Eq.trans s4_2 s4_1), (Eq.trans s5_2 s5_1), rfl, (Eq.trans s0_2 s0_1), e_1, r0_1, ?_⟩, by first | omega | (simp only []; omega)⟩
            first
            | (refine .inl ⟨a, rfl, by omega, by omega, hdl, fun j h h1 h2 => ?_, hp⟩
               rcases Nat.lt_or_eq_of_le (Nat.le_of_lt_succ h2) with h3 | h3
               · exact hn j h h1 h3
               · subst h3; exact ne32 h c26.2)
            | (rcases hcut.2 with ⟨h9, e⟩ | ⟨h9, e⟩
               · refine .inl ⟨i + 1, by omega, Nat.le_refl _, by omega, by rw [List.length_append]; show ds.length + 1 ≤ _; omega, fun j _ h1 h2 => by omega, ?_⟩
                 rw [e, Vc.pgo_yes hr9] at hp
                 exact hp
               · refine .inr ⟨by omega, by rw [List.length_append]; show ds.length + 1 ≤ _; omega, ?_⟩
                 rw [e, Vc.pgo_yes hr9, Vc.pgo_end] at hp
                 exact hp.symm)
          ·
            have hcut : (∃ q, Vc.sp (s.drop a) = ((s.take i).drop a) :: q) ∧ ((i < s.length ∧ Vc.sp (s.drop a) = ((s.take i).drop a) :: Vc.sp (s.drop (i + 1))) ∨ (i = s.length ∧ Vc.sp (s.drop a) = [((s.take i).drop a)])) := by
              by_cases h9 : i < s.length
              · have e := Vc.cut_at ha h9 hn (eq32 h9 fun q => c26 ⟨by omega, q⟩)
                exact ⟨⟨_, e⟩, .inl ⟨h9, e⟩⟩
              · have h8 : i = s.length := by omega
                have e := Vc.cut_end (s := s) (a := a) fun j h h1 => hn j h h1 (by omega)
                have e2 : ((s.take i).drop a) = s.drop a := by rw [h8, List.take_length]
                exact ⟨⟨_, by rw [e2]; exact e⟩, .inr ⟨h8, by rw [e2]; exact e⟩⟩
            refine C.skip ?_
            refine hK14 _ _ ?_
            refine C.seqK fun K16 hK16 => ?_
            refine C.region ?_
            refine O.mv ?_
            refine O.mv ?_
            refine O.mv ?_
            refine O.subS Tryz.underlying9 (Eq.trans s0_2 s0_1) (.inr ⟨_, _, rfl, (Eq.trans s5_2 s5_1)⟩) (.inr ⟨_, _, rfl, (Eq.trans s6_2 s6_1)⟩) (by omega) ?_
            refine O.cast (v' := str ((s.take i).drop a)) (by simp only [Int.toNat_natCast]) ?_
            refine O.call Tryz.call45 (args1 rfl) (rparse2_spec ((s.take i).drop a) _ (by rw [List.length_drop, List.length_take]; unfold maxLen; omega)) ?_
            rintro v_32 w2 ⟨rfl, e2⟩
            have z2 := e2.size
            refine O.mv ?_
            refine O.extract rfl rfl ?_
            refine O.extract rfl rfl ?_
            refine O.alloc Tryz.zeroValue25 (fun b7 w3 hb7 hz7 e3 => ?_)
            have z3 := e3.size
            have h7 := hz7.own
            have hl7 := h7.lt
            refine O.storeA (vs := [.int .i64 ((Dt.rparse ((s.take i).drop a)).getD (0, 0)).1, .int .i64 ((Dt.rparse ((s.take i).drop a)).getD (0, 0)).2]) Tryz.sizeOf25 rfl rfl rfl (by simp [Value.oneCell']) h7 (Nat.le_of_ble_eq_true rfl) (fun w4 hs4 e4 z4 => ?_)
            refine O.asg ?_
            refine O.nil ?_
            refine hK16 _ _ ?_
            refine C.seqK fun K17 hK17 => ?_
            refine C.seqK fun K18 hK18 => ?_
            refine C.region ?_
            refine O.mv ?_
            refine O.not rfl ?_
            refine O.nil ?_
            refine hK18 _ _ ?_
            refine C.cond rfl (fun c36 => ?_) (fun c36 => ?_)
            ·
              have hr9 : Dt.rparse ((s.take i).drop a) = none := by
                cases hq : Dt.rparse ((s.take i).drop a) with
                | none => rfl
                | some d => simp [hq] at c36
              refine C.seqK fun K19 hK19 => ?_
              refine C.region ?_
              refine O.asg ?_
              refine O.asg ?_
              refine O.nil ?_
              refine hK19 _ _ ?_
              refine C.ret ?_
              refine Outs.two rfl rfl rfl ?_
              first
              | (have hq : Vc.vparse s = some [] := by unfold Vc.vparse; rw [if_pos c10]
                 rw [hq]; exact ⟨(Ext.new (Ext.trans (Ext.trans e_1 e2) e3) e4 (by rintro i hi rfl; omega)), _, rfl, Sl.nil _ _ _⟩)
              | (have hq : Vc.vparse s = none := by
                   obtain ⟨q, e⟩ := hcut.1
                   rw [e, Vc.pgo_no hr9] at hp
                   unfold Vc.vparse
                   rw [if_neg c10, ← hp]
                 rw [hq]; exact ⟨(Ext.new (Ext.trans (Ext.trans e_1 e2) e3) e4 (by rintro i hi rfl; omega)), _, rfl, Sl.nil _ _ _⟩)
              | (have hv9 : Cn.vecValid ds = false := by simpa using c45
                 have hq : Vc.vparse s = none := by
                   unfold Vc.vparse
                   rw [if_neg c10, hp]
                   simp [hv9]
                 rw [hq]; exact ⟨(Ext.new (Ext.trans (Ext.trans e_1 e2) e3) e4 (by rintro i hi rfl; omega)), _, rfl, Sl.nil _ _ _⟩)
              | (have hv9 : Cn.vecValid ds = true := by simpa using c45
                 have hB := ((((r0_1.keep e2).keep e3).keepM e4 (fun k hk h => by have := r0_1.bk_ge k hk; (try dsimp only at h); omega))).bk_ge
                 have hS := ((((r0_1.keep e2).keep e3).keepM e4 (fun k hk h => by have := r0_1.bk_ge k hk; (try dsimp only at h); omega))).sl
                 have hq : Vc.vparse s = some ds := by
                   unfold Vc.vparse
                   rw [if_neg c10, hp]
                   simp [hv9]
                 rw [hq]; exact ⟨(Ext.new (Ext.trans (Ext.trans e_1 e2) e3) e4 (by rintro i hi rfl; omega)), _, rfl, hS.weak (fun j hj => (hB j hj).2)⟩)
            ·
              have hr9 : Dt.rparse ((s.take i).drop a) = some ((Dt.rparse ((s.take i).drop a)).getD (0, 0)) := by
                cases hq : Dt.rparse ((s.take i).drop a) with
                | none => simp [hq] at c36
                | some d => rfl
              refine C.skip ?_
              refine hK17 _ _ ?_
              refine C.seqK fun K20 hK20 => ?_
              refine C.region ?_
              refine O.mv ?_
              refine O.loadOA Tryz.isAgg25 Tryz.sizeOf25 rfl hs4 (Nat.le_of_ble_eq_true rfl) ?_
              refine O.litG (G := Dt.dotF) [((Dt.rparse ((s.take i).drop a)).getD (0, 0))] Tryz.underlying23 ti25 ts25 tz25 rfl (by decide) (by decide) rfl (fun b39 w5 hb39 hz39 e5 => ?_)
              have z5 := e5.size
              have h39 := hz39.own
              have hq39 := Sl.litG (n := 1) h39 rfl (by unfold maxLen; omega)
              refine O.appF (G := Dt.dotF) Tryz.underlying23 ti25 tz25 ts25 rfl (Eq.trans s4_2 s4_1) rfl ((((r0_1.keep e2).keep e3).keepM e4 (fun k hk h => by have := r0_1.bk_ge k hk; (try dsimp only at h); omega)).keep e5) hq39 (by rw [tb25]; simp; omega) (by unfold maxLen; simp; omega) (by omega) (fun v40 w6 h40 e6 => ?_)
              have z6 := e6.size
              have h40s := h40.sl
              refine O.asg ?_
              refine O.nil ?_
              refine hK20 _ _ ?_
              refine C.region ?_
              refine O.mv ?_
              refine O.addI (Eq.trans s6_2 s6_1) rfl (by unfold InI; omega) ?_
              refine O.asg ?_
              refine O.nil ?_
              refine hK13 _ _ ?_
              refine hK12 _ _ ?_
              refine C.region ?_
              refine O.mv ?_
              refine O.addI (Eq.trans s6_2 s6_1) rfl (by unfold InI; omega) ?_
              refine O.asg ?_
              refine O.nil ?_
              refine ⟨(i + 1, _, _, _), ⟨rfl, rfl, rfl, (Eq.trans s0_2 s0_1), (Ext.new (Ext.trans (Ext.new (Ext.trans (Ext.trans e_1 e2) e3) e4 (by rintro i hi rfl; omega)) e5) e6 (by intro i hi h; have := ((((r0_1.keep e2).keep e3).keepM e4 (fun k hk h => by have := r0_1.bk_ge k hk; (try dsimp only at h); omega)).keep e5).bk_ge i h; omega)), h40, ?_⟩, by first | omega | (simp only []; omega)⟩
              first
              | (refine .inl ⟨a, rfl, by omega, by omega, hdl, fun j h h1 h2 => ?_, hp⟩
                 rcases Nat.lt_or_eq_of_le (Nat.le_of_lt_succ h2) with h3 | h3
                 · exact hn j h h1 h3
                 · subst h3; exact ne32 h c26.2)
              | (rcases hcut.2 with ⟨h9, e⟩ | ⟨h9, e⟩
                 · refine .inl ⟨i + 1, by omega, Nat.le_refl _, by omega, by rw [List.length_append]; show ds.length + 1 ≤ _; omega, fun j _ h1 h2 => by omega, ?_⟩
                   rw [e, Vc.pgo_yes hr9] at hp
                   exact hp
                 · refine .inr ⟨by omega, by rw [List.length_append]; show ds.length + 1 ≤ _; omega, ?_⟩
                   rw [e, Vc.pgo_yes hr9, Vc.pgo_end] at hp
                   exact hp.symm)
      ·
        obtain ⟨hie, hdl, hp⟩ : i = s.length + 1 ∧ ds.length ≤ i ∧ Vc.many (Vc.sp s) = some ds := by
          rcases hI with ⟨_, _, _, h, _⟩ | h
          · exfalso; omega
          · exact h
        refine C.exit ?_
        refine hK9 _ _ ?_
        refine hK7 _ _ ?_
        refine C.seqK fun K21 hK21 => ?_
        refine C.seqK fun K22 hK22 => ?_
        refine C.region ?_
        refine O.mv ?_
        refine O.call Tryz.call10 (args1 s4_1) (rvecValid_spec _ _ _ _ r0_1s) ?_
        rintro v_44 w7 ⟨rfl, e7⟩
        have z7 := e7.size
        refine O.not rfl ?_
        refine O.nil ?_
        refine hK22 _ _ ?_
        refine C.cond rfl (fun c45 => ?_) (fun c45 => ?_)
        ·
          refine C.seqK fun K23 hK23 => ?_
          refine C.region ?_
          refine O.asg ?_
          refine O.asg ?_
          refine O.nil ?_
          refine hK23 _ _ ?_
          refine C.ret ?_
          refine Outs.two rfl rfl rfl ?_
          first
          | (have hq : Vc.vparse s = some [] := by unfold Vc.vparse; rw [if_pos c10]
             rw [hq]; exact ⟨(Ext.trans e_1 e7), _, rfl, Sl.nil _ _ _⟩)
          | (have hq : Vc.vparse s = none := by
               obtain ⟨q, e⟩ := hcut.1
               rw [e, Vc.pgo_no hr9] at hp
               unfold Vc.vparse
               rw [if_neg c10, ← hp]
             rw [hq]; exact ⟨(Ext.trans e_1 e7), _, rfl, Sl.nil _ _ _⟩)
          | (have hv9 : Cn.vecValid ds = false := by simpa using c45
             have hq : Vc.vparse s = none := by
               unfold Vc.vparse
               rw [if_neg c10, hp]
               simp [hv9]
             rw [hq]; exact ⟨(Ext.trans e_1 e7), _, rfl, Sl.nil _ _ _⟩)
          | (have hv9 : Cn.vecValid ds = true := by simpa using c45
             have hB := ((r0_1.keep e7)).bk_ge
             have hS := ((r0_1.keep e7)).sl
             have hq : Vc.vparse s = some ds := by
               unfold Vc.vparse
               rw [if_neg c10, hp]
               simp [hv9]
             rw [hq]; exact ⟨(Ext.trans e_1 e7), _, rfl, hS.weak (fun j hj => (hB j hj).2)⟩)
        ·
          refine C.skip ?_
          refine hK21 _ _ ?_
          refine C.seqK fun K24 hK24 => ?_
          refine C.region ?_
          refine O.mv ?_
          refine O.asg ?_
          refine O.asg ?_
          refine O.nil ?_
          refine hK24 _ _ ?_
          refine C.ret ?_
          refine Outs.two rfl s4_1 rfl ?_
          first
          | (have hq : Vc.vparse s = some [] := by unfold Vc.vparse; rw [if_pos c10]
             rw [hq]; exact ⟨(Ext.trans e_1 e7), _, rfl, Sl.nil _ _ _⟩)
          | (have hq : Vc.vparse s = none := by
               obtain ⟨q, e⟩ := hcut.1
               rw [e, Vc.pgo_no hr9] at hp
               unfold Vc.vparse
               rw [if_neg c10, ← hp]
             rw [hq]; exact ⟨(Ext.trans e_1 e7), _, rfl, Sl.nil _ _ _⟩)
          | (have hv9 : Cn.vecValid ds = false := by simpa using c45
             have hq : Vc.vparse s = none := by
               unfold Vc.vparse
               rw [if_neg c10, hp]
               simp [hv9]
             rw [hq]; exact ⟨(Ext.trans e_1 e7), _, rfl, Sl.nil _ _ _⟩)
          | (have hv9 : Cn.vecValid ds = true := by simpa using c45
             have hB := ((r0_1.keep e7)).bk_ge
             have hS := ((r0_1.keep e7)).sl
             have hq : Vc.vparse s = some ds := by
               unfold Vc.vparse
               rw [if_neg c10, hp]
               simp [hv9]
             rw [hq]; exact ⟨(Ext.trans e_1 e7), _, rfl, hS.weak (fun j hj => (hB j hj).2)⟩)

end Go.Proofs.YtbmbaajfkmejgaaGreatDoor
end
section
/-
  The walk of the library's iterator over the pieces of a text. Conditions: its variables lie in memory; what the rounds keep.
-/
namespace Go.Proofs.YtbmbaajfkmejgaaGreatDoor
open Go.Pn Go.RowKit Go.Proofs
attribute [local irreducible] O C D


theorem sindex_spec (t : List UInt8) (w : World) : Ret Tryz.prog 84 #[str t, str [32]] w (fun v w' => v = .int .i64 (Lib.indexByte t 32) ∧ w' = w) := by
  refine Ret.of (Tryz.strings_Index_one ⟨t.toArray⟩ 32 w) ?_
  rintro e w' ⟨rfl, rfl⟩
  exact ⟨_, rfl, rfl, rfl⟩

set_option maxHeartbeats 2000000 in
theorem splitIt_spec (l b1 b2 b3 : Nat) (s : List UInt8) (J Jx : List (List UInt8) → World → Prop) (w : World) (ho1 : Own w b1 9 [str [32]]) (ho2 : Own w b2 9 [str s]) (ho3 : Own w b3 3 [.int .i64 0]) (hd : b1 ≠ b2 ∧ b1 ≠ b3 ∧ b2 ≠ b3) (hl : s.length ≤ 1000000000000) (hJa : ∀ pre W W', J pre W → Ext (fun k => k = b2) W W' → J pre W') (hY : ∀ pre x W1, (pre ++ [x]) <+: Vc.sp s → J pre W1 → YieldAt (FW none) 0 Tryz.prog l #[str x] W1 fun e W' => (e = .returned (.bool true) ∧ J (pre ++ [x]) W' ∧ Ext (fun k => ¬ (k = b1 ∨ k = b2 ∨ k = b3)) W1 W') ∨ (e = .returned (.bool false) ∧ Jx (pre ++ [x]) W')) (h0 : J [] w) :
    Ret Tryz.prog 82 #[.func (.yield l) #[] #[], .pointer (some ⟨b1, 0, none⟩), .pointer (some ⟨b2, 0, none⟩), .pointer (some ⟨b3, 0, none⟩)] w (fun v w' => J (Vc.sp s) w' ∨ ∃ pre, pre <+: Vc.sp s ∧ Jx pre w') := by
  obtain ⟨hd1, hd2, hd3⟩ := hd
  refine enter (args := [.func (.yield l) #[] #[], .pointer (some ⟨b1, 0, none⟩), .pointer (some ⟨b2, 0, none⟩), .pointer (some ⟨b3, 0, none⟩)]) (n := 52) Tryz.func82 rfl rfl (Nat.le_of_ble_eq_true rfl) ?_
  refine C.seqK fun K1 hK1 => ?_
  refine C.seqK fun K2 hK2 => ?_
  refine C.region ?_
  refine O.loadO Tryz.isAgg9 rfl ho1 rfl ?_
  refine O.lenS Tryz.underlying9 rfl ?_
  refine O.eqlI rfl rfl ?_
  refine O.cast (v' := .bool false) (congrArg Value.bool (by decide)) ?_
  refine O.nil ?_
  refine hK2 _ _ ?_
  refine C.condF rfl ?_
  refine C.skip ?_
  refine hK1 _ _ ?_
  refine C.seqK fun K3 hK3 => ?_
  refine C.block fun K4 hK4 => ?_
  refine C.loop0 (σ := List (List UInt8) × List UInt8) (fun f0 w0 ⟨pre, t⟩ f wz => f 0 = f0 0 ∧ f 1 = f0 1 ∧ f 2 = f0 2 ∧ f 3 = f0 3 ∧ Ext (fun k => 0 ≤ k) w wz ∧ Own wz b1 9 [str [32]] ∧ Own wz b2 9 [str t] ∧ Own wz b3 3 [.int .i64 0] ∧ JAt J (fun k => k = b2) pre wz ∧ Vc.sp s = pre ++ Vc.sp t ∧ t.length ≤ s.length) (fun ⟨pre, t⟩ => t.length) ([], s) ?_ ?_
  ·
    refine ⟨rfl, rfl, rfl, rfl, (Ext.refl _ _), ho1, ho2, ho3, (JAt.mk h0 hJa), ?_⟩
    exact ⟨rfl, Nat.le_refl _⟩
  ·
    rintro ⟨pre, t⟩ f_1 w1 ⟨s0_1, s1_1, s2_1, s3_1, e_1, r0_1, r1_1, r2_1, r3_1, ⟨hsp, htl⟩⟩
    have z_1 := e_1.size
    refine C.block fun K5 hK5 => ?_
    refine C.seqK fun K6 hK6 => ?_
    refine C.region ?_
    refine O.loadO Tryz.isAgg9 s2_1 r1_1 rfl ?_
    refine O.loadO Tryz.isAgg9 s1_1 r0_1 rfl ?_
    refine O.call Tryz.call84 (args2 rfl rfl) (sindex_spec t _) ?_
    rintro v_31 w2 ⟨rfl, hw_⟩
    replace hw_ := hw_.symm
    subst hw_
    refine O.asg ?_
    refine O.nil ?_
    refine hK6 _ _ ?_
    refine C.seqK fun K7 hK7 => ?_
    refine C.seqK fun K8 hK8 => ?_
    refine C.region ?_
    refine O.mv ?_
    refine O.lssI rfl rfl ?_
    refine O.nil ?_
    refine hK8 _ _ ?_
    refine C.condD rfl (fun c33 => ?_) (fun c33 => ?_)
    ·
      have hpx2 : (pre ++ [t]) <+: Vc.sp s := by rw [hsp, Vc.idx_none c33]; exact ⟨[], by simp⟩
      refine C.exit ?_
      refine hK4 _ _ ?_
      refine hK3 _ _ ?_
      refine C.regionY ?_
      refine OI.one (by kernel_rfl) ?_
      refine O.mv ?_
      refine O.nil ?_
      refine OI.one (by kernel_rfl) ?_
      refine O.loadO Tryz.isAgg9 s2_1 r1_1 rfl ?_
      refine O.nil ?_
      refine OI.yield s0_1 rfl (hY pre t _ hpx2 (r3_1).h) ?_
      rintro _ w2 (⟨rfl, hj51, e2⟩ | ⟨rfl, hx51⟩)
      ·
        refine ⟨true, rfl, OI.of (by kernel_rfl) ?_⟩
        have z2 := e2.size
        have hj51t := JAt.mk hj51 hJa
        refine O.nil ?_
        refine Outs.none rfl ?_
        first
        | exact .inr ⟨_, hpx, hx41⟩
        | exact .inr ⟨_, hpx2, hx51⟩
        | (refine .inl ?_; rw [hsp, Vc.idx_none c33]; exact hj51)
      ·
        refine ⟨false, rfl, OI.of (by kernel_rfl) ?_⟩
        refine O.nil ?_
        refine Outs.none rfl ?_
        first
        | exact .inr ⟨_, hpx, hx41⟩
        | exact .inr ⟨_, hpx2, hx51⟩
        | (refine .inl ?_; rw [hsp, Vc.idx_none c33]; exact hj51)
    ·
      have hi9 := (Vc.idx_some c33).1
      have hpx : (pre ++ [t.take (Lib.indexByte t 32).toNat]) <+: Vc.sp s := by rw [hsp, (Vc.idx_some c33).2]; exact ⟨Vc.sp (t.drop ((Lib.indexByte t 32).toNat + 1)), by simp⟩
      refine C.skip ?_
      refine hK7 _ _ ?_
      refine C.seqK fun K9 hK9 => ?_
      refine C.region ?_
      refine O.loadO Tryz.isAgg9 s2_1 r1_1 rfl ?_
      refine O.mv ?_
      refine O.loadO Tryz.isAgg3 s3_1 r2_1 rfl ?_
      refine O.addI rfl rfl (by have := Dt.index_ge t 32; unfold InI; omega) ?_
      refine O.subS Tryz.underlying9 rfl (.inl ⟨rfl, rfl⟩) (.inr ⟨_, _, rfl, rfl⟩) (by have := Dt.index_ge t 32; omega) ?_
      refine O.cast (v' := str (t.take (Lib.indexByte t 32).toNat)) (by rw [show (Lib.indexByte t 32) + 0 = (Lib.indexByte t 32) by omega]; simp) ?_
      refine O.asg ?_
      refine O.nil ?_
      refine hK9 _ _ ?_
      refine C.seqK fun K10 hK10 => ?_
      refine C.seqK fun K11 hK11 => ?_
      refine C.regionY ?_
      refine OI.one (by kernel_rfl) ?_
      refine O.mv ?_
      refine O.nil ?_
      refine OI.one (by kernel_rfl) ?_
      refine O.mv ?_
      refine O.nil ?_
      refine OI.yield s0_1 rfl (hY pre (t.take (Lib.indexByte t 32).toNat) _ hpx (r3_1).h) ?_
      rintro _ w3 (⟨rfl, hj41, e3⟩ | ⟨rfl, hx41⟩)
      ·
        refine ⟨true, rfl, OI.of (by kernel_rfl) ?_⟩
        have z3 := e3.size
        have hj41t := JAt.mk hj41 hJa
        refine O.not rfl ?_
        refine O.cast (v' := .bool false) rfl ?_
        refine O.nil ?_
        refine hK11 _ _ ?_
        refine C.condF rfl ?_
        refine C.skip ?_
        refine hK10 _ _ ?_
        refine C.region ?_
        refine O.loadO Tryz.isAgg9 s2_1 (r1_1.keepM e3 (by intro h; apply h; (try dsimp only); omega)) rfl ?_
        refine O.mv ?_
        refine O.loadO Tryz.isAgg9 s1_1 (r0_1.keepM e3 (by intro h; apply h; (try dsimp only); omega)) rfl ?_
        refine O.lenS Tryz.underlying9 rfl ?_
        refine O.addI rfl rfl (by have := Dt.index_ge t 32; rw [List.length_cons, List.length_nil]; unfold InI; omega) ?_
        refine O.subS Tryz.underlying9 rfl (.inr ⟨_, _, rfl, rfl⟩) (.inl ⟨rfl, rfl⟩) (by have := (Vc.idx_some c33).1; rw [List.length_cons, List.length_nil]; omega) ?_
        refine O.cast (v' := str (t.drop ((Lib.indexByte t 32).toNat + 1))) (by have := Dt.index_ge t 32; rw [List.length_cons, List.length_nil, show ((Lib.indexByte t 32) + ((0 + 1 : Nat) : Int)).toNat = (Lib.indexByte t 32).toNat + 1 by omega]; simp) ?_
        refine O.store Tryz.sizeOf9 s2_1 rfl rfl (r1_1.keepM e3 (by intro h; apply h; (try dsimp only); omega)) (by simp) (fun w4 hs4 e4 z4 => ?_)
        try simp only [Int.toNat_natCast, Nat.zero_add, Nat.mul_one] at hs4
        refine O.nil ?_
        refine hK5 _ _ ?_
        refine ⟨(pre ++ [t.take (Lib.indexByte t 32).toNat], t.drop ((Lib.indexByte t 32).toNat + 1)), ⟨s0_1, s1_1, s2_1, s3_1, (Ext.new (Ext.new (Ext.new (Ext.refl _ _) e_1 (by intro i hi hk; first | exact hk.elim | ((try dsimp only at hk); (try dsimp only); omega))) e3 (by intro i hi hk; first | exact hk.elim | ((try dsimp only at hk); (try dsimp only); omega))) e4 (by intro i hi hk; first | exact hk.elim | ((try dsimp only at hk); (try dsimp only); omega))), ((r0_1.keepM e3 (by intro h; apply h; (try dsimp only); omega)).keepM e4 (by intro h; (try dsimp only at h); omega)), hs4, ((r2_1.keepM e3 (by intro h; apply h; (try dsimp only); omega)).keepM e4 (by intro h; (try dsimp only at h); omega)), (hj41t.keepM e4 (by intro k hk; exact hk)), ?_⟩, by show (t.drop ((Lib.indexByte t 32).toNat + 1)).length < t.length; rw [List.length_drop]; omega⟩
        refine ⟨?_, by rw [List.length_drop]; omega⟩
        rw [hsp, (Vc.idx_some c33).2]
        simp
      ·
        refine ⟨false, rfl, OI.of (by kernel_rfl) ?_⟩
        refine O.not rfl ?_
        refine O.cast (v' := .bool true) rfl ?_
        refine O.nil ?_
        refine hK11 _ _ ?_
        refine C.condT rfl ?_
        refine C.ret ?_
        refine Outs.none rfl ?_
        first
        | exact .inr ⟨_, hpx, hx41⟩
        | exact .inr ⟨_, hpx2, hx51⟩
        | (refine .inl ?_; rw [hsp, Vc.idx_none c33]; exact hj51)

end Go.Proofs.YtbmbaajfkmejgaaGreatDoor
end
section
/-
  The walk of what reads vectors' texts. Conditions: the library's table and its errors lie in memory.
-/
namespace Go.Proofs.YtbmbaajfkmejgaaGreatDoor
open Go.Pn Go.RowKit Go.Proofs
attribute [local irreducible] O C D


theorem parse2_spec (l : List UInt8) (es er : Value) (w : World) (hl : l.length ≤ 281474976710656) (htb : Tb w) (hes : CellIs w 3 es) (her : CellIs w 4 er) (g1 : ∃ te pe, es = .iface te pe) (g2 : ∃ te pe, er = .iface te pe) : Ret Tryz.prog 57 #[str l] w (fun v w' => v = .tuple #[Dt.dv ((Dt.rparse l).getD (0, 0)), .int .i64 (if (Dt.rparse l).isSome then 0 else 6)] ∧ Le w w') :=
  (parse_spec l es er w hl htb hes her g1 g2).mono fun _ _ h => ⟨h.1.trans (by rw [Dt.parse_eq]; cases Dt.rparse l <;> rfl), h.2⟩
theorem split_on (b1 b2 b3 : Nat) (s : List UInt8) (w : World) (ho1 : Own w b1 9 [str [32]]) (ho2 : Own w b2 9 [str s]) (ho3 : Own w b3 3 [.int .i64 0]) (hd : b1 ≠ b2 ∧ b1 ≠ b3 ∧ b2 ≠ b3) (hl : s.length ≤ 1000000000000) :
    IterOn Tryz.prog 82 #[.pointer (some ⟨b1, 0, none⟩), .pointer (some ⟨b2, 0, none⟩), .pointer (some ⟨b3, 0, none⟩)] str (Vc.sp s) (fun k => k = b2) (fun k => k = b1 ∨ k = b2 ∨ k = b3) w := by
  intro l J Jx W hW hJ _ hY h0
  have sm : ∀ (b ty : Nat) (cs : List Value), Own w b ty cs → (W.heap[b]? = w.heap[b]?) → Own W b ty cs := fun b ty cs h e => by
    obtain ⟨fr, h1, h2⟩ := h
    exact ⟨fr, e.trans h1, h2⟩
  refine Calls.mono (splitIt_spec l b1 b2 b3 s J Jx W (sm _ _ _ ho1 (hW _ (.inl rfl))) (sm _ _ _ ho2 (hW _ (.inr (.inl rfl)))) (sm _ _ _ ho3 (hW _ (.inr (.inr rfl)))) hd hl hJ (fun pre x W1 h1 h2 => hY pre x W1 h1 h2) h0).calls ?_
  rintro e w' ⟨v, rfl, h⟩
  exact ⟨⟨v, rfl⟩, h⟩

theorem splitSeq_spec (s : List UInt8) (w : World) :
    Ret Tryz.prog 66 #[str (s), str ([32]), .int .i64 (0)] w (fun v w' => ∃ b1 b2 b3, v = .func (.func 82) #[] #[.pointer (some ⟨b1, 0, none⟩), .pointer (some ⟨b2, 0, none⟩), .pointer (some ⟨b3, 0, none⟩)] ∧ Own w' b1 9 [str [32]] ∧ Own w' b2 9 [str s] ∧ Own w' b3 3 [.int .i64 0] ∧ (w.heap.size ≤ b1 ∧ w.heap.size ≤ b2 ∧ w.heap.size ≤ b3 ∧ b1 ≠ b2 ∧ b1 ≠ b3 ∧ b2 ≠ b3) ∧ Le w w') := by
  refine enter (args := [str (s), str ([32]), .int .i64 (0)]) (n := 8) Tryz.func66 rfl rfl (Nat.le_of_ble_eq_true rfl) ?_
  refine C.seqK fun K1 hK1 => ?_
  refine C.region ?_
  refine O.box (v := str (s)) rfl (fun b3 w1 hb3 hz3 e1 => ?_)
  have z1 := e1.size
  have h3 := hz3.own
  have hl3 := h3.lt
  refine O.box (v := str ([32])) rfl (fun b4 w2 hb4 hz4 e2 => ?_)
  have z2 := e2.size
  have h4 := hz4.own
  have hl4 := h4.lt
  refine O.box (v := .int .i64 (0)) rfl (fun b5 w3 hb5 hz5 e3 => ?_)
  have z3 := e3.size
  have h5 := hz5.own
  have hl5 := h5.lt
  refine O.asg ?_
  refine O.nil ?_
  refine hK1 _ _ ?_
  refine C.seqK fun K2 hK2 => ?_
  refine C.region ?_
  refine O.makeF (v1 := []) rfl rfl ?_
  refine O.asg ?_
  refine O.nil ?_
  refine hK2 _ _ ?_
  refine C.ret ?_
  refine Outs.one rfl rfl ?_
  exact ⟨b4, b3, b5, rfl, (h4.keep e3), ((h3.keep e2).keep e3), h5, ⟨by omega, by omega, by omega, by omega, by omega, by omega⟩, (Ext.trans (Ext.trans e1 e2) e3)⟩

theorem splitSeq0_spec (s : List UInt8) (w : World) :
    Ret Tryz.prog 56 #[str (s), str ([32])] w (fun v w' => ∃ b1 b2 b3, v = .func (.func 82) #[] #[.pointer (some ⟨b1, 0, none⟩), .pointer (some ⟨b2, 0, none⟩), .pointer (some ⟨b3, 0, none⟩)] ∧ Own w' b1 9 [str [32]] ∧ Own w' b2 9 [str s] ∧ Own w' b3 3 [.int .i64 0] ∧ (w.heap.size ≤ b1 ∧ w.heap.size ≤ b2 ∧ w.heap.size ≤ b3 ∧ b1 ≠ b2 ∧ b1 ≠ b3 ∧ b2 ≠ b3) ∧ Le w w') := by
  refine enter (args := [str (s), str ([32])]) (n := 8) Tryz.func56 rfl rfl (Nat.le_of_ble_eq_true rfl) ?_
  refine C.seqK fun K1 hK1 => ?_
  refine C.region ?_
  refine O.asg ?_
  refine O.nil ?_
  refine hK1 _ _ ?_
  refine C.seqK fun K2 hK2 => ?_
  refine C.region ?_
  refine O.mv ?_
  refine O.mv ?_
  refine O.call Tryz.call66 (args3 rfl rfl rfl) (splitSeq_spec s _) ?_
  rintro v_7 w1 ⟨cv7, dv7, fv7, rfl, hav7, hbv7, hcv7, hdv7, e1⟩
  have z1 := e1.size
  refine O.asg ?_
  refine O.nil ?_
  refine hK2 _ _ ?_
  refine C.ret ?_
  refine Outs.one rfl rfl ?_
  exact ⟨_, _, _, rfl, hav7, hbv7, hcv7, ⟨by omega, by omega, by omega, hdv7.2.2.2⟩, e1⟩

set_option maxHeartbeats 4000000 in
theorem vparse_spec (s : List UInt8) (es er : Value) (w : World) (hl : s.length ≤ 1000000000000) (htb : Tb w) (hes : CellIs w 3 es) (her : CellIs w 4 er) (g1 : ∃ te pe, es = .iface te pe) (g2 : ∃ te pe, er = .iface te pe) :
    Ret Tryz.prog 46 #[str (s)] w (fun v w' => Le w w' ∧ ∃ u, v = .tuple #[u, .int .i64 (if (Vc.vparse s).isSome then 0 else 6)] ∧ Sl Dt.dotF.enc w' (fun k => k < w'.heap.size) u ((Vc.vparse s).getD [])) := by
  obtain ⟨ie25, ti25, ts25, tb25, tz25⟩ := inf25
  refine enterM (args := [str (s)]) (n := 29) Tryz.func46 rfl rfl (Nat.le_of_ble_eq_true rfl) ?_
  refine CM.seqK fun K1 hK1 => ?_
  refine CM.region ?_
  refine O.alloc Tryz.zeroValue23 (fun b2 w1 hb2 hz2 e1 => ?_)
  have z1 := e1.size
  have h2 := hz2.own
  have hl2 := h2.lt
  refine O.alloc Tryz.zeroValue34 (fun b3 w2 hb3 hz3 e2 => ?_)
  have z2 := e2.size
  have h3 := hz3.own
  have hl3 := h3.lt
  refine O.nil ?_
  refine hK1 _ _ _ ?_
  refine CM.seqK fun K2 hK2 => ?_
  refine CM.seqK fun K3 hK3 => ?_
  refine CM.region ?_
  refine O.mv ?_
  refine O.eqlS rfl rfl ?_
  refine O.nil ?_
  refine hK3 _ _ _ ?_
  refine CM.condD rfl (fun c9 => ?_) (fun c9 => ?_)
  ·
    refine CM.seqK fun K4 hK4 => ?_
    refine CM.region ?_
    refine O.store Tryz.sizeOf23 rfl rfl (by first | rfl | exact k4.one) (h2.keep e2) (by first | decide | simp) (fun w3 hs3 e3 z3 => ?_)
    try simp only [Int.toNat_natCast, Nat.zero_add, Nat.mul_one] at hs3
    refine O.store Tryz.sizeOf34 rfl rfl rfl (h3.keepM e3 (by intro h; (try dsimp only at h); omega)) (by first | decide | simp) (fun w4 hs4 e4 z4 => ?_)
    try simp only [Int.toNat_natCast, Nat.zero_add, Nat.mul_one] at hs4
    refine O.nil ?_
    refine hK4 _ _ _ ?_
    refine CM.ret ?_
    refine leaveM0 ?_
    refine Outs.cc1 rfl rfl rfl Tryz.isAgg23 Tryz.isAgg34 (hs3.keepM e4 (by intro h; (try dsimp only at h); omega)) hs4 ?_
    first
    | (have hq : Vc.vparse s = some [] := by unfold Vc.vparse; rw [if_pos c9]
       rw [hq]; exact ⟨(Ext.new (Ext.new (Ext.trans e1 e2) e3 (by rintro i hi rfl; omega)) e4 (by rintro i hi rfl; omega)), _, rfl, Sl.nil _ _ _⟩)
    | (have hq : Vc.vparse s = none := by
         obtain ⟨q2, hq2⟩ := hpx
         have hm9 : Vc.many (Vc.sp s) = none := by rw [← hq2, List.append_assoc, List.singleton_append]; exact Vc.many_bad hpn pp q2
         unfold Vc.vparse
         rw [if_neg c9, hm9]
       rw [hq]; exact ⟨(Ext.new (Ext.new (Ext.trans e1 e2) e3 (by rintro i hi rfl; omega)) e4 (by rintro i hi rfl; omega)), _, rfl, Sl.nil _ _ _⟩)
    | (have hv9 : Cn.vecValid ds = false := by simpa using c27
       have hq : Vc.vparse s = none := by
         unfold Vc.vparse
         rw [if_neg c9, k5]
         simp [hv9]
       rw [hq]; exact ⟨(Ext.new (Ext.new (Ext.trans e1 e2) e3 (by rintro i hi rfl; omega)) e4 (by rintro i hi rfl; omega)), _, rfl, Sl.nil _ _ _⟩)
    | (have hv9 : Cn.vecValid ds = true := by simpa using c27
       have hB := ({app:90}).bk_ge
       have hS := ({app:90}).sl
       have hq : Vc.vparse s = some ds := by
         unfold Vc.vparse
         rw [if_neg c9, k5]
         simp [hv9]
       rw [hq]; exact ⟨(Ext.new (Ext.new (Ext.trans e1 e2) e3 (by rintro i hi rfl; omega)) e4 (by rintro i hi rfl; omega)), _, rfl, hS.weak (fun j hj => (hB j hj).2)⟩)
  ·
    refine CM.skip ?_
    refine hK2 _ _ _ ?_
    refine CM.seqK fun K5 hK5 => ?_
    refine CM.region ?_
    refine O.alloc Tryz.zeroValue23 (fun b4 w5 hb4 hz4 e5 => ?_)
    have z5 := e5.size
    have h4 := hz4.own
    have hl4 := h4.lt
    refine O.nil ?_
    refine hK5 _ _ _ ?_
    refine CM.seqK fun K6 hK6 => ?_
    refine CM.seqK fun K7 hK7 => ?_
    refine CM.region ?_
    refine O.mv ?_
    refine O.call Tryz.call56 (args2 rfl rfl) (splitSeq0_spec s _) ?_
    rintro v_11 w6 ⟨cv11, dv11, fv11, rfl, hav11, hbv11, hcv11, hdv11, e6⟩
    have z6 := e6.size
    obtain ⟨Wd, hWd⟩ : ∃ x, x = w6 := ⟨_, rfl⟩
    have hWs : Wd.heap.size = w6.heap.size := by rw [hWd]
    have hlt1 := hav11.lt
    have hlt2 := hbv11.lt
    have hlt3 := hcv11.lt
    refine O.nil ?_
    refine hK7 _ _ _ ?_
    refine CM.block ?_
    refine CM.rangeF1 (xs := Vc.sp s) (enc := str) (M := fun k => k = dv11) (K := fun k => k = cv11 ∨ k = dv11 ∨ k = fv11) rfl (enters_of Tryz.func82 (by kernel_rfl) rfl) (fun _ => rfl) (split_on cv11 dv11 fv11 s _ hav11 hbv11 hcv11 ⟨hdv11.2.2.2.1, hdv11.2.2.2.2.1, hdv11.2.2.2.2.2⟩ hl) (by intro k hk; (try dsimp only at hk); have q1 := (hbv11).lt; omega) (by intro k hk; (try dsimp only at hk); have q1 := (hav11).lt; have q2 := (hbv11).lt; have q3 := (hcv11).lt; omega) (fun pre W => ∃ (vo : Value) (ds : List Dt.Dot), Own W b4 23 [vo] ∧ Own W b2 23 [.slice none 0 0] ∧ Own W b3 34 [.int .i64 0] ∧ OwnF Dt.dotF 25 (w6.heap.size + 2) W vo ds ∧ Vc.many pre = some ds ∧ ds.length = pre.length ∧ Ext (fun k => w.heap.size ≤ k) w W) (fun pre W => Own W b2 23 [.slice none 0 0] ∧ Own W b3 34 [.int .i64 6] ∧ (∃ p q, pre = p ++ [q] ∧ Dt.rparse q = none) ∧ Ext (fun k => w.heap.size ≤ k) w W) (by rintro pre A B ⟨vo, ds, g1, g2, g3, g4, g5, g6, g7⟩ e; exact ⟨vo, ds, g1.keepM e (by intro h; (try dsimp only at h); omega), g2.keepM e (by intro h; (try dsimp only at h); omega), g3.keepM e (by intro h; (try dsimp only at h); omega), g4.keepM e (fun k hk h => by have q1 := g4.bk_ge k hk; have q2 := (hbv11).lt; (try dsimp only at h); omega), g5, g6, Ext.trans g7 (e.mono (by intro k _ hk; (try dsimp only at hk); (try dsimp only); omega))⟩) (by rintro pre A B ⟨g2, g3, g5, g7⟩ e; exact ⟨g2.keepM e (by intro h; (try dsimp only at h); omega), g3.keepM e (by intro h; (try dsimp only at h); omega), g5, Ext.trans g7 (e.mono (by intro k _ hk; (try dsimp only at hk); (try dsimp only); omega))⟩) ⟨_, [], (h4.keep e6), (((h2.keep e2).keep e5).keep e6), ((h3.keep e5).keep e6), OwnF.nil _ _ _ _, rfl, rfl, (Ext.new (Ext.new (Ext.new (Ext.new (Ext.refl _ _) e1 (by intro i hi hk; first | exact hk.elim | ((try dsimp only at hk); (try dsimp only); omega))) e2 (by intro i hi hk; first | exact hk.elim | ((try dsimp only at hk); (try dsimp only); omega))) e5 (by intro i hi hk; first | exact hk.elim | ((try dsimp only at hk); (try dsimp only); omega))) e6 (by intro i hi hk; first | exact hk.elim | ((try dsimp only at hk); (try dsimp only); omega)))⟩ (fun pre x W9 hpx hI9 hsz9 => ?_) (fun W9 hI9 hsz9 hD9 => ?_) (fun pre W9 hpx hI9 hsz9 hD9 => ?_)
    ·
      obtain ⟨vo, ds, k1, k2, k3, k4, k5, k6, k7⟩ := hI9
      have eR : Le w W9 := Ext.new (Le.refl _) k7 (by intro i hi h; (try dsimp only at h); omega)
      have hsum := Vc.sp_sum s
      have hxl := hsum.2 x (hpx.subset (by simp))
      have hpl := hpx.length_le
      rw [List.length_append] at hpl
      have hpl2 : pre.length + 1 ≤ (Vc.sp s).length := hpl
      have zR := eR.size
      refine CR.block fun K8 hK8 => ?_
      refine CR.seqK fun K9 hK9 => ?_
      refine CR.region (by kernel_rfl) ?_
      refine O.mv ?_
      refine O.call Tryz.call57 (args1 rfl) (parse2_spec x es er _ (by omega) (htb.keep eR) (hes.keep eR) (her.keep eR) g1 g2) ?_
      rintro v_15 w7 ⟨rfl, e7⟩
      have z7 := e7.size
      refine O.mv ?_
      refine O.extract rfl rfl ?_
      refine O.extract rfl rfl ?_
      refine O.alloc Tryz.zeroValue25 (fun b6 w8 hb6 hz6 e8 => ?_)
      have z8 := e8.size
      have h6 := hz6.own
      have hl6 := h6.lt
      refine O.storeA (vs := [.int .i64 ((Dt.rparse x).getD (0, 0)).1, .int .i64 ((Dt.rparse x).getD (0, 0)).2]) Tryz.sizeOf25 rfl rfl rfl (by simp [Value.oneCell']) h6 (Nat.le_of_ble_eq_true rfl) (fun w9 hs9 e9 z9 => ?_)
      refine O.asg ?_
      refine O.nil ?_
      refine hK9 _ _ ?_
      refine CR.seqK fun K10 hK10 => ?_
      refine CR.seqK fun K11 hK11 => ?_
      refine CR.region (by kernel_rfl) ?_
      refine O.mv ?_
      refine O.neqI rfl rfl ?_
      refine O.nil ?_
      refine hK11 _ _ ?_
      refine CR.condD rfl (fun c19 => ?_) (fun c19 => ?_)
      ·
        have hr9 : Dt.rparse x = none := by
          cases hq : Dt.rparse x with
          | none => rfl
          | some d => exfalso; apply c19; rw [hq]; rfl
        refine CR.seqK fun K12 hK12 => ?_
        refine CR.region (by kernel_rfl) ?_
        refine O.mv ?_
        refine O.cast (v' := .int .i64 6) (congrArg (Value.int .i64) (by rw [hr9]; rfl)) ?_
        refine O.store Tryz.sizeOf23 rfl rfl (by first | rfl | exact k4.one) (((k2.keep e7).keep e8).keepM e9 (by intro h; (try dsimp only at h); omega)) (by first | decide | simp) (fun w10 hs10 e10 z10 => ?_)
        try simp only [Int.toNat_natCast, Nat.zero_add, Nat.mul_one] at hs10
        refine O.store Tryz.sizeOf34 rfl rfl rfl ((((k3.keep e7).keep e8).keepM e9 (by intro h; (try dsimp only at h); omega)).keepM e10 (by intro h; (try dsimp only at h); omega)) (by first | decide | simp) (fun w11 hs11 e11 z11 => ?_)
        try simp only [Int.toNat_natCast, Nat.zero_add, Nat.mul_one] at hs11
        refine O.nil ?_
        refine hK12 _ _ ?_
        refine CR.ret ?_
        exact ⟨⟨(hs10.keepM e11 (by intro h; (try dsimp only at h); omega)), hs11, ⟨pre, x, rfl, hr9⟩, (Ext.new (Ext.new (Ext.new (Ext.new (Ext.new (Ext.new (Ext.refl _ _) eR (by intro i hi hk; first | exact hk.elim | ((try dsimp only at hk); (try dsimp only); omega))) e7 (by intro i hi hk; first | exact hk.elim | ((try dsimp only at hk); (try dsimp only); omega))) e8 (by intro i hi hk; first | exact hk.elim | ((try dsimp only at hk); (try dsimp only); omega))) e9 (by intro i hi hk; first | exact hk.elim | ((try dsimp only at hk); (try dsimp only); omega))) e10 (by intro i hi hk; first | exact hk.elim | ((try dsimp only at hk); (try dsimp only); omega))) e11 (by intro i hi hk; first | exact hk.elim | ((try dsimp only at hk); (try dsimp only); omega)))⟩, (Ext.new (Ext.new (Ext.new (Ext.new (Ext.new (Ext.refl _ _) e7 (by intro i hi hk; first | exact hk.elim | ((try dsimp only at hk); (try dsimp only); omega))) e8 (by intro i hi hk; first | exact hk.elim | ((try dsimp only at hk); (try dsimp only); omega))) e9 (by intro i hi hk; first | exact hk.elim | ((try dsimp only at hk); (try dsimp only); omega))) e10 (by intro i hi hk; first | exact hk.elim | ((try dsimp only at hk); (try dsimp only); omega))) e11 (by intro i hi hk; first | exact hk.elim | ((try dsimp only at hk); (try dsimp only); omega)))⟩
      ·
        have hr9 : Dt.rparse x = some ((Dt.rparse x).getD (0, 0)) := by
          cases hq : Dt.rparse x with
          | none => exfalso; apply c19; rw [hq]; decide
          | some d => rfl
        refine CR.skip ?_
        refine hK10 _ _ ?_
        refine CR.region (by kernel_rfl) ?_
        refine O.loadO Tryz.isAgg23 rfl (((k1.keep e7).keep e8).keepM e9 (by intro h; (try dsimp only at h); omega)) rfl ?_
        refine O.loadOA Tryz.isAgg25 Tryz.sizeOf25 rfl hs9 (Nat.le_of_ble_eq_true rfl) ?_
        refine O.litG (G := Dt.dotF) [((Dt.rparse x).getD (0, 0))] Tryz.underlying23 ti25 ts25 tz25 rfl (by decide) (by decide) rfl (fun b23 w12 hb23 hz23 e12 => ?_)
        have z12 := e12.size
        have h23 := hz23.own
        have hq23 := Sl.litG (n := 1) h23 rfl (by unfold maxLen; omega)
        refine O.appF (G := Dt.dotF) Tryz.underlying23 ti25 tz25 ts25 rfl rfl rfl ((((k4.keep e7).keep e8).keepM e9 (fun k hk h => by have := k4.bk_ge k hk; (try dsimp only at h); omega)).keep e12) hq23 (by rw [tb25]; simp; omega) (by unfold maxLen; simp; omega) (by omega) (fun v24 w13 h24 e13 => ?_)
        have e13m : Ext (fun j => Wd.heap.size + 2 ≤ j) w12 w13 := e13.mono (fun j _ hj => by have := ((((k4.keep e7).keep e8).keepM e9 (fun k hk h => by have := k4.bk_ge k hk; (try dsimp only at h); omega)).keep e12).bk_ge j hj; omega)
        have z13 := e13.size
        have h24s := h24.sl
        refine O.store Tryz.sizeOf23 rfl rfl h24.one (((((k1.keep e7).keep e8).keepM e9 (by intro h; (try dsimp only at h); omega)).keep e12).keepM e13 (by intro h; have := ((((k4.keep e7).keep e8).keepM e9 (fun k hk h => by have := k4.bk_ge k hk; (try dsimp only at h); omega)).keep e12).bk_ge _ h; omega)) (by first | decide | simp) (fun w14 hs14 e14 z14 => ?_)
        try simp only [Int.toNat_natCast, Nat.zero_add, Nat.mul_one] at hs14
        refine O.nil ?_
        refine hK8 _ _ ?_
        exact ⟨⟨_, ds ++ [((Dt.rparse x).getD (0, 0))], hs14, ((((((k2.keep e7).keep e8).keepM e9 (by intro h; (try dsimp only at h); omega)).keep e12).keepM e13 (by intro h; have := ((((k4.keep e7).keep e8).keepM e9 (fun k hk h => by have := k4.bk_ge k hk; (try dsimp only at h); omega)).keep e12).bk_ge _ h; omega)).keepM e14 (by intro h; (try dsimp only at h); omega)), ((((((k3.keep e7).keep e8).keepM e9 (by intro h; (try dsimp only at h); omega)).keep e12).keepM e13 (by intro h; have := ((((k4.keep e7).keep e8).keepM e9 (fun k hk h => by have := k4.bk_ge k hk; (try dsimp only at h); omega)).keep e12).bk_ge _ h; omega)).keepM e14 (by intro h; (try dsimp only at h); omega)), (h24.keepM e14 (fun k hk h => by have := h24.bk_ge k hk; (try dsimp only at h); omega)), Vc.many_snoc hr9 k5, by rw [List.length_append, List.length_append, k6]; rfl, (Ext.new (Ext.new (Ext.new (Ext.new (Ext.new (Ext.new (Ext.new (Ext.refl _ _) eR (by intro i hi hk; first | exact hk.elim | ((try dsimp only at hk); (try dsimp only); omega))) e7 (by intro i hi hk; first | exact hk.elim | ((try dsimp only at hk); (try dsimp only); omega))) e8 (by intro i hi hk; first | exact hk.elim | ((try dsimp only at hk); (try dsimp only); omega))) e9 (by intro i hi hk; first | exact hk.elim | ((try dsimp only at hk); (try dsimp only); omega))) e12 (by intro i hi hk; first | exact hk.elim | ((try dsimp only at hk); (try dsimp only); omega))) e13m (by intro i hi hk; first | exact hk.elim | ((try dsimp only at hk); (try dsimp only); omega))) e14 (by intro i hi hk; first | exact hk.elim | ((try dsimp only at hk); (try dsimp only); omega)))⟩, (Ext.new (Ext.new (Ext.new (Ext.new (Ext.new (Ext.new (Ext.refl _ _) e7 (by intro i hi hk; first | exact hk.elim | ((try dsimp only at hk); (try dsimp only); omega))) e8 (by intro i hi hk; first | exact hk.elim | ((try dsimp only at hk); (try dsimp only); omega))) e9 (by intro i hi hk; first | exact hk.elim | ((try dsimp only at hk); (try dsimp only); omega))) e12 (by intro i hi hk; first | exact hk.elim | ((try dsimp only at hk); (try dsimp only); omega))) e13m (by intro i hi hk; first | exact hk.elim | ((try dsimp only at hk); (try dsimp only); omega))) e14 (by intro i hi hk; first | exact hk.elim | ((try dsimp only at hk); (try dsimp only); omega)))⟩
    ·
      obtain ⟨vo, ds, k1, k2, k3, k4, k5, k6, k7⟩ := hI9
      have eR : Le w W9 := Ext.new (Le.refl _) k7 (by intro i hi h; (try dsimp only at h); omega)
      have hD8 : DefAt w6.heap.size W9 := ⟨hD9⟩
      have zR := eR.size
      refine hK6 _ _ _ ?_
      refine CM.seqK fun K13 hK13 => ?_
      refine CM.seqK fun K14 hK14 => ?_
      refine CM.region ?_
      refine O.loadO Tryz.isAgg23 rfl k1 rfl ?_
      have h90s := (k4).sl
      refine O.call Tryz.call9 (args1 rfl) (vecValid_spec _ _ _ _ h90s) ?_
      rintro v_26 w15 ⟨rfl, e15⟩
      have z15 := e15.size
      refine O.not rfl ?_
      refine O.nil ?_
      refine hK14 _ _ _ ?_
      refine CM.cond rfl (fun c27 => ?_) (fun c27 => ?_)
      ·
        refine CM.seqK fun K15 hK15 => ?_
        refine CM.region ?_
        refine O.store Tryz.sizeOf23 rfl rfl (by first | rfl | exact k4.one) (k2.keep e15) (by first | decide | simp) (fun w16 hs16 e16 z16 => ?_)
        try simp only [Int.toNat_natCast, Nat.zero_add, Nat.mul_one] at hs16
        refine O.store Tryz.sizeOf34 rfl rfl rfl ((k3.keep e15).keepM e16 (by intro h; (try dsimp only at h); omega)) (by first | decide | simp) (fun w17 hs17 e17 z17 => ?_)
        try simp only [Int.toNat_natCast, Nat.zero_add, Nat.mul_one] at hs17
        refine O.nil ?_
        refine hK15 _ _ _ ?_
        refine CM.ret ?_
        refine leaveM1 ((((hD8.keep e15).keepM e16 (by intro h; (try dsimp only at h); omega)).keepM e17 (by intro h; (try dsimp only at h); omega))).h (fun w18 e18 => ?_)
        refine Outs.cc1 rfl rfl rfl Tryz.isAgg23 Tryz.isAgg34 ((hs16.keepM e17 (by intro h; (try dsimp only at h); omega)).keepM e18 (by intro h; (try dsimp only at h); omega)) (hs17.keepM e18 (by intro h; (try dsimp only at h); omega)) ?_
        first
        | (have hq : Vc.vparse s = some [] := by unfold Vc.vparse; rw [if_pos c9]
           rw [hq]; exact ⟨(Ext.new (Ext.new (Ext.new (Ext.trans eR e15) e16 (by rintro i hi rfl; omega)) e17 (by rintro i hi rfl; omega)) e18 (by rintro i hi rfl; omega)), _, rfl, Sl.nil _ _ _⟩)
        | (have hq : Vc.vparse s = none := by
             obtain ⟨q2, hq2⟩ := hpx
             have hm9 : Vc.many (Vc.sp s) = none := by rw [← hq2, List.append_assoc, List.singleton_append]; exact Vc.many_bad hpn pp q2
             unfold Vc.vparse
             rw [if_neg c9, hm9]
           rw [hq]; exact ⟨(Ext.new (Ext.new (Ext.new (Ext.trans eR e15) e16 (by rintro i hi rfl; omega)) e17 (by rintro i hi rfl; omega)) e18 (by rintro i hi rfl; omega)), _, rfl, Sl.nil _ _ _⟩)
        | (have hv9 : Cn.vecValid ds = false := by simpa using c27
           have hq : Vc.vparse s = none := by
             unfold Vc.vparse
             rw [if_neg c9, k5]
             simp [hv9]
           rw [hq]; exact ⟨(Ext.new (Ext.new (Ext.new (Ext.trans eR e15) e16 (by rintro i hi rfl; omega)) e17 (by rintro i hi rfl; omega)) e18 (by rintro i hi rfl; omega)), _, rfl, Sl.nil _ _ _⟩)
        | (have hv9 : Cn.vecValid ds = true := by simpa using c27
           have hB := (((((k4.keep e15).keepM e16 (fun k hk h => by have := k4.bk_ge k hk; (try dsimp only at h); omega)).keepM e17 (fun k hk h => by have := k4.bk_ge k hk; (try dsimp only at h); omega)).keepM e18 (fun k hk h => by have := k4.bk_ge k hk; (try dsimp only at h); omega))).bk_ge
           have hS := (((((k4.keep e15).keepM e16 (fun k hk h => by have := k4.bk_ge k hk; (try dsimp only at h); omega)).keepM e17 (fun k hk h => by have := k4.bk_ge k hk; (try dsimp only at h); omega)).keepM e18 (fun k hk h => by have := k4.bk_ge k hk; (try dsimp only at h); omega))).sl
           have hq : Vc.vparse s = some ds := by
             unfold Vc.vparse
             rw [if_neg c9, k5]
             simp [hv9]
           rw [hq]; exact ⟨(Ext.new (Ext.new (Ext.new (Ext.trans eR e15) e16 (by rintro i hi rfl; omega)) e17 (by rintro i hi rfl; omega)) e18 (by rintro i hi rfl; omega)), _, rfl, hS.weak (fun j hj => (hB j hj).2)⟩)
      ·
        refine CM.skip ?_
        refine hK13 _ _ _ ?_
        refine CM.seqK fun K16 hK16 => ?_
        refine CM.region ?_
        refine O.loadO Tryz.isAgg23 rfl (k1.keep e15) rfl ?_
        refine O.store Tryz.sizeOf23 rfl rfl (by first | rfl | exact k4.one) (k2.keep e15) (by first | decide | simp) (fun w19 hs19 e19 z19 => ?_)
        try simp only [Int.toNat_natCast, Nat.zero_add, Nat.mul_one] at hs19
        refine O.store Tryz.sizeOf34 rfl rfl rfl ((k3.keep e15).keepM e19 (by intro h; (try dsimp only at h); omega)) (by first | decide | simp) (fun w20 hs20 e20 z20 => ?_)
        try simp only [Int.toNat_natCast, Nat.zero_add, Nat.mul_one] at hs20
        refine O.nil ?_
        refine hK16 _ _ _ ?_
        refine CM.ret ?_
        refine leaveM1 ((((hD8.keep e15).keepM e19 (by intro h; (try dsimp only at h); omega)).keepM e20 (by intro h; (try dsimp only at h); omega))).h (fun w21 e21 => ?_)
        refine Outs.cc1 rfl rfl rfl Tryz.isAgg23 Tryz.isAgg34 ((hs19.keepM e20 (by intro h; (try dsimp only at h); omega)).keepM e21 (by intro h; (try dsimp only at h); omega)) (hs20.keepM e21 (by intro h; (try dsimp only at h); omega)) ?_
        first
        | (have hq : Vc.vparse s = some [] := by unfold Vc.vparse; rw [if_pos c9]
           rw [hq]; exact ⟨(Ext.new (Ext.new (Ext.new (Ext.trans eR e15) e19 (by rintro i hi rfl; omega)) e20 (by rintro i hi rfl; omega)) e21 (by rintro i hi rfl; omega)), _, rfl, Sl.nil _ _ _⟩)
        | (have hq : Vc.vparse s = none := by
             obtain ⟨q2, hq2⟩ := hpx
             have hm9 : Vc.many (Vc.sp s) = none := by rw [← hq2, List.append_assoc, List.singleton_append]; exact Vc.many_bad hpn pp q2
             unfold Vc.vparse
             rw [if_neg c9, hm9]
           rw [hq]; exact ⟨(Ext.new (Ext.new (Ext.new (Ext.trans eR e15) e19 (by rintro i hi rfl; omega)) e20 (by rintro i hi rfl; omega)) e21 (by rintro i hi rfl; omega)), _, rfl, Sl.nil _ _ _⟩)
        | (have hv9 : Cn.vecValid ds = false := by simpa using c27
           have hq : Vc.vparse s = none := by
             unfold Vc.vparse
             rw [if_neg c9, k5]
             simp [hv9]
           rw [hq]; exact ⟨(Ext.new (Ext.new (Ext.new (Ext.trans eR e15) e19 (by rintro i hi rfl; omega)) e20 (by rintro i hi rfl; omega)) e21 (by rintro i hi rfl; omega)), _, rfl, Sl.nil _ _ _⟩)
        | (have hv9 : Cn.vecValid ds = true := by simpa using c27
           have hB := (((((k4.keep e15).keepM e19 (fun k hk h => by have := k4.bk_ge k hk; (try dsimp only at h); omega)).keepM e20 (fun k hk h => by have := k4.bk_ge k hk; (try dsimp only at h); omega)).keepM e21 (fun k hk h => by have := k4.bk_ge k hk; (try dsimp only at h); omega))).bk_ge
           have hS := (((((k4.keep e15).keepM e19 (fun k hk h => by have := k4.bk_ge k hk; (try dsimp only at h); omega)).keepM e20 (fun k hk h => by have := k4.bk_ge k hk; (try dsimp only at h); omega)).keepM e21 (fun k hk h => by have := k4.bk_ge k hk; (try dsimp only at h); omega))).sl
           have hq : Vc.vparse s = some ds := by
             unfold Vc.vparse
             rw [if_neg c9, k5]
             simp [hv9]
           rw [hq]; exact ⟨(Ext.new (Ext.new (Ext.new (Ext.trans eR e15) e19 (by rintro i hi rfl; omega)) e20 (by rintro i hi rfl; omega)) e21 (by rintro i hi rfl; omega)), _, rfl, hS.weak (fun j hj => (hB j hj).2)⟩)
    ·
      obtain ⟨k2, k3, ⟨pp, pq, rfl, hpn⟩, k7⟩ := hI9
      have eR : Le w W9 := Ext.new (Le.refl _) k7 (by intro i hi h; (try dsimp only at h); omega)
      have hD8 : DefAt w6.heap.size W9 := ⟨hD9⟩
      have zR := eR.size
      refine leaveM1 (hD8).h (fun w22 e22 => ?_)
      refine Outs.cc1 rfl rfl rfl Tryz.isAgg23 Tryz.isAgg34 (k2.keepM e22 (by intro h; (try dsimp only at h); omega)) (k3.keepM e22 (by intro h; (try dsimp only at h); omega)) ?_
      first
      | (have hq : Vc.vparse s = some [] := by unfold Vc.vparse; rw [if_pos c9]
         rw [hq]; exact ⟨(Ext.new eR e22 (by rintro i hi rfl; omega)), _, rfl, Sl.nil _ _ _⟩)
      | (have hq : Vc.vparse s = none := by
           obtain ⟨q2, hq2⟩ := hpx
           have hm9 : Vc.many (Vc.sp s) = none := by rw [← hq2, List.append_assoc, List.singleton_append]; exact Vc.many_bad hpn pp q2
           unfold Vc.vparse
           rw [if_neg c9, hm9]
         rw [hq]; exact ⟨(Ext.new eR e22 (by rintro i hi rfl; omega)), _, rfl, Sl.nil _ _ _⟩)
      | (have hv9 : Cn.vecValid ds = false := by simpa using c27
         have hq : Vc.vparse s = none := by
           unfold Vc.vparse
           rw [if_neg c9, k5]
           simp [hv9]
         rw [hq]; exact ⟨(Ext.new eR e22 (by rintro i hi rfl; omega)), _, rfl, Sl.nil _ _ _⟩)
      | (have hv9 : Cn.vecValid ds = true := by simpa using c27
         have hB := ({app:90}).bk_ge
         have hS := ({app:90}).sl
         have hq : Vc.vparse s = some ds := by
           unfold Vc.vparse
           rw [if_neg c9, k5]
           simp [hv9]
         rw [hq]; exact ⟨(Ext.new eR e22 (by rintro i hi rfl; omega)), _, rfl, hS.weak (fun j hj => (hB j hj).2)⟩)

end Go.Proofs.YtbmbaajfkmejgaaGreatDoor
end
