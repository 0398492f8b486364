/-
 PLAIN LAWS OF BATCHES, 15: small entries have short batches. Of no program.
-/
import Derived.Test.YtpbcafkcfobngaaGreatDoorCards
import Derived.Test.YtpbcafkcfobngaaGreatDoorTie
import Derived.Test.YtpbcafkcfobngaaGreatDoorBatchManyM2
section
namespace Go.Pn.Bt
open Go Go.Pn Go.Pn.Jn
section
variable {l : List Ent} {most : Int}
theorem small_len (h : small l most = true) : (l.length : Int) ≤ most := (small_iff h).1
end
end Go.Pn.Bt
end
section
namespace Go.Pn
open Go.RowKit
section
variable {P : Program} {n : Nat} {ops rest : List Oper} {N : Val → World → Prop} {Z : List PanicEntry → World → Prop} {f : Val} {w : World}
 {x y : Operand} {t tr ty : TypeId} {pos : String} {after : Array Edge} {α : Type}
end
theorem EntL.zero {w : World} {F : Nat → Prop} {ks : List (List UInt8)} : EntL w F (ks.map ent0) (ks.map fun k => (k, cart0)) := by
 refine ⟨by rw [List.length_map, List.length_map], fun i h1 h2 => ?_⟩
 rw [List.getElem_map, List.getElem_map]
 exact ⟨rfl, CartAt.zero⟩
end Go.Pn
end
section
namespace Go.Pn.Bt
open Go Go.Pn Go.Pn.Jn
def mkey (i : Nat) : List UInt8 := [UInt8.ofBitVec (BitVec.ofInt 8 (48 + (i : Int) / 1000)), UInt8.ofBitVec (BitVec.ofInt 8 (48 + (i : Int) / 100 % 10)), UInt8.ofBitVec (BitVec.ofInt 8 (48 + (i : Int) / 10 % 10)), UInt8.ofBitVec (BitVec.ofInt 8 (48 + (i : Int) % 10))]
def mkeys (n : Nat) : List (List UInt8) := (List.range n).map mkey
def manyL (n : Nat) : List Ent := (mkeys n).map fun k => (k, cart0)
theorem mkeys_len (n : Nat) : (mkeys n).length = n := by simp [mkeys]
theorem mkeys_succ (n : Nat) : mkeys (n + 1) = mkeys n ++ [mkey n] := by simp [mkeys, List.range_succ]
theorem manyL_len (n : Nat) : (manyL n).length = n := by simp [manyL, mkeys_len]
theorem manyL_get {n i : Nat} (h : i < (manyL n).length) : (manyL n)[i] = (mkey i, cart0) := by simp [manyL, mkeys]
theorem manyL_mem {n : Nat} {x : Ent} (h : x ∈ manyL n) : ∃ i, i < n ∧ x = (mkey i, cart0) := by
 obtain ⟨i, hi, e⟩ := List.mem_iff_getElem.1 h
 rw [manyL_get hi] at e
 rw [manyL_len] at hi
 exact ⟨i, hi, e.symm⟩
theorem mkey_ok : ∀ i, i < 1100 → okKey (mkey i) = true := by decide +kernel
theorem mkey_up : ∀ i, i < 1100 → Op.bytesLess (mkey i) (mkey (i + 1)) = true := by decide +kernel
theorem cart0_ok : Cn.valid cart0 = true := by decide +kernel
theorem manyL_ordered {n : Nat} (h : n ≤ 1100) : ordered (manyL n) = true := ordered_yes (fun i hi => by
 rw [manyL_get hi]
 rw [manyL_len] at hi
 exact okE_of (mkey_ok i (by omega)) cart0_ok) (fun i hi => by
 rw [manyL_get, manyL_get]
 rw [manyL_len] at hi
 exact mkey_up i (by omega))
theorem manyL_valid {n : Nat} (h : n ≤ 1100) : valid (manyL n) = decide (n ≤ 1024) := by
 unfold valid
 rw [manyL_ordered h, manyL_len, Bool.and_true]
theorem manyL_big (n : Nat) : Big (manyL n) := fun x hx => by
 obtain ⟨i, _, rfl⟩ := manyL_mem hx
 exact ⟨by show (mkey i).length ≤ 1000000; simp [mkey], Nat.zero_le _, Nat.zero_le _, Nat.zero_le _, fun y hy => by cases hy⟩
theorem manyL_ent {n : Nat} : ∀ x ∈ manyL n, (entB x).length ≤ 30 := fun x hx => by
 obtain ⟨i, _, rfl⟩ := manyL_mem hx
 have h1 : (Cn.bytes cart0).length = 3 := by decide +kernel
 have h2 := Cn.num_le (mkey i).length (by show 4 < _; decide)
 have h3 : (mkey i).length = 4 := rfl
 unfold entB Cn.strB
 simp only [List.length_append]
 omega
theorem manyL_flat (n : Nat) : ((manyL n).flatMap entB).length ≤ 30 * n := by
 have := Cn.flatMap_le (l := manyL n) (f := entB) manyL_ent
 rwa [manyL_len] at this
theorem manyL_none {n : Nat} (h : n ≤ 1100) (hn : 1024 < n) : DecRes (enc (manyL n)) [] 12 := DecRes.none fun l' h' e => by
 have hb : body (manyL n) = body l' := end4_inj e
 have hq : allQ (manyL n) := fun x hx => by
  obtain ⟨i, _, rfl⟩ := manyL_mem hx
  exact ⟨trivial, cart0_ok⟩
 have e2 := (pre_body _ _ [] [] hq (valQ h') (by rw [hb])).1
 have h3 := valid_len h'
 rw [← e2, manyL_len] at h3
 omega
end Go.Pn.Bt
end
