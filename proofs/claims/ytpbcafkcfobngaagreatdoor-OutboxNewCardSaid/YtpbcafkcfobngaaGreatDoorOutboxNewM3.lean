/-
 Outboxes: strings put in order one by one. No condition.
-/
import Derived.Ground.Names2Prog
import Derived.Shelf.Spec.SlicesInsert
import Derived.Shelf.Spec.SlicesInsertGrow
import Derived.Test.YtpbcafkcfobngaaGreatDoorProg
import Derived.Test.YtpbcafkcfobngaaGreatDoorCards
import Derived.Test.YtpbcafkcfobngaaGreatDoorTie
import Derived.Test.YtpbcafkcfobngaaGreatDoorOutboxNewM2
namespace Go.Pn.Ob
open Go Go.Pn Go.Pn.Jn Go.Pn.Bt
def lin (s : Name) : List Name → List Name
 | [] => [s]
 | a :: r => if BL a s then a :: lin s r else s :: a :: r
def srt (l : List Name) : List Name := l.foldl (fun o s => lin s o) []
theorem srt_snoc (l : List Name) (s : Name) : srt (l ++ [s]) = lin s (srt l) := by unfold srt; rw [List.foldl_append]; rfl
theorem srt_take {l : List Name} {i : Nat} (h : i < l.length) : srt (l.take (i + 1)) = lin l[i] (srt (l.take i)) := by rw [List.take_succ_eq_append_getElem h, srt_snoc]
theorem lin_len (s : Name) : ∀ o : List Name, (lin s o).length = o.length + 1
 | [] => rfl
 | a :: r => by
   unfold lin
   split
   ·rw [List.length_cons, lin_len s r, List.length_cons]
   ·rfl
theorem srt_len (l : List Name) : (srt l).length = l.length := by
 have : ∀ (l o : List Name), (l.foldl (fun o s => lin s o) o).length = o.length + l.length := by
  intro l
  induction l with
  | nil => intro o; rfl
  | cons a l ih => intro o; rw [List.foldl_cons, ih, lin_len, List.length_cons]; omega
 have h := this l []
 simpa [srt] using h
theorem lin_at {s : Name} : ∀ {o : List Name} {k : Nat}, k ≤ o.length → (∀ j, ∀ h : j < o.length, j < k → BL o[j] s) → (∀ h : k < o.length, ¬ BL o[k] s) → o.take k ++ s :: o.drop k = lin s o
 | [], k, hk, _, _ => by simp [lin]
 | a :: r, 0, _, _, h2 => by
   have := h2 (by simp)
   unfold lin
   rw [if_neg (by simpa using this)]
   rfl
 | a :: r, k + 1, hk, h1, h2 => by
   have ha := h1 0 (by simp) (by omega)
   unfold lin
   rw [if_pos (by simpa using ha)]
   show a :: (r.take k ++ s :: r.drop k) = _
   rw [lin_at (o := r) (k := k) (by simpa using hk) (fun j h q => by have := h1 (j + 1) (by simpa using h) (by omega); simpa using this) (fun h => by have := h2 (by simpa using h); simpa using this)]
def nxt (o : List Name) (s : Name) (k : Nat) : Bool := match o[k]? with
 | some a => Op.bytesLess a s
 | none => false
theorem nxt_lt {o : List Name} {s : Name} {k : Nat} (h : k < o.length) : nxt o s k = Op.bytesLess o[k] s := by unfold nxt; rw [List.getElem?_eq_getElem h]
theorem nxt_ge {o : List Name} {s : Name} {k : Nat} (h : o.length ≤ k) : nxt o s k = false := by unfold nxt; rw [List.getElem?_eq_none h]
theorem nxt_true {o : List Name} {s : Name} {k : Nat} (h : nxt o s k = true) : ∃ q : k < o.length, BL o[k] s := by
 rcases Nat.lt_or_ge k o.length with g | g
 ·exact ⟨g, (nxt_lt g).symm.trans h⟩
 ·rw [nxt_ge g] at h; cases h
theorem nxt_false {o : List Name} {s : Name} {k : Nat} (h : nxt o s k = false) : ∀ q : k < o.length, ¬ BL o[k] s := fun q g => by
 have := (nxt_lt q).symm.trans h
 rw [show Op.bytesLess o[k] s = true from g] at this
 cases this
end Go.Pn.Ob
