/-
  PLAIN LAWS OF CARTS AS BYTES: the chapter's example. Of no program.
-/
import Derived.Test.YtnkcmaoaagnopaaGreatDoorCn2
namespace Go.Pn.Cn
open Go Go.Pn
/-- The cart of the chapter's examples. -/
def exam : Cart := (([(2, 3)], [(5, 9)]), [([116, 101, 97], [((2, 3), 200, 1#64)])])
/-- No cart at all. -/
def nil0 : Cart := (([], []), [])
/-- The example without its vector. -/
def exam2 : Cart := (([], [(5, 9)]), [([116, 101, 97], [((2, 3), 200, 1#64)])])
theorem num200 : num 200 = [200, 1] := by rw [num_ge (by decide), num_lt (by decide)]; rfl
theorem bytes_nil0 : bytes nil0 = [0, 0, 0] := by
  unfold bytes nil0 ctxB dotsB itemsB
  simp [num_lt]
theorem bytes_exam : bytes exam = [1, 2, 3, 1, 5, 9, 1, 3, 116, 101, 97, 1, 2, 3, 200, 1, 1] := by
  have e2 : u 2 = 2 := by decide
  have e3 : u 3 = 3 := by decide
  have e5 : u 5 = 5 := by decide
  have e9 : u 9 = 9 := by decide
  have e200 : u 200 = 200 := by decide
  unfold bytes exam ctxB dotsB itemsB itemB strB
  simp [num_lt, dotB, markB, e2, e3, e5, e9, e200, num200]
theorem ctx_exam : ctxB exam.1 = [1, 2, 3, 1, 5, 9] := by
  have e2 : u 2 = 2 := by decide
  have e3 : u 3 = 3 := by decide
  have e5 : u 5 = 5 := by decide
  have e9 : u 9 = 9 := by decide
  unfold exam ctxB dotsB
  simp [num_lt, dotB, e2, e3, e5, e9]
theorem valid_nil0 : valid nil0 = true := by decide +kernel
theorem valid_exam : valid exam = true := by decide +kernel
theorem valid_exam2 : valid exam2 = false := by decide +kernel
theorem compact_exam : isCompact exam.1 = true := by decide +kernel
end Go.Pn.Cn
