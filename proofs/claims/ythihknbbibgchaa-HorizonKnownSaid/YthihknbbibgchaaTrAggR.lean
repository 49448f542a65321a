/- What all values are, what orders tell, rows in order: told as the code tells it. -/
import Derived.Test.YthihknbbibgchaaTrAggP
set_option linter.all false
namespace Tp
open Go
/-! ### The orders -/
def orderI (less more : Bool) : Int := if less then -1 else if more then 1 else 0
section
variable {a b : Pane5}
end
def cmpRow (s : Bool) (a b : Row5) : Int := ordV s a.pane b.pane
/-! ### Lists that are the same -/
section
variable {α : Type} [DecidableEq α] {xs ys : List α} {i : Nat} {x y : α}
theorem eqL_len (h : ¬ (xs.length : Int) = (ys.length : Int)) : false = decide (xs = ys) := by
  symm; rw [decide_eq_false_iff_not]; rintro rfl; exact h rfl
theorem eqL_at (hx : xs[i]? = some x) (hy : ys[i]? = some y) (h : (!decide (x = y)) = true) : false = decide (xs = ys) := by
  symm; rw [decide_eq_false_iff_not]; rintro rfl; rw [hx] at hy; cases hy; simp at h
theorem eqL_all (h : xs.take i = ys.take i) (hi : xs.length ≤ i) (hl : (xs.length : Int) = (ys.length : Int)) : true = decide (xs = ys) := by
  symm; rw [decide_eq_true_iff]
  rwa [List.take_of_length_le hi, List.take_of_length_le (by omega)] at h
theorem eqL_step (h : xs.take i = ys.take i) (hx : xs[i]? = some x) (hy : ys[i]? = some y) (he : (!decide (x = y)) = false) : xs.take (i + 1) = ys.take (i + 1) := by
  have : x = y := by simpa using he
  subst this
  rw [← take_snoc hx, ← take_snoc hy, h]
end
/-! ### Sorted all along -/
section
variable {α : Type} (c : α → α → Int)
theorem sortV_len (xs : List α) : (sortV c xs).length = xs.length := sortN_len c xs _
theorem sortN_take (xs : List α) : (sortN c xs xs.length).take xs.length = sortV c xs := by
  rw [List.take_of_length_le (by rw [sortN_len]; omega)]; rfl
end
end Tp
