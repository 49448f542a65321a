/- What all values are, what orders tell, rows in order: told as the code tells it. -/
import Derived.Test.YtlehkjkpgmkbiaaTrAggQ
set_option linter.all false
namespace Tp
open Go
theorem allV_bad {xs : List Int} (h : ¬ (sumV xs).2 = 0) : allV xs = (aggZ, 30) ∧ (sumV xs).2 = 30 := by
  unfold sumV at h ⊢
  split at h
  · exact absurd rfl h
  · rename_i hf
    have h0 : ¬ xs.length = 0 := by
      intro e
      have : xs = [] := List.eq_nil_of_length_eq_zero e
      subst this; exact hf (by rfl)
    rw [if_neg hf]
    exact ⟨by simp [allV, h0, hf], rfl⟩
theorem allV_ok {xs : List Int} (h : (sumV xs).2 = 0) : allV xs = (⟨xs.length, (sumV xs).1, minI xs, maxI xs⟩, 0) := by
  unfold sumV at h ⊢
  split at h
  · rename_i hf
    unfold allV
    split
    · rename_i e
      have : xs = [] := List.eq_nil_of_length_eq_zero e
      subst this; rfl
    · simp [hf]
  · cases h
theorem allV_one {v : Int} (hv : in64 v) : (⟨1, v, v, v⟩ : Agg5) = (allV [v]).1 := by
  have : fits (sumI [v]) = true := by simp [fits, sumI]; exact hv
  simp [allV, this]; simp [sumI, minI, maxI]
theorem minI_step {l : List Int} {i : Nat} {x : Int} (hi : l[i]? = some x) : minI (l.take (i + 1)) = if i = 0 then x else Min.min (minI (l.take i)) x := by
  split
  · rename_i h; subst h; exact (minI_one hi).symm
  · exact minI_snoc (by omega) hi
theorem maxI_step {l : List Int} {i : Nat} {x : Int} (hi : l[i]? = some x) : maxI (l.take (i + 1)) = if i = 0 then x else Max.max (maxI (l.take i)) x := by
  split
  · rename_i h; subst h; exact (maxI_one hi).symm
  · exact maxI_snoc (by omega) hi
/-! ### The orders -/
def orderI (less more : Bool) : Int := if less then -1 else if more then 1 else 0
section
variable {a b : Pane5}
theorem primV_key (h : (!(a.key.toList == b.key.toList)) = true) : orderI (sLt a.key b.key) true = primV a b := by
  have hk : a.key ≠ b.key := by simpa [sEq_dec] using h
  rw [primV, or3]
  have h1 : cmpS a.key b.key ≠ 0 := fun e => hk (cmpS_zero.1 e)
  rw [if_pos h1]
  unfold orderI cmpS
  split
  · rfl
  · first | rfl | simp_all
theorem primV_fin (h : (!(a.key.toList == b.key.toList)) = false) (h2 : ¬ a.fin = b.fin) : orderI (decide (a.fin < b.fin)) true = primV a b := by
  have hk : a.key = b.key := by simpa [sEq_dec] using h
  rw [primV, or3]
  have h1 : cmpS a.key b.key = 0 := cmpS_zero.2 hk
  have h3 : cmpI a.fin b.fin ≠ 0 := by unfold cmpI; (repeat split) <;> omega
  rw [if_neg (by simp [h1]), if_pos h3]
  unfold orderI cmpI
  by_cases h4 : a.fin < b.fin
  · simp [h4]
  · simp [h4]; omega
theorem primV_start (h : (!(a.key.toList == b.key.toList)) = false) (h2 : a.fin = b.fin) : orderI (decide (a.start < b.start)) (decide (a.start > b.start)) = primV a b := by
  have hk : a.key = b.key := by simpa [sEq_dec] using h
  rw [primV, or3]
  have h1 : cmpS a.key b.key = 0 := cmpS_zero.2 hk
  have h3 : cmpI a.fin b.fin = 0 := by unfold cmpI; (repeat split) <;> omega
  rw [if_neg (by simp [h1]), if_neg (by simp [h3])]
  simp [orderI, cmpI]
theorem secoV_fin (h2 : ¬ a.fin = b.fin) : orderI (decide (a.fin < b.fin)) true = secoV a b := by
  rw [secoV, or3]
  have h3 : cmpI a.fin b.fin ≠ 0 := by unfold cmpI; (repeat split) <;> omega
  rw [if_pos h3]
  unfold orderI cmpI
  by_cases h4 : a.fin < b.fin
  · simp [h4]
  · simp [h4]; omega
theorem secoV_eq (h2 : a.fin = b.fin) : primV a b = secoV a b := by
  rw [secoV, primV, or3, or3]
  have h3 : cmpI a.fin b.fin = 0 := by unfold cmpI; (repeat split) <;> omega
  simp [h3]
end
def cmpRow (s : Bool) (a b : Row5) : Int := ordV s a.pane b.pane
theorem cmpRow_neg {s : Bool} {x y : Row5} {n : Int} (e : ordV s y.pane x.pane = n) (h : ¬ n ≤ 0) : cmpRow s x y < 0 := by
  have := ordV_swap s y.pane x.pane
  unfold cmpRow; omega
theorem cmpRow_pos {s : Bool} {x y : Row5} {n : Int} (e : ordV s y.pane x.pane = n) (h : n ≤ 0) : ¬ cmpRow s x y < 0 := by
  have := ordV_swap s y.pane x.pane
  unfold cmpRow; omega
/-! ### Lists that are the same -/
section
variable {α : Type} [DecidableEq α] {xs ys : List α} {i : Nat} {x y : α}
theorem eqL_len (h : ¬ (xs.length : Int) = (ys.length : Int)) : false = decide (xs = ys) := by
  symm; rw [decide_eq_false_iff_not]; rintro rfl; exact h rfl
theorem eqL_at (hx : xs[i]? = some x) (hy : ys[i]? = some y) (h : (!decide (x = y)) = true) : false = decide (xs = ys) := by
  symm; rw [decide_eq_false_iff_not]; rintro rfl; rw [hx] at hy; cases hy; simp at h
theorem eqL_all (h : xs.take i = ys.take i) (hi : xs.length ≤ i) (hl : (xs.length : Int) = (ys.length : Int)) : true = decide (xs = ys) := by
  symm; rw [decide_eq_true_iff]
  rwa [List.take_of_length_le hi, List.take_of_length_le (by omega)] at h
theorem eqL_step (h : xs.take i = ys.take i) (hx : xs[i]? = some x) (hy : ys[i]? = some y) (he : (!decide (x = y)) = false) : xs.take (i + 1) = ys.take (i + 1) := by
  have : x = y := by simpa using he
  subst this
  rw [← take_snoc hx, ← take_snoc hy, h]
end
/-! ### Sorted all along -/
section
variable {α : Type} (c : α → α → Int)
theorem bub_over {ys : List α} {j : Nat} (h : ys.length ≤ j) : bub c ys j = ys := by
  cases j with
  | zero => rw [bub]
  | succ k => rw [bub, List.getElem?_eq_none h]
theorem sortN_over {xs : List α} {k : Nat} (h : xs.length ≤ k) : sortN c xs k = sortV c xs := by
  induction k with
  | zero => have : xs.length = 0 := by omega
            rw [sortV, this]
  | succ k ih =>
    rcases Nat.lt_or_ge k xs.length with h1 | h1
    · have : xs.length = k + 1 := by omega
      rw [sortV, this]
    · rw [sortN, bub_over c (by rw [sortN_len]; exact h1), ih h1]
theorem sortV_len (xs : List α) : (sortV c xs).length = xs.length := sortN_len c xs _
theorem sortN_take (xs : List α) : (sortN c xs xs.length).take xs.length = sortV c xs := by
  rw [List.take_of_length_le (by rw [sortN_len]; omega)]; rfl
end
end Tp
