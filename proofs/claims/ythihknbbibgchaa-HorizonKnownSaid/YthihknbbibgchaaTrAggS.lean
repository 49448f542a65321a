/- What the laws on aggregates ask of parts, and of rows. -/
import Derived.Test.YthihknbbibgchaaTrAggR
import Derived.Test.YthihknbbibgchaaTrArena2
set_option linter.all false
namespace Tp
open Go
def keyOk (r : Row5) : Bool := !decide ((r.pane.key.size : Int) > 100)
def fewB (l : List Row5) : Bool := (l.take 21).all keyOk && decide (l.length ≤ 20)
section
variable {l : List Row5} {i : Nat} {x : Row5}
end
theorem pick_nat {i n : Int} (h : 0 < n) : ∃ k : Nat, pickI i n = ↑k ∧ (k : Int) < n := by
  have h1 : 0 ≤ pickI i n ∧ pickI i n < n := by
    unfold pickI; rw [if_neg (by omega)]
    have h2 := Int.lt_tmod_of_pos i h
    exact ⟨Int.tmod_nonneg _ (by omega), Int.tmod_lt_of_pos _ h⟩
  exact ⟨(pickI i n).toNat, by omega, by omega⟩
theorem drop_take_all {α : Type} (l : List α) (n : Nat) : (l.drop n).take (l.length - n) = l.drop n := List.take_of_length_le (by rw [List.length_drop]; omega)
end Tp
