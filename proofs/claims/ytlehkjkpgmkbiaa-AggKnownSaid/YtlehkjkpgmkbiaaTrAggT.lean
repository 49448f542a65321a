/- The values about the bounds. -/
import Derived.Test.YtlehkjkpgmkbiaaTrAggS
set_option linter.all false
namespace Tp
open Go
def valsL : List Int := [0, 1, -1, 5, 9223372036854775807, -9223372036854775808, 4611686018427387904, -4611686018427387904]
theorem vals_in : ∀ x, x ∈ valsL → in64 x := by decide
theorem in_three {a b c : Int} (ha : in64 a) (hb : in64 b) (hc : in64 c) : ∀ x, x ∈ [a, b, c] → in64 x := by
  intro x hx
  simp only [List.mem_cons, List.not_mem_nil, or_false] at hx
  rcases hx with rfl | rfl | rfl <;> assumption
theorem inJ_four {a b c d : Int} (ha : in64 a) (hb : in64 b) : inJ [⟨a, b, c, d⟩, ⟨1, b, b, b⟩, ⟨0, 0, 0, 0⟩, ⟨b, a, 1, c⟩] := by
  intro x hx
  simp only [List.mem_cons, List.not_mem_nil, or_false] at hx
  rcases hx with rfl | rfl | rfl | rfl
  · exact ⟨ha, hb⟩
  · exact ⟨(by decide : in64 1), hb⟩
  · exact ⟨(by decide : in64 0), (by decide : in64 0)⟩
  · exact ⟨hb, ha⟩
end Tp
