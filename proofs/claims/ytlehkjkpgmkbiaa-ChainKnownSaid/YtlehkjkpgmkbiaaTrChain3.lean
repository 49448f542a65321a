/- The closed law's versions. -/
import Derived.Test.YtlehkjkpgmkbiaaTrChain2
namespace Tp
def oddL : List Ver := [⟨0, false, ⟨1, 1, 1, 1⟩⟩, ⟨1, false, ⟨0, 0, 0, 0⟩⟩, ⟨1, true, ⟨1, 0, 0, 0⟩⟩, ⟨3, false, ⟨1, 1, 1, 1⟩⟩, ⟨3, false, ⟨1, 2, 2, 2⟩⟩, ⟨2, true, aggZ⟩, ⟨5, false, ⟨2, 0, 3, 1⟩⟩, ⟨18446744073709551615, false, ⟨1, 4, 4, 4⟩⟩]
theorem ok_more {ls : List Ver} {v : Ver} (h : ∀ x ∈ ls, 0 ≤ x.epoch ∧ x.epoch < 18446744073709551616) (hv : 0 ≤ v.epoch ∧ v.epoch < 18446744073709551616) : ∀ x ∈ ls ++ [v], 0 ≤ x.epoch ∧ x.epoch < 18446744073709551616 := fun x hx => by
  rcases List.mem_append.1 hx with hx | hx
  · exact h x hx
  · simp at hx; subst hx; exact hv
end Tp
