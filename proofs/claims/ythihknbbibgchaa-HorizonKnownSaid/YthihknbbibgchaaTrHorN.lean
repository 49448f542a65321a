/- How many pins a call leaves at the least: plain data. -/
import Derived.Test.YthihknbbibgchaaTrHorM
set_option linter.all false
namespace Tp
open Go
theorem repL_nil {α : Type} {T : Ty α} {w : World} : RepL T [] [] w := ⟨by simp, fun i x h => by simp at h⟩
theorem setP_low (p : PinH) (ps : List PinH) : ps.length ≤ (setP p ps).length := by
  unfold setP
  split
  · simp
  · simp
theorem setF_low (l : List PinH) : ∀ ps : List PinH, ps.length ≤ (l.foldl (fun a p => setP p a) ps).length := by
  induction l with
  | nil => intro ps; simp
  | cons p l ih =>
    intro ps
    have h1 := ih (setP p ps)
    have h2 := setP_low p ps
    simp only [List.foldl_cons]; omega
theorem pinS_low (ps : List PinH) (fo : Int) (l : List PinH) : ps.length ≤ (pinS ps fo l).length + 1 := by
  unfold pinS
  split
  · have := setF_low l ps; omega
  · omega
theorem mvS_low (ps : List PinH) (p : PinH) : ps.length ≤ (mvS ps p).length + 1 := by
  unfold mvS
  split
  · have := setP_low p ps; omega
  · omega
theorem delP_low (s i : Int) (ps : List PinH) : ps.length ≤ (delP s i ps).length + 1 := delP_len' s i ps
theorem act_snoc {xs : List HAct} {x : HAct} (h : ∀ a, a ∈ xs → 0 ≤ a.now ∧ 0 ≤ a.p.epoch) (h1 : 0 ≤ x.now) (h2 : 0 ≤ x.p.epoch) : ∀ a, a ∈ xs ++ [x] → 0 ≤ a.now ∧ 0 ≤ a.p.epoch := by
  intro a ha
  rcases List.mem_append.1 ha with ha | ha
  · exact h a ha
  · rw [List.mem_singleton.1 ha]; exact ⟨h1, h2⟩
theorem pin1_len (ps : List PinH) (fo : Int) (p : PinH) : (pinS ps fo [p]).length ≤ ps.length + 1 := pinS_len ps fo [p]
theorem wrap_u64 {a : Int} (h : 0 ≤ a ∧ a ≤ 18446744073709551615) : IntKind.u64.wrap a = a := by
  unfold IntKind.wrap; simp [IntKind.bits, IntKind.signed]; omega
end Tp
