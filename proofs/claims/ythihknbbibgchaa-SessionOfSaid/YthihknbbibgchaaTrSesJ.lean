/- Spans that are the same; all of what the law asks of times: plain data. -/
import Derived.Test.YthihknbbibgchaaTrSesI
set_option linter.all false
namespace Tp
open Go
theorem eqS_1 {x y : Span} (h : ((x.start : Int) != (y.start : Int)) = true) : (!decide (x = y)) = true := by
  simp at h ⊢; rintro rfl; exact h rfl
theorem eqS_2 {x y : Span} (h : ((x.fin : Int) != (y.fin : Int)) = true) : (!decide (x = y)) = true := by
  simp at h ⊢; rintro rfl; exact h rfl
theorem eqS_f {x y : Span} (h1 : ((x.start : Int) != (y.start : Int)) = false) (h2 : ((x.fin : Int) != (y.fin : Int)) = false) : (!decide (x = y)) = false := by
  cases x; cases y; simp at *; exact ⟨h1, h2⟩
/-! ### Sessions of times, one by one -/
def sesT (gap : Int) (ts : List Int) : List Span := ofT gap (sortT ts)
/-! ### A time lies in just one of them -/
def holdT (gap t : Int) (s : Span) : Bool := decide (s.start ≤ t) && decide (t + gap ≤ s.fin)
def cntT (gap t : Int) (l : List Span) (k : Nat) : Nat := ((l.take k).filter (holdT gap t)).length
/-! ### Numbers brought to times and gaps -/
def gapT (g : Int) : Int := 1 + (g.tmod 1048576 + 1048576).tmod 1048576
def timT (t : Int) : Int := t.tmod 1099511627776
/-! ### Times, turned -/
def rotT (ts : List Int) (k : Nat) : List Int := ts.drop k ++ ts.take k
/-! ### The examples -/
theorem wk_sort : sortT [0, 5, 15, 40] = [0, 5, 15, 40] := by
  unfold sortT
  exact List.mergeSort_of_pairwise (by simp)
theorem wk_of : ofT 10 (sortT [0, 5, 15, 40]) = [⟨0, 15⟩, ⟨15, 25⟩, ⟨40, 50⟩] := by rw [wk_sort]; rfl
end Tp
