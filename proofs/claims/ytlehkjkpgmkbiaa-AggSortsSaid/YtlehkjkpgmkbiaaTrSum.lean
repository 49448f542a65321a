/- Sums: by the program (64 digits, and how often they ran over), and by the reference (in four places of 32 digits). -/
import Derived.Test.YtlehkjkpgmkbiaaTrAggM
import Derived.Test.YtlehkjkpgmkbiaaTrOps4
import Derived.Laws.BitsLemmas
set_option linter.all false
namespace Tp
open Go
/-- brought to 64 digits -/
def w64 (n : Int) : Int := (n + 9223372036854775808) % 18446744073709551616 - 9223372036854775808
theorem wrap_w64 (n : Int) : IntKind.i64.wrap n = w64 n := IntKind.wrap_i64 n
def fits (n : Int) : Bool := decide (-9223372036854775808 ≤ n ∧ n ≤ 9223372036854775807)
theorem w64_in (n : Int) : -9223372036854775808 ≤ w64 n ∧ w64 n ≤ 9223372036854775807 := by unfold w64; omega
/-- one number more: the sum, how often it ran over -/
def overS (s o n : Int) : Int := if s ≥ 0 ∧ n ≥ 0 ∧ w64 (s + n) < 0 then o + 1 else if s < 0 ∧ n < 0 ∧ w64 (s + n) ≥ 0 then o - 1 else o
def in64 (n : Int) : Prop := -9223372036854775808 ≤ n ∧ n ≤ 9223372036854775807
instance (n : Int) : Decidable (in64 n) := inferInstanceAs (Decidable (_ ∧ _))
theorem overS_step {s o n t : Int} (hs : in64 s) (hn : in64 n) (h : s + o * 18446744073709551616 = t) : w64 (s + n) + overS s o n * 18446744073709551616 = t + n := by
  unfold overS w64 in64 at *
  split
  · omega
  · split <;> omega
theorem overS_le {s o n : Int} : o - 1 ≤ overS s o n ∧ overS s o n ≤ o + 1 := by unfold overS; split; omega; split <;> omega
def sumI (l : List Int) : Int := l.foldl (· + ·) 0
theorem foldl_add (l : List Int) (a : Int) : l.foldl (· + ·) a = a + sumI l := by
  induction l generalizing a with
  | nil => simp [sumI]
  | cons x l ih =>
    have h1 := ih (a + x); have h2 := ih (0 + x)
    simp only [sumI, List.foldl_cons] at *
    omega
theorem sumI_cons (x : Int) (l : List Int) : sumI (x :: l) = x + sumI l := by rw [sumI, List.foldl_cons, foldl_add]; omega
theorem sumI_append (a b : List Int) : sumI (a ++ b) = sumI a + sumI b := by rw [sumI, List.foldl_append, foldl_add]; rfl
theorem sumI_snoc {l : List Int} {i : Nat} {x : Int} (h : l[i]? = some x) : sumI (l.take (i + 1)) = sumI (l.take i) + x := by
  rw [← take_snoc h, sumI_append, sumI_cons]; simp [sumI]
/-- what both answer -/
def sumV (l : List Int) : Int × Int := if fits (sumI l) then (sumI l, 0) else (0, 30)
theorem sumV_over {s o t : Int} (hs : in64 s) (h : s + o * 18446744073709551616 = t) : (o = 0 ∧ fits t = true ∧ s = t) ∨ (o ≠ 0 ∧ fits t = false) := by
  unfold in64 at hs
  by_cases ho : o = 0
  · subst ho; left; refine ⟨rfl, ?_, by omega⟩; simp [fits]; omega
  · right; refine ⟨ho, ?_⟩; simp [fits]; omega
/-! ### In four places -/
structure Wide where
  a : Int
  b : Int
  c : Int
  d : Int
deriving DecidableEq, Inhabited
def wideE (w : Wide) : List Value := [.int .i64 w.a, .int .i64 w.b, .int .i64 w.c, .int .i64 w.d]
def settleW (w : Wide) : Wide :=
  ⟨w.a % 4294967296, (w.b + w.a / 4294967296) % 4294967296, (w.c + (w.b + w.a / 4294967296) / 4294967296) % 4294967296, w.d + (w.c + (w.b + w.a / 4294967296) / 4294967296) / 4294967296⟩
def valW (w : Wide) : Int := w.a + w.b * 4294967296 + w.c * 18446744073709551616 + w.d * 79228162514264337593543950336
structure normW (w : Wide) : Prop where
  a : 0 ≤ w.a ∧ w.a < 4294967296
  b : 0 ≤ w.b ∧ w.b < 4294967296
  c : 0 ≤ w.c ∧ w.c < 4294967296
def ofW (n : Int) : Wide := settleW ⟨n % 4294967296, n / 4294967296, 0, 0⟩
def plusW (x y : Wide) : Wide := settleW ⟨x.a + y.a, x.b + y.b, x.c + y.c, x.d + y.d⟩
def joinW (w : Wide) : Int := w64 (w.b * 4294967296 + w.a)
/-! ### The bits -/
namespace Step
variable {P : Program} {ρ : Env} {w : World} {ty : TypeId}
theorem addW {t ty' : TypeId} {x y : Operand} {a b : Int} (hx : ρ.ev x = .int .i64 a) (hy : ρ.ev y = .int .i64 b) : Step P (.binOp .add t x y ty') ty ρ w (.int .i64 (w64 (a + b))) w := Step.add hx hy (wrap_w64 _)
end Step
end Tp
namespace Tp
open Go
end Tp
