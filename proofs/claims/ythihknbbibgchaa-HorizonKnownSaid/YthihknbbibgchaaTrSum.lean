/- Sums: by the program (64 digits, and how often they ran over), and by the reference (in four places of 32 digits). -/
import Derived.Test.YthihknbbibgchaaTrAggM
import Derived.Test.YthihknbbibgchaaTrOps4
import Derived.Laws.BitsLemmas
set_option linter.all false
namespace Tp
open Go
/-- brought to 64 digits -/
def w64 (n : Int) : Int := (n + 9223372036854775808) % 18446744073709551616 - 9223372036854775808
theorem wrap_w64 (n : Int) : IntKind.i64.wrap n = w64 n := IntKind.wrap_i64 n
def fits (n : Int) : Bool := decide (-9223372036854775808 ≤ n ∧ n ≤ 9223372036854775807)
/-- one number more: the sum, how often it ran over -/
def overS (s o n : Int) : Int := if s ≥ 0 ∧ n ≥ 0 ∧ w64 (s + n) < 0 then o + 1 else if s < 0 ∧ n < 0 ∧ w64 (s + n) ≥ 0 then o - 1 else o
def in64 (n : Int) : Prop := -9223372036854775808 ≤ n ∧ n ≤ 9223372036854775807
instance (n : Int) : Decidable (in64 n) := inferInstanceAs (Decidable (_ ∧ _))
def sumI (l : List Int) : Int := l.foldl (· + ·) 0
/-- what both answer -/
def sumV (l : List Int) : Int × Int := if fits (sumI l) then (sumI l, 0) else (0, 30)
/-! ### In four places -/
structure Wide where
  a : Int
  b : Int
  c : Int
  d : Int
deriving DecidableEq, Inhabited
def wideE (w : Wide) : List Value := [.int .i64 w.a, .int .i64 w.b, .int .i64 w.c, .int .i64 w.d]
def settleW (w : Wide) : Wide :=
  ⟨w.a % 4294967296, (w.b + w.a / 4294967296) % 4294967296, (w.c + (w.b + w.a / 4294967296) / 4294967296) % 4294967296, w.d + (w.c + (w.b + w.a / 4294967296) / 4294967296) / 4294967296⟩
def valW (w : Wide) : Int := w.a + w.b * 4294967296 + w.c * 18446744073709551616 + w.d * 79228162514264337593543950336
structure normW (w : Wide) : Prop where
  a : 0 ≤ w.a ∧ w.a < 4294967296
  b : 0 ≤ w.b ∧ w.b < 4294967296
  c : 0 ≤ w.c ∧ w.c < 4294967296
def ofW (n : Int) : Wide := settleW ⟨n % 4294967296, n / 4294967296, 0, 0⟩
def plusW (x y : Wide) : Wide := settleW ⟨x.a + y.a, x.b + y.b, x.c + y.c, x.d + y.d⟩
def joinW (w : Wide) : Int := w64 (w.b * 4294967296 + w.a)
/-! ### The bits -/
namespace Step
variable {P : Program} {ρ : Env} {w : World} {ty : TypeId}
end Step
end Tp
namespace Tp
open Go
end Tp
