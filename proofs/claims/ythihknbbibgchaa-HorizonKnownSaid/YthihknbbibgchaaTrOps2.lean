/- More operations: max and min. -/
import Derived.Test.YthihknbbibgchaaTrOps
import Derived.Lib.MinMax
namespace Tp
open Go
namespace Step
variable {P : Program} {ρ : Env} {w : World} {ty : TypeId}
theorem maxI {ts : Array TypeId} {x y : Operand} {k : IntKind} {a b : Int} (hx : ρ.ev x = .int k a) (hy : ρ.ev y = .int k b) :
    Step P (.call { callee := .builtin .max, args := #[x, y], argTypes := ts }) ty ρ w (.int k (max a b)) w := by
  intro d pos aft g
  left
  simp [execOp, resolve, invoke, builtin, hx, hy, Lib.run_max_ints]
theorem minI {ts : Array TypeId} {x y : Operand} {k : IntKind} {a b : Int} (hx : ρ.ev x = .int k a) (hy : ρ.ev y = .int k b) :
    Step P (.call { callee := .builtin .min, args := #[x, y], argTypes := ts }) ty ρ w (.int k (min a b)) w := by
  intro d pos aft g
  left
  simp [execOp, resolve, invoke, builtin, hx, hy, Lib.run_min_ints]
end Step
end Tp
