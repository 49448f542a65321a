/- More operations: conversions between integers, shifts to the right. -/
import Derived.Test.YthihknbbibgchaaTrOps3
import Derived.Laws.Shifts
set_option linter.all false
namespace Tp
open Go
/-- a shift to the right -/
def shrI (k : IntKind) (a b : Int) : Int := a / 2 ^ min b.toNat k.bits
theorem shrI_nonneg {k : IntKind} {a b : Int} (h : 0 ≤ a) : 0 ≤ shrI k a b := Int.ediv_nonneg h (Int.pow_nonneg (by decide))
namespace Step
variable {P : Program} {ρ : Env} {w : World} {ty : TypeId}
theorem conv {s t : TypeId} {x : Operand} {j j' k : IntKind} {a c : Int} (hs : Und P s (.int j)) (ht : Und P t (.int k)) (hx : ρ.ev x = .int j' a) (hc : k.wrap a = c) : Step P (.convert s t x) ty ρ w (.int k c) w := by
  intro d pos aft g
  left
  have h1 : P.underlying s = some (.int j) := hs
  have h2 : P.underlying t = some (.int k) := ht
  simp [execOp, hx, convert, Conv.intToInt, underlying, h1, h2, hc]
theorem shr {t ty' : TypeId} {x y : Operand} {k j : IntKind} {a b : Int} (hx : ρ.ev x = .int k a) (hy : ρ.ev y = .int j b) (hb : 0 ≤ b) : Step P (.binOp .shr t x y ty') ty ρ w (.int k (shrI k a b)) w := by
  intro d pos aft g
  left
  simp [execOp, eqGuard, hx, hy, binOp, shift_shr_any _ _ _ _ hb, shrI]
end Step
end Tp
