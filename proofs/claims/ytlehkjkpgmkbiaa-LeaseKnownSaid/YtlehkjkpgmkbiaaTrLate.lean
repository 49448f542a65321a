/- Facts, of an equal list. -/
import Derived.Test.YtlehkjkpgmkbiaaTrDel
namespace Tp
open Go
theorem Sh.reList {α : Type} {F : Nat → Prop} {w : World} {size : Nat} {v : Value} {enc : α → List Value} {xs ys : List α} (e : ys = xs) (h : Sh F (SlAt size v xs.length (xs.flatMap enc)) w) : Sh F (SlAt size v ys.length (ys.flatMap enc)) w := e ▸ h
end Tp
namespace Tp
open Go
/-- the ways through a code are joined -/
theorem W.join {P : Program} {n : Nat} {Q : Exit → Env → World → Prop} {ρ : Env} {w : World} {c : Code} (J : Env → World → Prop) (h1 : W P n c (thn J fun _ _ _ => False) ρ w) (h2 : ∀ ρ w, J ρ w → Q .normal ρ w) : W P n c Q ρ w :=
  h1.mono fun e ρ w h => by
    cases e with
    | normal => exact h2 ρ w h
    | _ => exact h.elim
end Tp
