/- Facts, of an equal list. -/
import Derived.Test.YthihknbbibgchaaTrDel
namespace Tp
open Go
theorem Sh.reList {α : Type} {F : Nat → Prop} {w : World} {size : Nat} {v : Value} {enc : α → List Value} {xs ys : List α} (e : ys = xs) (h : Sh F (SlAt size v xs.length (xs.flatMap enc)) w) : Sh F (SlAt size v ys.length (ys.flatMap enc)) w := e ▸ h
end Tp
namespace Tp
open Go
end Tp
