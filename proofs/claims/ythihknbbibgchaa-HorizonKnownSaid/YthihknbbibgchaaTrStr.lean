/- Strings in order. -/
import Derived.Test.YthihknbbibgchaaTrArenaM
set_option linter.all false
namespace Tp
open Go
/-- one string is less than another -/
def sLt (a b : ByteArray) : Bool := Op.bytesLess a.toList b.toList
/-- -1, 0 or 1 -/
def cmpI (a b : Int) : Int := if a < b then -1 else if a > b then 1 else 0
/-- -1, 0 or 1 -/
def cmpS (a b : ByteArray) : Int := if sLt a b then -1 else if a = b then 0 else 1
end Tp
