/- Aggregates, and versions, as plain data. -/
import Derived.Test.YthihknbbibgchaaTrRange
import Derived.Test.YthihknbbibgchaaTrArenaM
namespace Tp
open Go
structure Agg5 where
  count : Int
  sum : Int
  min : Int
  max : Int
deriving DecidableEq, Inhabited
structure Ver where
  epoch : Int
  dead : Bool
  agg : Agg5
deriving DecidableEq, Inhabited
def aggE (a : Agg5) : List Value := [.int .i64 a.count, .int .i64 a.sum, .int .i64 a.min, .int .i64 a.max]
def verE (v : Ver) : List Value := [.int .u64 v.epoch, .bool v.dead, .int .i64 v.agg.count, .int .i64 v.agg.sum, .int .i64 v.agg.min, .int .i64 v.agg.max]
def verV (v : Ver) : Value := .agg #[.int .u64 v.epoch, .bool v.dead, .int .i64 v.agg.count, .int .i64 v.agg.sum, .int .i64 v.agg.min, .int .i64 v.agg.max]
def u64E (n : Int) : List Value := [.int .u64 n]
def aggZ : Agg5 := ⟨0, 0, 0, 0⟩
def verZ : Ver := ⟨0, false, aggZ⟩
def aggRight (a : Agg5) : Bool := decide (a = aggZ) || (decide (a.count > 0) && (decide (a.min ≤ a.max) && (decide (a.count > 1) || decide (a = ⟨1, a.sum, a.sum, a.sum⟩))))
/-! ### Chains -/
def rightV (v : Ver) : Bool := decide (v.epoch > 0) && (aggRight v.agg && (decide (v.agg = aggZ) == v.dead))
def chainP (l : List Ver) : Prop := (∀ v, v ∈ l → rightV v = true) ∧ l.Pairwise fun a b => a.epoch < b.epoch
instance (l : List Ver) : Decidable (chainP l) := inferInstanceAs (Decidable (_ ∧ _))
def chainB (l : List Ver) : Bool := decide (chainP l)
section
variable {l : List Ver} {v u : Ver} {i : Nat} {e f : Int}
/-- what is told at an epoch -/
def atV (l : List Ver) (e : Int) : Agg5 := l.foldl (fun a v => if v.epoch ≤ e then v.agg else a) aggZ
def firstV (p : Ver → Bool) (l : List Ver) : Ver × Bool := match l.find? p with
  | some v => (v, true)
  | none => (verZ, false)
def nextV (l : List Ver) (e : Int) : Ver × Bool := firstV (fun v => decide (v.epoch > e)) l
/-- garbage, by the program -/
def garbV (l : List Ver) (v : Ver) (f : Int) : Bool :=
  ((nextV l v.epoch).2 && decide ((nextV l v.epoch).1.epoch ≤ f)) || (v.dead && (decide (v.epoch ≤ f) && (match l[0]? with | some u => u.epoch == v.epoch | none => false)))
def garb (l : List Ver) (e f : Int) : Bool := (firstV (fun v => v.epoch == e) l).2 && garbV l (firstV (fun v => v.epoch == e) l).1 f
def dropV (l : List Ver) (e f : Int) : List Ver × Bool := if garb l e f then (l.filter fun v => !(v.epoch == e), true) else (l, false)
def trimG : Nat → List Ver → Int → List Ver × Nat
  | 0, l, _ => (l, 0)
  | n + 1, l, f => match l.findIdx? (fun v => garbV l v f) with
    | some i => ((trimG n (l.eraseIdx i) f).1, (trimG n (l.eraseIdx i) f).2 + 1)
    | none => (l, 0)
def trimV (l : List Ver) (f : Int) : List Ver × Nat := trimG l.length l f
def addV (l : List Ver) (v : Ver) : List Ver × Int := if rightV v then (if chainB (l ++ [v]) then (l ++ [v], 0) else (l, 150)) else (l, 2)
/-! ### By the reference -/
def refAt (l : List Ver) (e : Int) : Agg5 × Bool := match l.reverse.find? (fun v => decide (v.epoch ≤ e)) with
  | some v => (v.agg, !v.dead)
  | none => (aggZ, false)
def refGarb (l : List Ver) (e f : Int) : Bool := match l.findIdx? (fun v => v.epoch == e) with
  | some i => (match l[i + 1]? with | some u => decide (u.epoch ≤ f) | none => false) || (decide (i = 0) && ((match l[i]? with | some v => v.dead | none => false) && decide (e ≤ f)))
  | none => false
def refDrop (l : List Ver) (e f : Int) : List Ver × Bool := if refGarb l e f then (l.filter fun v => !(v.epoch == e), true) else (l, false)
def refDiffers (l : List Ver) (a b : Int) : Bool := ((refAt l a).2 != (refAt l b).2) || ((refAt l a).2 && !decide ((refAt l a).1 = (refAt l b).1))
def refAdd (l : List Ver) (v : Ver) : List Ver × Int := if rightV v then (if l.any (fun u => decide (u.epoch ≥ v.epoch)) then (l, 150) else (l ++ [v], 0)) else (l, 2)
end
end Tp
namespace Tp
open Go
section
variable {l : List Ver} {v u : Ver} {i : Nat} {e f : Int}
end
end Tp
