/- The arena's calls, as plain functions. -/
import Derived.Test.YthihknbbibgchaaTrArena
namespace Tp
open Go

def ndZero : Nd := ⟨false, [], [], []⟩
def hdZero : Handle := ⟨0, 0⟩
def leastF (l : List RPlace) : Nat := l.findIdx fun p => !p.used
def rmake (l : List RPlace) (n : Nd) : List RPlace × Handle :=
  match l[leastF l]? with
  | some p => (l.set (leastF l) ⟨true, p.turn + 1, n⟩, ⟨leastF l, p.turn + 1⟩)
  | none => (l ++ [⟨true, 1, n⟩], ⟨leastF l, 1⟩)
def rnode (l : List RPlace) (i : Nat) : Nd := match l[i]? with | some p => p.node | none => ndZero
def rget (l : List RPlace) (h : Handle) : Nd × Int := if rhas l h then (rnode l h.at_.toNat, 0) else (ndZero, 110)
def rput (l : List RPlace) (h : Handle) (n : Nd) : List RPlace × Int := if rhas l h then (l.set h.at_.toNat ⟨true, h.turn, n⟩, 0) else (l, 110)
def free1 (l : List RPlace) (h : Handle) : List RPlace := l.set h.at_.toNat ⟨false, h.turn, ndZero⟩
def freeAll (l : List RPlace) (hs : List Handle) : List RPlace := hs.foldl free1 l
def freeable (l : List RPlace) (hs : List Handle) : Bool := hs.all (rhas l) && decide hs.Nodup
def rfree (l : List RPlace) (hs : List Handle) : List RPlace × Int := if freeable l hs then (freeAll l hs, 0) else (l, 110)
def used1 (l : List RPlace) (i : Nat) : List Handle := match l[i]? with | some p => if p.used then [⟨i, p.turn⟩] else [] | none => []
def usedTo (l : List RPlace) (i : Nat) : List Handle := (List.range i).flatMap (used1 l)
def rused (l : List RPlace) : List Handle := usedTo l l.length
def pickI (i n : Int) : Int := if n ≤ 0 then 0 else (i.tmod n + n).tmod n

section
variable {l : List RPlace} {ks : List Int} {i : Nat} {p : RPlace} {h : Handle} {t : Int} {n : Nd}
/-- an arena whose sizes are small -/
def SmallNd (n : Nd) : Prop := n.keys.length ≤ 1000000 ∧ n.kids.length ≤ 1000000 ∧ n.vals.length ≤ 1000000
def SmallA (l : List RPlace) : Prop := l.length ≤ 1000000 ∧ ∀ (i : Nat) (p : RPlace), l[i]? = some p → 0 ≤ p.turn ∧ p.turn ≤ 1000000 ∧ SmallNd p.node
end
end Tp
namespace Tp
open Go
section
variable {l : List RPlace} {ks : List Int} {i : Nat} {p : RPlace} {h : Handle} {t : Int} {n : Nd} {hs : List Handle}
/-- the check of a list, so far -/
def freeOkTo (l : List RPlace) (hs : List Handle) (i : Nat) : Prop := ∀ j h, j < i → hs[j]? = some h → rhas l h = true ∧ h ∉ hs.take j
end
end Tp
namespace Tp
def smallAB (l : List RPlace) : Bool := decide (l.length ≤ 1000000) && l.all fun p => decide (0 ≤ p.turn) && decide (p.turn ≤ 1000000) && decide (p.node.keys.length ≤ 1000000) && decide (p.node.kids.length ≤ 1000000) && decide (p.node.vals.length ≤ 1000000)
end Tp
