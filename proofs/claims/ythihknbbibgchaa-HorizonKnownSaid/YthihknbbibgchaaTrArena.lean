/- The arena of nodes. -/
import Derived.Test.YthihknbbibgchaaTrArenaM
import Derived.Test.YthihknbbibgchaaTrElem
namespace Tp
open Go

def place5 (cs : List Value) (p : RPlace) (w : World) : Prop :=
  ∃ kv dv vv, cs = [.bool p.node.leaf, kv, dv, vv, .int .i64 p.turn] ∧ NodeC kv dv vv p.node w
def PlaceT : Ty RPlace := ⟨5, place5, fun _ _ _ ⟨_, _, _, h, _⟩ => by rw [h]; rfl⟩
def nodesC (S : Nat → Prop) (cs : List Value) (l : List RPlace) : Chunk := ⟨S, fun w => RepL PlaceT cs l w⟩
def setC (b : Nat) (ks : List Int) : Chunk := mapC .i64 b (ks.map fun k => (k, .agg #[]))
/-- the free numbers are those of the places that are not used -/
def FreeOk (ks : List Int) (l : List RPlace) : Prop := ks.Nodup ∧ ∀ k, k ∈ ks ↔ ∃ i : Nat, k = (i : Int) ∧ ∃ p, l[i]? = some p ∧ p.used = false
structure ArI where
  pv : Value
  fb : Nat
  cs : List Value
  ks : List Int
  N : Nat → Prop
/-- an arena's chunks: the struct (type t), the places (elements of type e), the free numbers, the nodes -/
abbrev arenaL (t e : TypeId) (ab : Nat) (l : List RPlace) (i : ArI) : List Chunk :=
  [blk ab (.cells #[i.pv, .map (some i.fb)] t), own e 5 i.pv l.length i.cs, setC i.fb i.ks, nodesC i.N i.cs l]
def arenaC (t e : TypeId) (S : Nat → Prop) (ab : Nat) (l : List RPlace) : Chunk := Pack S (arenaL t e ab l) fun i => FreeOk i.ks l

/-- is the number free? -/
def isFree (l : List RPlace) (a : Int) : Bool := decide (a ≥ 0) && match l[a.toNat]? with
  | some p => !p.used
  | none => false

def sadd (a : Int) (ks : List Int) : List Int := if a ∈ ks then ks else ks ++ [a]
section
variable {P : Program} {ρ : Env} {F X : Nat → Prop} {w w0 : World} {L : List Chunk} {R : List (World → Prop)} {ty t kt et ts : TypeId} {b : Nat} {ks : List Int} {x ix y : Operand} {a : Int} {l : List RPlace}
end

/-- the number of places that are used -/
def usedN (l : List RPlace) : Nat := l.countP (·.used)
end Tp
namespace Tp
open Go
section
variable {cs pre post cells : List Value} {l : List RPlace} {i : Nat} {p p' : RPlace} {w : World} {kv dv vv : Value}
end
section
variable {F X : Nat → Prop} {w w0 : World} {L : List Chunk} {R : List (World → Prop)} {N : Nat → Prop} {cs pre post cells : List Value} {l : List RPlace} {i : Nat} {p : RPlace} {n : Nd} {kv dv vv : Value} {es eh ei : TypeId} {u : Bool} {t : Int}
end
end Tp
