/- Arenas, as plain data. -/
import Derived.Test.YthihknbbibgchaaTrOwn
namespace Tp
open Go

structure Handle where
  at_ : Int
  turn : Int
deriving DecidableEq, Inhabited
structure Nd where
  leaf : Bool
  keys : List ByteArray
  kids : List Handle
  vals : List Int
deriving Inhabited
structure RPlace where
  used : Bool
  turn : Int
  node : Nd
deriving Inhabited

def intE (n : Int) : List Value := [.int .i64 n]
theorem intE_len (n : Int) : (intE n).length = 1 := rfl
def strE (s : ByteArray) : List Value := [.string s]
def handleE (h : Handle) : List Value := [.int .i64 h.at_, .int .i64 h.turn]
/-- the three slices of a node's cells -/
def NodeC (kv dv vv : Value) (n : Nd) (w : World) : Prop :=
  SlAt 1 kv n.keys.length (n.keys.flatMap strE) w ∧ SlAt 2 dv n.kids.length (n.kids.flatMap handleE) w ∧ SlAt 1 vv n.vals.length (n.vals.flatMap intE) w
def placeRep (cs : List Value) (p : RPlace) (w : World) : Prop :=
  ∃ kv dv vv, cs = [.bool p.used, .int .i64 p.turn, .bool p.node.leaf, kv, dv, vv] ∧ NodeC kv dv vv p.node w
def RPlaceT : Ty RPlace := ⟨6, placeRep, fun _ _ _ ⟨_, _, _, h, _⟩ => by rw [h]; rfl⟩

theorem intE_cel (n : Int) : Step.Cellish (intE n) := cel_cons rfl cel_nil
/-! ### Lists that are gone through -/
section
variable {α : Type}
variable [DecidableEq α]
/-- where x first stands -/
def findIx (xs : List α) (x : α) : Int := if x ∈ xs then (xs.idxOf x : Int) else -1
end
/-! ### The reference's arena -/
def rhas (l : List RPlace) (h : Handle) : Bool :=
  decide (h.at_ ≥ 0) && match l[h.at_.toNat]? with
    | some p => p.used && p.turn == h.turn
    | none => false
end Tp

namespace Tp
end Tp

namespace Tp
/-- are two nodes the same? -/
def nodeEq (a b : Nd) : Bool := a.leaf == b.leaf && (decide (a.keys = b.keys) && (decide (a.kids = b.kids) && decide (a.vals = b.vals)))
def firstH (l : List Handle) : Handle := l.headD ⟨0, 0⟩
end Tp

namespace Tp
open Go
/-- a node's three slices, as one's own -/
def nodeC (es eh ei : TypeId) (kv dv vv : Value) (n : Nd) : Chunk :=
  ⟨fun b => kv.ownBlock = some b ∨ dv.ownBlock = some b ∨ vv.ownBlock = some b,
   fun w => w.ownsRow 0 es 1 kv n.keys.length (n.keys.flatMap strE) ∧ w.ownsRow 0 eh 2 dv n.kids.length (n.kids.flatMap handleE) ∧ w.ownsRow 0 ei 1 vv n.vals.length (n.vals.flatMap intE) ∧
     (∀ b, kv.ownBlock = some b → dv.ownBlock ≠ some b ∧ vv.ownBlock ≠ some b) ∧ ∀ b, dv.ownBlock = some b → vv.ownBlock ≠ some b⟩
section
variable {es eh ei : TypeId} {kv dv vv : Value} {n : Nd} {w w0 : World} {F X : Nat → Prop} {L : List Chunk} {R : List (World → Prop)}
end
end Tp
