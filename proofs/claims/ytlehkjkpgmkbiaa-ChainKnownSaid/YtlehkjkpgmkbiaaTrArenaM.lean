/- Arenas, as plain data. -/
import Derived.Test.YtlehkjkpgmkbiaaTrOwn
namespace Tp
open Go

structure Handle where
  at_ : Int
  turn : Int
deriving DecidableEq, Inhabited
structure Nd where
  leaf : Bool
  keys : List ByteArray
  kids : List Handle
  vals : List Int
deriving Inhabited
structure RPlace where
  used : Bool
  turn : Int
  node : Nd
deriving Inhabited

def intE (n : Int) : List Value := [.int .i64 n]
theorem intE_len (n : Int) : (intE n).length = 1 := rfl
def strE (s : ByteArray) : List Value := [.string s]
theorem strE_len (s : ByteArray) : (strE s).length = 1 := rfl
def handleE (h : Handle) : List Value := [.int .i64 h.at_, .int .i64 h.turn]
theorem handleE_len (h : Handle) : (handleE h).length = 2 := rfl

/-- the three slices of a node's cells -/
def NodeC (kv dv vv : Value) (n : Nd) (w : World) : Prop :=
  SlAt 1 kv n.keys.length (n.keys.flatMap strE) w ∧ SlAt 2 dv n.kids.length (n.kids.flatMap handleE) w ∧ SlAt 1 vv n.vals.length (n.vals.flatMap intE) w
def placeRep (cs : List Value) (p : RPlace) (w : World) : Prop :=
  ∃ kv dv vv, cs = [.bool p.used, .int .i64 p.turn, .bool p.node.leaf, kv, dv, vv] ∧ NodeC kv dv vv p.node w
def RPlaceT : Ty RPlace := ⟨6, placeRep, fun _ _ _ ⟨_, _, _, h, _⟩ => by rw [h]; rfl⟩

theorem rplace_open {F X : Nat → Prop} {w0 w : World} {L : List Chunk} {R : List (World → Prop)} {v : Value} {n : Nat} {cs : List Value} {xs : List RPlace} {i : Nat} {p : RPlace} (M : Mem F X w0 L R w) (j k : Nat)
    (hj : R[j]? = some (SlAt 6 v n cs)) (hk : R[k]? = some (RepL RPlaceT cs xs)) (hn : n = xs.length) (hx : xs[i]? = some p) :
    ∃ kv dv vv, Mem F X w0 L (EC v 6 i [.bool p.used, .int .i64 p.turn, .bool p.node.leaf, kv, dv, vv] :: SlAt 1 kv p.node.keys.length (p.node.keys.flatMap strE) :: SlAt 2 dv p.node.kids.length (p.node.kids.flatMap handleE) ::
      SlAt 1 vv p.node.vals.length (p.node.vals.flatMap intE) :: R) w := by
  obtain ⟨kv, dv, vv, hcs, _⟩ := (M.rep k hk).2 i p hx
  have get : ∀ w, RepL RPlaceT cs xs w → NodeC kv dv vv p.node w := fun w h => by
    obtain ⟨kv', dv', vv', hcs', h'⟩ := h.2 i p hx
    rw [hcs] at hcs'
    simp only [List.cons.injEq, true_and, and_true] at hcs'
    obtain ⟨rfl, rfl, rfl⟩ := hcs'
    exact h'
  refine ⟨kv, dv, vv, ?_⟩
  have M1 := M.add ((M.shr k hk).imp fun w h => (get w h).2.2)
  have M2 := M1.add ((M.shr k hk).imp fun w h => (get w h).2.1)
  have M3 := M2.add ((M.shr k hk).imp fun w h => (get w h).1)
  refine M3.add (((M.shr j hj).and (M.shr k hk)).imp fun w ⟨h1, h2⟩ => ?_)
  subst hn
  obtain ⟨cs', h3, h4⟩ := RepS.elem (T := RPlaceT) ⟨cs, h1, h2⟩ hx
  obtain ⟨hb, hc⟩ := h4
  refine ⟨hb, fun m hm => ?_⟩
  have hi : i < xs.length := (List.getElem?_eq_some_iff.1 hx).1
  rw [Nat.add_assoc, h1.cell _ (mul_add_lt hi hm)]
  have : ((cs.drop (i * 6)).take 6)[m]? = [Value.bool p.used, .int .i64 p.turn, .bool p.node.leaf, kv, dv, vv][m]? := by rw [← hcs]; rfl
  rw [List.getElem?_take, if_pos hm, List.getElem?_drop] at this
  exact this

theorem intE_cel (n : Int) : Step.Cellish (intE n) := cel_cons rfl cel_nil
theorem strE_cel (n : ByteArray) : Step.Cellish (strE n) := cel_cons rfl cel_nil
theorem handleE_cel (h : Handle) : Step.Cellish (handleE h) := cel_cons rfl (cel_cons rfl cel_nil)

/-! ### Lists that are gone through -/
section
variable {α : Type}
theorem list_eq_of {xs ys : List α} (hl : xs.length = ys.length) {i : Nat} (h : ∀ j, j < i → xs[j]? = ys[j]?) (hi : xs.length ≤ i) : xs = ys := by
  apply List.ext_getElem?
  intro j
  rcases Nat.lt_or_ge j i with hj | hj
  · exact h j hj
  · rw [List.getElem?_eq_none (by omega), List.getElem?_eq_none (by omega)]
theorem list_ne_of {xs ys : List α} {i : Nat} {x y : α} (hx : xs[i]? = some x) (hy : ys[i]? = some y) (h : x ≠ y) : xs ≠ ys := fun e => by
  rw [e, hy] at hx
  exact h (Option.some.inj hx).symm
theorem list_step {xs ys : List α} {i : Nat} {x y : α} (hx : xs[i]? = some x) (hy : ys[i]? = some y) (h : x = y) (hi : ∀ j, j < i → xs[j]? = ys[j]?) : ∀ j, j < i + 1 → xs[j]? = ys[j]? := fun j hj => by
  rcases Nat.lt_or_ge j i with h' | h'
  · exact hi j h'
  · have : j = i := by omega
    rw [this, hx, hy, h]
theorem findIx_step {xs : List α} {i : Nat} {x y : α} (hy : xs[i]? = some y) (h : y ≠ x) (hi : ∀ j, j < i → xs[j]? ≠ some x) : ∀ j, j < i + 1 → xs[j]? ≠ some x := fun j hj => by
  rcases Nat.lt_or_ge j i with h' | h'
  · exact hi j h'
  · have : j = i := by omega
    rw [this, hy]
    exact fun e => h (Option.some.inj e)
variable [DecidableEq α]
/-- where x first stands -/
def findIx (xs : List α) (x : α) : Int := if x ∈ xs then (xs.idxOf x : Int) else -1
theorem findIx_hit {xs : List α} {i : Nat} {x y : α} (hy : xs[i]? = some y) (h : y = x) (hi : ∀ j, j < i → xs[j]? ≠ some x) : (i : Int) = findIx xs x := by
  subst h
  have hm : y ∈ xs := List.mem_of_getElem? hy
  unfold findIx
  rw [if_pos hm]
  have h1 : xs.idxOf y ≤ i := by
    apply Nat.le_of_not_lt
    intro hlt
    obtain ⟨h2, h3⟩ := List.getElem?_eq_some_iff.1 hy
    have := List.not_of_lt_findIdx (p := (· == y)) (xs := xs) (i := i) hlt
    simp [h3] at this
  have h2 : ¬ xs.idxOf y < i := fun hlt => hi _ hlt (by
    have hl := List.idxOf_lt_length_iff.2 hm
    rw [List.getElem?_eq_getElem hl, List.getElem_idxOf hl])
  omega
theorem findIx_none {xs : List α} {i : Nat} {x : α} (hi : ∀ j, j < i → xs[j]? ≠ some x) (h : xs.length ≤ i) : (-1 : Int) = findIx xs x := by
  unfold findIx
  rw [if_neg]
  intro hm
  obtain ⟨j, hj⟩ := List.getElem?_of_mem hm
  exact hi j (by have := (List.getElem?_eq_some_iff.1 hj).1; omega) hj
theorem findIx_mem (xs : List α) (x : α) : decide (findIx xs x ≥ 0) = decide (x ∈ xs) := by
  unfold findIx
  split
  · rename_i h; simp [h]
  · rename_i h; simp [h]
end
theorem handle_ext {a b : Handle} (h1 : a.at_ = b.at_) (h2 : a.turn = b.turn) : a = b := by cases a; cases b; simp_all

/-! ### The reference's arena -/
def rhas (l : List RPlace) (h : Handle) : Bool :=
  decide (h.at_ ≥ 0) && match l[h.at_.toNat]? with
    | some p => p.used && p.turn == h.turn
    | none => false
end Tp

namespace Tp
theorem toList_inj {x y : ByteArray} (h : x.toList = y.toList) : x = y := by
  rw [Go.ByteArray.toList_eq, Go.ByteArray.toList_eq] at h
  obtain ⟨⟨x⟩⟩ := x
  obtain ⟨⟨y⟩⟩ := y
  simp_all
theorem str_eq {x y : ByteArray} (h : (!(x.toList == y.toList)) = false) : x = y := by
  simp only [Bool.not_eq_false', beq_iff_eq] at h
  exact toList_inj h
theorem str_ne {x y : ByteArray} (h : (!(x.toList == y.toList)) = true) : x ≠ y := by
  rintro rfl; simp at h
theorem handle_eq {x y : Handle} (h : (!(((x.at_ : Int) == (y.at_ : Int)) && (((x.turn : Int) == (y.turn : Int)) && true))) = false) : x = y := by
  simp at h; exact handle_ext h.1 h.2
theorem handle_ne {x y : Handle} (h : (!(((x.at_ : Int) == (y.at_ : Int)) && (((x.turn : Int) == (y.turn : Int)) && true))) = true) : x ≠ y := by
  rintro rfl; simp at h
end Tp

namespace Tp
theorem handle_eq2 {x y : Handle} (h : (((x.at_ : Int) == (y.at_ : Int)) && (((x.turn : Int) == (y.turn : Int)) && true)) = true) : x = y := by
  simp at h; exact handle_ext h.1 h.2
theorem handle_ne2 {x y : Handle} (h : (((x.at_ : Int) == (y.at_ : Int)) && (((x.turn : Int) == (y.turn : Int)) && true)) = false) : x ≠ y := by
  rintro rfl; simp at h
/-- are two nodes the same? -/
def nodeEq (a b : Nd) : Bool := a.leaf == b.leaf && (decide (a.keys = b.keys) && (decide (a.kids = b.kids) && decide (a.vals = b.vals)))
def firstH (l : List Handle) : Handle := l.headD ⟨0, 0⟩
theorem firstH_nil {l : List Handle} (h : l.length = 0) : firstH l = ⟨0, 0⟩ := by rw [List.eq_nil_of_length_eq_zero h]; rfl
theorem firstH_cons {l : List Handle} {x : Handle} (h : l[0]? = some x) : firstH l = x := by cases l <;> simp_all [firstH]
end Tp

namespace Tp
open Go
/-- a node's three slices, as one's own -/
def nodeC (es eh ei : TypeId) (kv dv vv : Value) (n : Nd) : Chunk :=
  ⟨fun b => kv.ownBlock = some b ∨ dv.ownBlock = some b ∨ vv.ownBlock = some b,
   fun w => w.ownsRow 0 es 1 kv n.keys.length (n.keys.flatMap strE) ∧ w.ownsRow 0 eh 2 dv n.kids.length (n.kids.flatMap handleE) ∧ w.ownsRow 0 ei 1 vv n.vals.length (n.vals.flatMap intE) ∧
     (∀ b, kv.ownBlock = some b → dv.ownBlock ≠ some b ∧ vv.ownBlock ≠ some b) ∧ ∀ b, dv.ownBlock = some b → vv.ownBlock ≠ some b⟩
section
variable {es eh ei : TypeId} {kv dv vv : Value} {n : Nd} {w w0 : World} {F X : Nat → Prop} {L : List Chunk} {R : List (World → Prop)}
theorem nodeC_mk (M : Mem F X w0 L R w) (i j k : Nat) (hi : L[i]? = some (own es 1 kv n.keys.length (n.keys.flatMap strE))) (hj : L[j]? = some (own eh 2 dv n.kids.length (n.kids.flatMap handleE)))
    (hk : L[k]? = some (own ei 1 vv n.vals.length (n.vals.flatMap intE))) (hij : i ≠ j) (hik : i ≠ k) (hjk : j ≠ k) : (nodeC es eh ei kv dv vv n).Ok w := by
  have h1 := M.chunk i hi
  have h2 := M.chunk j hj
  have h3 := M.chunk k hk
  refine ⟨fun b hb => ?_, fun w' hw => ⟨h1.loc w' fun b hb => hw b (.inl hb), h2.loc w' fun b hb => hw b (.inr (.inl hb)), h3.loc w' fun b hb => hw b (.inr (.inr hb)),
    fun b hb => ⟨M.disj_ne hi hj hij b hb, M.disj_ne hi hk hik b hb⟩, fun b hb => M.disj_ne hj hk hjk b hb⟩⟩
  rcases hb with hb | hb | hb
  · exact h1.lt b hb
  · exact h2.lt b hb
  · exact h3.lt b hb
theorem nodeC_new (M : Mem F (fun _ => False) w0 L R w) (i j k : Nat) (hi : L[i]? = some (own es 1 kv n.keys.length (n.keys.flatMap strE))) (hj : L[j]? = some (own eh 2 dv n.kids.length (n.kids.flatMap handleE)))
    (hk : L[k]? = some (own ei 1 vv n.vals.length (n.vals.flatMap intE))) : ∀ b, (nodeC es eh ei kv dv vv n).foot b → w0.heap.size ≤ b := by
  intro b hb
  rcases hb with hb | hb | hb
  · exact (M.in_ _ (List.mem_of_getElem? hi) b hb).resolve_left id
  · exact (M.in_ _ (List.mem_of_getElem? hj) b hb).resolve_left id
  · exact (M.in_ _ (List.mem_of_getElem? hk) b hb).resolve_left id
/-- the node's chunk, taken apart -/
theorem nodeC_split (h : (nodeC es eh ei kv dv vv n).Ok w) : Mem F (nodeC es eh ei kv dv vv n).foot w
    [own es 1 kv n.keys.length (n.keys.flatMap strE), own eh 2 dv n.kids.length (n.kids.flatMap handleE), own ei 1 vv n.vals.length (n.vals.flatMap intE)] [] w := by
  obtain ⟨h1, h2, h3, h4, h5⟩ := h.inv
  refine ⟨Mod.refl _ _, ?_, ?_, ?_, fun r hr => (by cases hr)⟩
  · intro c hc
    simp only [List.mem_cons, List.not_mem_nil, or_false] at hc
    rcases hc with rfl | rfl | rfl
    · exact own_ok h1
    · exact own_ok h2
    · exact own_ok h3
  · simp only [List.pairwise_cons, List.mem_cons, List.not_mem_nil, or_false, forall_eq_or_imp, forall_eq, List.Pairwise.nil, and_true, false_implies, implies_true]
    exact ⟨⟨fun b hb => (h4 b hb).1, fun b hb => (h4 b hb).2⟩, h5⟩
  · intro c hc b hb
    simp only [List.mem_cons, List.not_mem_nil, or_false] at hc
    rcases hc with rfl | rfl | rfl
    · exact .inl (.inl hb)
    · exact .inl (.inr (.inl hb))
    · exact .inl (.inr (.inr hb))
end
end Tp
