/- An element of a slice of one's own, laid open. -/
import Derived.Test.YthihknbbibgchaaTrMap
namespace Tp
open Go

section
variable {size i n : Nat} {pre post cells new : List Value} {v : Value} {w : World}
theorem splice_open (hp : pre.length = i * size) {k : Nat} (hk : k + new.length ≤ cells.length) :
    splice (pre ++ (cells ++ post)) (i * size + k) new = pre ++ (splice cells k new ++ post) := by
  simp only [splice]
  rw [← hp, List.take_length_add_append, List.take_append_of_le_length (by omega)]
  have : (pre ++ (cells ++ post)).drop (pre.length + k + new.length) = cells.drop (k + new.length) ++ post := by
    rw [Nat.add_assoc, ← List.drop_drop, List.drop_left, List.drop_append_of_le_length (by omega)]
  rw [this]
  simp [List.append_assoc]
end
theorem flat_open {α : Type} {enc : α → List Value} {size : Nat} (he : ∀ x, (enc x).length = size) {xs : List α} {i : Nat} {x : α} (hx : xs[i]? = some x) :
    ∃ pre post, xs.flatMap enc = pre ++ (enc x ++ post) ∧ pre.length = i * size ∧ ∀ x', pre ++ (enc x' ++ post) = (xs.set i x').flatMap enc := by
  obtain ⟨hi, hxe⟩ := List.getElem?_eq_some_iff.1 hx
  have e : xs = xs.take i ++ x :: xs.drop (i + 1) := by
    rw [← hxe, ← List.drop_eq_getElem_cons hi, List.take_append_drop]
  refine ⟨(xs.take i).flatMap enc, (xs.drop (i + 1)).flatMap enc, ?_, ?_, fun x' => ?_⟩
  · conv => lhs; rw [e]
    simp
  · rw [length_flatMap he, List.length_take, Nat.min_eq_left (by omega)]
  · rw [List.set_eq_take_append_cons_drop, if_pos hi]
    simp

namespace Mem
variable {F X : Nat → Prop} {w0 w w' : World} {L : List Chunk} {R : List (World → Prop)} {P : Program} {ρ : Env}
/-- a store into a slice of one's own -/
theorem storeRow {t e ty : TypeId} {x y : Operand} {size j k m : Nat} {v u : Value} {cs new : List Value} (M : Mem F X w0 L R w) (i : Nat) (hi : L[i]? = some (Tp.own e size v m cs))
    (ht : Sized P t new.length) (ha : ρ.ev x = .pointer (some ⟨sBlk v, sOff v + j * size + k, none⟩)) (hv : ρ.ev y = u) (hnew : u.cells.toList = new) (hl : Step.Cellish new) (hj : j < m) (hk : k + new.length ≤ size) :
    ∃ w', Step P (.store t x y) ty ρ w undef w' ∧ Mem F X w0 (L.set i (Tp.own e size v m (splice cs (j * size + k) new))) R w' ∧ Mod (Tp.own e size v m cs).foot w w' := by
  subst hnew
  have hbound : j * size + k + u.cells.toList.length ≤ m * size := by
    have : (j + 1) * size ≤ m * size := Nat.mul_le_mul_right _ hj
    rw [Nat.add_mul, Nat.one_mul] at this
    omega
  obtain ⟨cur, h1, h2, h3, h4, h5⟩ := own_store (new := u.cells.toList) (o := j * size + k) (M.chunk i hi).inv hbound (by omega)
  have ha' : ρ.ev x = .pointer (some ⟨sBlk v, j * size + k, none⟩) := by rw [ha, h2]; simp
  have hm : Mod (Tp.own e size v m cs).foot w (World.blkSet w (sBlk v) (.cells (Step.put cur (j * size + k) u.cells.toList) e)) := (blkSet_mod w (sBlk v) _).mono fun b _ hb => by
    show v.ownBlock = some b
    rw [h4, show b = sBlk v from hb]
  exact ⟨_, Step.store ht ha' hv (by simp) h1 (by simpa using h3) hl rfl, M.turn i hi hm (own_ok h5) fun b hb => .inl hb, hm⟩
/-- the same, the element laid open -/
theorem storeAt {t e ty : TypeId} {x y : Operand} {size j k m : Nat} {v u : Value} {pre post cells cells' new : List Value} (M : Mem F X w0 L R w) (i : Nat) (hi : L[i]? = some (Tp.own e size v m (pre ++ (cells ++ post))))
    (hp : pre.length = j * size) (ht : Sized P t new.length) (ha : ρ.ev x = .pointer (some ⟨sBlk v, sOff v + j * size + k, none⟩)) (hv : ρ.ev y = u) (hnew : u.cells.toList = new) (hl : Step.Cellish new) (hj : j < m) (hk : k + new.length ≤ size)
    (hc : cells.length = size) (hs : splice cells k new = cells') :
    ∃ w', Step P (.store t x y) ty ρ w undef w' ∧ Mem F X w0 (L.set i (Tp.own e size v m (pre ++ (cells' ++ post)))) R w' ∧ Mod (Tp.own e size v m (pre ++ (cells ++ post))).foot w w' := by
  have := M.storeRow (ty := ty) i hi ht ha hv hnew hl hj hk
  rwa [splice_open hp (by omega), hs] at this
theorem rechunk (M : Mem F X w0 L R w) (i : Nat) {c c' : Chunk} (hi : L[i]? = some c) (h : c = c') : Mem F X w0 (L.set i c') R w := by
  subst h
  have : L.set i c = L := by
    apply List.ext_getElem?
    intro j
    rw [List.getElem?_set]
    split
    · rename_i e; subst e; split
      · exact hi.symm
      · rename_i h; rw [List.getElem?_eq_none (by omega)]
    · rfl
  rwa [this]
end Mem
end Tp
namespace Tp
open Go
end Tp
namespace Tp
open Go
/-- the first so many of a slice -/
def vTake (i : Nat) : Value → Value
  | .slice a _ cap => .slice a i cap
  | v => v
theorem slat_take {α : Type} {enc : α → List Value} {size : Nat} (he : ∀ x, (enc x).length = size) {v : Value} {xs : List α} {i : Nat} {w : World} (h : SlAt size v xs.length (xs.flatMap enc) w) (hi : i ≤ xs.length) :
    SlAt size (vTake i v) (xs.take i).length ((xs.take i).flatMap enc) w := by
  have hl : (xs.take i).length = i := by simp; omega
  rw [hl]
  rcases h with ⟨⟨a, rfl⟩, hn, hc⟩ | ⟨b, o, cap, c, e, fz, rfl, h1, h2, h3, h4, h5, h6⟩
  · have : i = 0 := by omega
    subst this
    exact .inl ⟨⟨a, rfl⟩, rfl, by simp⟩
  · refine .inr ⟨b, o, cap, c, e, fz, rfl, by omega, h2, h3, h4, by rw [length_flatMap he, hl], fun j hj => ?_⟩
    have : j < xs.length * size := Nat.lt_of_lt_of_le hj (Nat.mul_le_mul_right _ hi)
    rw [h6 j this, ← take_flatMap he, List.getElem?_take, if_pos hj]
end Tp
