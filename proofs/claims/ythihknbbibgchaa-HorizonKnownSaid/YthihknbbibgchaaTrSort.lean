/- A whole element stored into a slice of one's own. -/
import Derived.Test.YthihknbbibgchaaTrOps4
set_option linter.all false
namespace Tp
open Go
theorem splice_whole {α : Type} {enc : α → List Value} {size : Nat} (he : ∀ x, (enc x).length = size) {xs : List α} {j : Nat} (hj : j < xs.length) (x' : α) :
    splice (xs.flatMap enc) (j * size + 0) (enc x') = (xs.set j x').flatMap enc := by
  refine splice_flat he (List.getElem?_eq_getElem hj) (by rw [he]; omega) ?_
  simp [splice, he]
namespace Mem
variable {F X : Nat → Prop} {w0 w w' : World} {L : List Chunk} {R : List (World → Prop)} {P : Program} {ρ : Env}
theorem storeF {α : Type} {enc : α → List Value} {t e ty : TypeId} {x y : Operand} {size j : Nat} {v u : Value} {xs : List α} (he : ∀ x, (enc x).length = size) (x' : α) (M : Mem F X w0 L R w) (i : Nat) (hi : L[i]? = some (Tp.own e size v xs.length (xs.flatMap enc)))
    (ht : Sized P t size) (ha : ρ.ev x = .pointer (some ⟨sBlk v, sOff v + j * size, none⟩)) (hv : ρ.ev y = u) (hnew : u.cells.toList = enc x') (hl : Step.Cellish (enc x')) (hj : j < xs.length) :
    ∃ w', Step P (.store t x y) ty ρ w undef w' ∧ Mem F X w0 (L.set i (Tp.own e size v (xs.set j x').length ((xs.set j x').flatMap enc))) R w' ∧ Mod (Tp.own e size v xs.length (xs.flatMap enc)).foot w w' := by
  have ht' : Sized P t (enc x').length := by rw [he]; exact ht
  have := M.storeRow (ty := ty) (k := 0) i hi ht' (by rw [ha]; rfl) hv hnew hl hj (by rw [he]; omega)
  rw [splice_whole he hj] at this
  rwa [List.length_set]
end Mem
end Tp
