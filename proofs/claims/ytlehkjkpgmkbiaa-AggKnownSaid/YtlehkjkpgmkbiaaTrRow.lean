/- Parameters of a law's row, and facts. -/
import Derived.Test.YtlehkjkpgmkbiaaTrTrod
import Derived.Test.YtlehkjkpgmkbiaaTrClose
namespace Tp
open Go Go.ChangeShapes
variable {H : Type} {enc : TypeId × Value → H} {P : Program} {w : World} {base : Nat} {spare : Nat → Bool} {held : Bool}
theorem Facts.cons {G : Nat → Prop} {w : World} {r : World → Prop} {R : List (World → Prop)} (h : Sh G r w) (t : Facts G w R) : Facts G w (r :: R) := ⟨h, t⟩
section
open Go.WideShapes
variable {W : World} {b : Nat} {t e : TypeId} {v : Value} {d : DataW H} {p : List MemPlace}
theorem open_slice {α : Type} {T : Ty α} (hu : P.underlying t = some (.slice e)) (hc : P.cellsOf e = T.size) (hs : 0 < T.size) (hr : Reads P e T) (hv : Value.okWide P W .any b t v) (h : DataW.Trod enc P W 0 (fun _ => true) true t v d p) : ∃ xs : List α, RepS T v xs W := by
  obtain ⟨a, len, cap, rfl⟩ := okWide_slice hu hv
  obtain ⟨n, hn⟩ := h
  obtain ⟨v', xs, e, hx⟩ := reads_slice hu hc hs hr hn
  have : v' = .slice a len cap := by
    have e2 : [Value.slice a len cap] = [v'] := e
    cases e2; rfl
  subst this
  exact ⟨xs, hx⟩
/-- a type that holds of every value that is read -/
def Ty.wf {α : Type} (T : Ty α) (ok : α → Prop) : Ty α := ⟨T.size, fun cs x w => T.rep cs x w ∧ ok x, fun cs x w h => T.len cs x w h.1⟩
theorem RepS.wf {α : Type} {T : Ty α} {ok : α → Prop} {xs : List α} {w : World} {v : Value} (h : RepS (T.wf ok) v xs w) : RepS T v xs w ∧ ∀ x, x ∈ xs → ok x := by
  obtain ⟨cs, h1, h2, h3⟩ := h
  refine ⟨⟨cs, h1, h2, fun i x hx => (h3 i x hx).1⟩, fun x hx => ?_⟩
  obtain ⟨i, hi⟩ := List.getElem?_of_mem hx
  exact (h3 i x hi).2
end
end Tp
