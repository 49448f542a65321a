/- Parameters of a law's row, and facts. -/
import Derived.Test.YthihknbbibgchaaTrTrod
import Derived.Test.YthihknbbibgchaaTrClose
namespace Tp
open Go Go.ChangeShapes
variable {H : Type} {enc : TypeId × Value → H} {P : Program} {w : World} {base : Nat} {spare : Nat → Bool} {held : Bool}
theorem trodAll_four {t0 t1 t2 t3 : TypeId} {args : Array Value} {ds : List (DataW H)} {ps : List MemPlace} (h : DataW.TrodAll enc P w base spare held [t0, t1, t2, t3] args.toList ds ps) :
    ∃ v0 v1 v2 v3 d0 d1 d2 d3 p0 p1 p2 p3, args = #[v0, v1, v2, v3] ∧ ds = [d0, d1, d2, d3] ∧ ps = p0 ++ p1 ++ p2 ++ p3 ∧ DataW.Trod enc P w base spare held t0 v0 d0 p0 ∧ DataW.Trod enc P w base spare held t1 v1 d1 p1 ∧ DataW.Trod enc P w base spare held t2 v2 d2 p2 ∧ DataW.Trod enc P w base spare held t3 v3 d3 p3 := by
  obtain ⟨v0, vs0, d0, ds0, p0, q0, hargs, rfl, rfl, hd0, hr0⟩ := trodAll_cons h
  obtain ⟨v1, vs1, d1, ds1, p1, q1, rfl, rfl, rfl, hd1, hr1⟩ := trodAll_cons hr0
  obtain ⟨v2, vs2, d2, ds2, p2, q2, rfl, rfl, rfl, hd2, hr2⟩ := trodAll_cons hr1
  obtain ⟨v3, vs3, d3, ds3, p3, q3, rfl, rfl, rfl, hd3, hr3⟩ := trodAll_cons hr2
  obtain ⟨rfl, rfl, rfl⟩ := trodAll_nil hr3
  exact ⟨v0, v1, v2, v3, d0, d1, d2, d3, p0, p1, p2, p3, by cases args; simp_all, rfl, by simp, hd0, hd1, hd2, hd3⟩
theorem Facts.cons {G : Nat → Prop} {w : World} {r : World → Prop} {R : List (World → Prop)} (h : Sh G r w) (t : Facts G w R) : Facts G w (r :: R) := ⟨h, t⟩
section
open Go.WideShapes
variable {W : World} {b : Nat} {t e : TypeId} {v : Value} {d : DataW H} {p : List MemPlace}
theorem open_slice {α : Type} {T : Ty α} (hu : P.underlying t = some (.slice e)) (hc : P.cellsOf e = T.size) (hs : 0 < T.size) (hr : Reads P e T) (hv : Value.okWide P W .any b t v) (h : DataW.Trod enc P W 0 (fun _ => true) true t v d p) : ∃ xs : List α, RepS T v xs W := by
  obtain ⟨a, len, cap, rfl⟩ := okWide_slice hu hv
  obtain ⟨n, hn⟩ := h
  obtain ⟨v', xs, e, hx⟩ := reads_slice hu hc hs hr hn
  have : v' = .slice a len cap := by
    have e2 : [Value.slice a len cap] = [v'] := e
    cases e2; rfl
  subst this
  exact ⟨xs, hx⟩
/-- a type that holds of every value that is read -/
def Ty.wf {α : Type} (T : Ty α) (ok : α → Prop) : Ty α := ⟨T.size, fun cs x w => T.rep cs x w ∧ ok x, fun cs x w h => T.len cs x w h.1⟩
theorem RepS.wf {α : Type} {T : Ty α} {ok : α → Prop} {xs : List α} {w : World} {v : Value} (h : RepS (T.wf ok) v xs w) : RepS T v xs w ∧ ∀ x, x ∈ xs → ok x := by
  obtain ⟨cs, h1, h2, h3⟩ := h
  refine ⟨⟨cs, h1, h2, fun i x hx => (h3 i x hx).1⟩, fun x hx => ?_⟩
  obtain ⟨i, hi⟩ := List.getElem?_of_mem hx
  exact (h3 i x hi).2
theorem open_struct {α : Type} {T : Ty α} {fs : Array Field} (hs : P.underlying t = some (.struct fs)) (hr : Reads P t T) (hv : Value.okWide P W .any b t v) (h : DataW.Trod enc P W 0 (fun _ => true) true t v d p) :
    ∃ (cs : List Value) (x : α), v = .agg cs.toArray ∧ T.rep cs x W := by
  obtain ⟨n, hn⟩ := h
  obtain ⟨x, hx⟩ := hr _ _ _ _ _ _ hn
  obtain ⟨cs, rfl, _⟩ := okWide_struct hs hv
  exact ⟨cs.toList, x, rfl, hx⟩
end
end Tp
