/- A law that returns true and turns nothing: its row's post. -/
import Derived.Test.YthihknbbibgchaaTrTrod
import Derived.Test.YthihknbbibgchaaTrCall
import Derived.OpenShut
namespace Tp
open Go Go.ChangeShapes Go.RowKit
variable {H : Type} {enc : TypeId × Value → H} {P : Program}

theorem trodAll_stays (hl : laidOutB P = true) {W W' : World} {sp' : Nat → Bool} : ∀ {ts : List TypeId} {vs : List Value} {ds : List (DataW H)} {ps : List MemPlace}, (∀ t, t ∈ ts → P.readableRec t = true ∧ t < P.types.size) →
    DataW.TrodAll enc P W 0 (fun _ => true) true ts vs ds ps → (∀ p, p ∈ ps → W.sameAt W' p) → (∀ p, p ∈ ps → sp' p.block = true) → DataW.TrodAll enc P W' 0 sp' true ts vs ds ps
  | [], [], [], _, _, h, _, _ => h
  | t :: ts, v :: vs, d :: ds, ps, ht, ⟨p, q, h1, h2, e⟩, hs, hp => by
    subst e
    exact ⟨p, q, WideElems.Trod_stays hl (ht t (by simp)).1 (ht t (by simp)).2 h1 (fun x hx => hs x (by simp [hx])) (fun x hx => hp x (by simp [hx])),
      trodAll_stays hl (fun t ht' => ht t (by simp [ht'])) h2 (fun x hx => hs x (by simp [hx])) (fun x hx => hp x (by simp [hx])), rfl⟩

theorem post_old {f : Func} {s : ChangeSpec} {apart fresh handsOn again : Bool} {W W' : World} {args : Array Value} {ds gs : List (DataW H)} {before : List MemPlace} {tb : TypeId}
    (hl : laidOutB P = true) (ht : ∀ t, t ∈ f.params.toList → P.readableRec t = true ∧ t < P.types.size) (hb : P.underlying tb = some .bool) (hr : f.resultTypes = #[tb])
    (hsv : s.vars = []) (hsr : (s.fn H (ds ++ gs)).results = [.lit (.bool true)]) (hsa : (s.fn H (ds ++ gs)).args = ds) (hsg : (s.fn H (ds ++ gs)).vars = [])
    (hW : DataW.Whole enc P f.params.toList s.vars apart W args.toList ds gs before) (ho : Old W W') : s.post enc P f apart fresh handsOn again W args (.bool true) W' := by
  have hlt : ∀ p, p ∈ before → p.block < W.heap.size := fun p hp => by simpa using hW.lt p hp
  have hbel := ho.below
  have hW0 := hW
  obtain ⟨p, q, hA, hV, rfl, hz, hn⟩ := hW0
  rw [hsv] at hV
  obtain ⟨rfl, rfl⟩ := trodVars_none hV
  have again_ : ∀ sp : Nat → Bool, (∀ x, x ∈ p → sp x.block = true) → DataW.TrodAll enc P W' 0 sp true f.params.toList args.toList ds p := fun sp hsp =>
    trodAll_stays hl ht hA (fun x hx => hbel.same (hlt x (by simp [hx]))) hsp
  have res : ∀ (b : Nat) (sp : Nat → Bool) (hd : Bool), DataW.TrodAll enc P W' b sp hd f.resultTypes.toList ((Value.bool true).resultList f.resultTypes.size) [.lit (.bool true)] [] := fun b sp hd => by
    rw [hr]
    exact ⟨[], [], ⟨1, by simp [DataW.trod, Value.cells, hb]⟩, rfl, rfl⟩
  refine ⟨ds, [], p ++ [], [], p, [], hW, ?_, ?_, ?_, hbel.frame _, fun _ => ⟨?_, ?_⟩⟩
  · rw [hsr]; exact res _ _ _
  · rw [hsa]; exact again_ _ fun x hx => by simpa using hlt x (by simp [hx])
  · rw [hsv, hsg]; rfl
  · exact ok_one hr rfl (okWide_bool_mk hb true)
  · refine ⟨[.lit (.bool true)] ++ ds, [], (([] : List MemPlace) ++ p) ++ [], ⟨[] ++ p, [], trodAll_append (again_ _ fun _ _ => rfl) (res _ _ _), ?_, rfl, ?_, ?_⟩, ?_⟩
    · rw [hsv]; rfl
    · intro b off hp
      have hp' : MemPlace.cell b off ∈ p := by simpa using hp
      rw [hbel.frozen (p := ⟨b, off, none⟩) (show b < W.heap.size from hlt (.cell b off) (by simpa using hp'))]
      exact hz b off (by simpa using hp')
    · intro ha; simpa using hn ha
    · intro x hx _; simpa using hx

/-- the memory of a law's call: nothing is owned; the facts are on what there is -/
theorem Mem.law {W : World} (R : List (World → Prop)) (h : Facts (fun _ => True) W R) : Mem (fun _ => True) (fun _ => False) W [] R W := Mem.start W h.all
end Tp
