/- From a reading of the arguments to facts; from what is told of memory to the row's sentence. -/
import Derived.Test.YthihknbbibgchaaTrGen
import Derived.ProofKit
import Derived.Deep.Slices
import Derived.Carry
import Derived.Below
import Derived.ChangeSame
namespace Tp
open Go Go.ChangeShapes

/-! ### What holds of the blocks that there are -/
def Stay (w w' : World) : Prop := ∀ b, b < w.heap.size → w'.heap[b]? = w.heap[b]?
theorem SlAt.stay {size n : Nat} {v : Value} {cs : List Value} {w w' : World} (h : SlAt size v n cs w) (hs : Stay w w') : SlAt size v n cs w' := by
  rcases h with h | ⟨b, o, cap, c, e, fz, h1, h2, h3, h4, h5⟩
  · exact .inl h
  · exact .inr ⟨b, o, cap, c, e, fz, h1, h2, h3, by rw [hs b (lt_of_blk h4)]; exact h4, h5⟩
def Ty.Stays {α : Type} (T : Ty α) : Prop := ∀ cs x w w', T.rep cs x w → Stay w w' → T.rep cs x w'
theorem RepL.stay {α : Type} {T : Ty α} (hT : T.Stays) {cs : List Value} {xs : List α} {w w' : World} (h : RepL T cs xs w) (hs : Stay w w') : RepL T cs xs w' := ⟨h.1, fun i x hx => hT _ _ _ _ (h.2 i x hx) hs⟩
theorem RepS.stay {α : Type} {T : Ty α} (hT : T.Stays) {v : Value} {xs : List α} {w w' : World} (h : RepS T v xs w) (hs : Stay w w') : RepS T v xs w' := let ⟨cs, h1, h2⟩ := h; ⟨cs, h1.stay hs, h2.stay hT hs⟩
theorem Sh.stay {r : World → Prop} {w : World} (h : ∀ w', Stay w w' → r w') : Sh (fun _ => True) r w := ⟨fun b => b < w.heap.size, fun _ _ => trivial, fun _ h => h, fun w' hw => h w' hw⟩
/-! ### Types that are read -/
/-- whatever reads as data of the type t is what T tells -/
def Reads {α : Type} (P : Program) (t : TypeId) (T : Ty α) : Prop := ∀ (H : Type) (enc : TypeId × Value → H) (w : World) (fuel : Nat) (cs : List Value) (x : DataW H × List MemPlace),
  DataW.trod enc P w 0 (fun _ => true) true fuel t cs = some x → ∃ a, T.rep cs a w

theorem choose_list {α β : Type} {n : Nat} {p : Nat → α → β → Prop} (h : ∀ i, i < n → ∃ a b, p i a b) : ∃ (as : List α) (bs : List β), as.length = n ∧ bs.length = n ∧ ∀ i a b, as[i]? = some a → bs[i]? = some b → p i a b := by
  induction n with
  | zero => exact ⟨[], [], rfl, rfl, fun i a b h => by simp at h⟩
  | succ n ih =>
    obtain ⟨as, bs, h1, h2, h3⟩ := ih fun i hi => h i (by omega)
    obtain ⟨a, b, hab⟩ := h n (by omega)
    refine ⟨as ++ [a], bs ++ [b], by simp [h1], by simp [h2], fun i x y hx hy => ?_⟩
    rcases Nat.lt_or_ge i n with hi | hi
    · rw [List.getElem?_append_left (by omega)] at hx hy
      exact h3 i x y hx hy
    · have : i = n := by
        have := (List.getElem?_eq_some_iff.1 hx).1
        simp [h1] at this; omega
      subst this
      rw [← h1, List.getElem?_concat_length] at hx
      rw [← h2, List.getElem?_concat_length] at hy
      cases hx; cases hy; exact hab

theorem addr_add_add (a : Addr) (i k : Nat) : (a.add i).add k = a.add (i + k) := by
  unfold Addr.add
  by_cases hi : i = 0
  · subst hi; simp
  · by_cases hk : k = 0
    · subst hk; simp
    · simp [hi, hk, Nat.add_assoc]
theorem cell_spot {w : World} {a : Addr} {u : Value} (h : w.cell? a = some u) : a.spot = none ∧ ∃ c e fz, w.heap[a.block]? = some (.cells c e fz) ∧ c[a.off]? = some u := by
  unfold World.cell? at h
  cases hb : w.heap[a.block]? with
  | none => rw [hb] at h; cases h
  | some o =>
    rw [hb] at h
    cases o with
    | cells c e fz =>
      simp only at h
      split at h
      · cases h
      · rename_i hs
        exact ⟨by simpa using hs, c, e, fz, rfl, h⟩
    | _ => cases h

theorem reads_slice {α : Type} {P : Program} {t e : TypeId} {T : Ty α} (hu : P.underlying t = some (.slice e)) (hc : P.cellsOf e = T.size) (hpos : 0 < T.size) (hr : Reads P e T) {H : Type} {enc : TypeId × Value → H} {w : World} {fuel : Nat} {cs : List Value} {x : DataW H × List MemPlace}
    (h : DataW.trod enc P w 0 (fun _ => true) true fuel t cs = some x) : ∃ v xs, cs = [v] ∧ RepS T v xs w := by
  rcases Deep.open_slice hu h with ⟨rfl, _⟩ | ⟨a, len, cap, m, n, D, Pl, rfl, _, hl, hcm, hm, _, hel⟩
  · exact ⟨_, [], rfl, RepS.nil T w⟩
  · rw [if_pos rfl] at hm
    subst hm
    rw [hc] at hel
    by_cases h0 : m = 0
    · subst h0
      have : len = 0 := by omega
      subst this
      exact ⟨_, [], rfl, [], .inl ⟨⟨_, rfl⟩, rfl, rfl⟩, by simp [RepL]⟩
    obtain ⟨css, xs, hcl, hxl, hcx⟩ := choose_list (p := fun i cs x => w.cells? 0 (a.add (i * T.size)) T.size = some cs ∧ T.rep cs x w) (n := m) fun i hi => by
      obtain ⟨cs', h1, h2⟩ := hel i hi
      obtain ⟨y, hy⟩ := hr _ _ _ _ _ _ h2
      exact ⟨cs', y, h1, hy⟩
    have get : ∀ i (hi : i < m), ∃ cs x, css[i]? = some cs ∧ xs[i]? = some x ∧ T.rep cs x w ∧ cs.length = T.size ∧ ∀ k, k < T.size → w.cell? (a.add (i * T.size + k)) = cs[k]? := fun i hi => by
      have e1 : css[i]? = some css[i] := List.getElem?_eq_getElem (by omega)
      have e2 : xs[i]? = some xs[i] := List.getElem?_eq_getElem (by omega)
      obtain ⟨h1, h2⟩ := hcx i _ _ e1 e2
      obtain ⟨_, h3, h4⟩ := World.cells?_some h1
      refine ⟨_, _, e1, e2, h2, h3, fun k hk => ?_⟩
      rw [← h4 k hk]
      rw [addr_add_add]
    -- the block
    obtain ⟨cs0, x0, _, _, _, h0l, h0c⟩ := get 0 (by omega)
    obtain ⟨u0, hu0⟩ : ∃ u, cs0[0]? = some u := ⟨_, List.getElem?_eq_getElem (by omega)⟩
    obtain ⟨hsp, c, e', fz, hb, _⟩ := cell_spot ((h0c 0 hpos).trans hu0)
    obtain ⟨bk, o, sp⟩ := a
    have hsp' : sp = none := by unfold Addr.add at hsp; simpa using hsp
    subst hsp'
    have hadd : ∀ j, (⟨bk, o, none⟩ : Addr).add j = ⟨bk, o + j, none⟩ := fun j => by unfold Addr.add; split <;> simp_all
    rw [hadd] at hb
    have cel : ∀ i, i < m → ∃ cs x, css[i]? = some cs ∧ xs[i]? = some x ∧ T.rep cs x w ∧ cs.length = T.size ∧ ∀ k, k < T.size → c[o + (i * T.size + k)]? = cs[k]? := fun i hi => by
      obtain ⟨cs, x, h1, h2, h3, h4, h5⟩ := get i hi
      refine ⟨cs, x, h1, h2, h3, h4, fun k hk => ?_⟩
      have := h5 k hk
      rw [hadd, cell_blk hb] at this
      exact this
    have hsize : o + m * T.size ≤ c.size := by
      obtain ⟨cs, x, _, _, _, h4, h5⟩ := cel (m - 1) (by omega)
      have := h5 (T.size - 1) (by omega)
      rw [List.getElem?_eq_getElem (by omega)] at this
      have hlt := (Array.getElem?_eq_some_iff.1 this).1
      have e : (m - 1) * T.size + (T.size - 1) + 1 = m * T.size := by
        have : m * T.size = (m - 1) * T.size + T.size := by rw [← Nat.succ_mul]; congr 1; omega
        omega
      omega
    have hlen : len * T.size ≤ m * T.size := Nat.mul_le_mul_right _ hl
    refine ⟨_, xs.take len, rfl, (c.toList.drop o).take (len * T.size), .inr ⟨bk, o, m, c, e', fz, ?_, ?_, hcm, hb, hsize, ?_, fun j hj => ?_⟩, ?_, fun i y hy => ?_⟩
    · rw [List.length_take, Nat.min_eq_left (by omega)]
    · rw [List.length_take]; omega
    · rw [List.length_take, List.length_drop, Array.length_toList, List.length_take, Nat.min_eq_left (a := len) (by omega)]; omega
    · rw [List.length_take, Nat.min_eq_left (by omega)] at hj
      rw [List.getElem?_take, if_pos hj, List.getElem?_drop, Array.getElem?_toList]
    · rw [List.length_take, List.length_drop, Array.length_toList, List.length_take, Nat.min_eq_left (a := len) (by omega)]; omega
    · have hi : i < len := by
        have := (List.getElem?_eq_some_iff.1 hy).1
        rw [List.length_take] at this; omega
      rw [List.getElem?_take, if_pos hi] at hy
      obtain ⟨cs, x, _, h2, h3, h4, h5⟩ := cel i (by omega)
      rw [hy] at h2; cases h2
      have : (((c.toList.drop o).take (len * T.size)).drop (i * T.size)).take T.size = cs := by
        apply List.ext_getElem?
        intro k
        rw [List.getElem?_take]
        split
        · rename_i hk
          rw [List.getElem?_drop, List.getElem?_take, if_pos (mul_add_lt hi hk), List.getElem?_drop, Array.getElem?_toList, h5 k hk]
        · rw [List.getElem?_eq_none (by omega)]
      rw [this]; exact h3

theorem reads_struct {α : Type} {P : Program} {t : TypeId} {fs : Array Field} {T : Ty α} (hu : P.underlying t = some (.struct fs))
    (hr : ∀ (H : Type) (enc : TypeId × Value → H) (w : World) (n : Nat) (cs : List Value), cs.length = P.cellsOf t →
      (∀ (i : Nat) (f : Field), fs[i]? = some f → ∃ y, DataW.trod enc P w 0 (fun _ => true) true n f.type ((cs.drop f.offset).take (P.cellsOf f.type)) = some y) → ∃ a, T.rep cs a w) : Reads P t T := by
  intro H enc w fuel cs x h
  obtain ⟨xs, n, _, _, hl, hlen, hf⟩ := DataW.trod_struct hu h
  refine hr H enc w n cs hl fun i f hi => ?_
  have hlt : i < xs.length := by rw [hlen]; exact (Array.getElem?_eq_some_iff.1 hi).1
  exact ⟨xs[i], by rw [hf i f hi, List.getElem?_eq_getElem hlt]⟩
/-! ### The row's sentence -/
theorem Old.below {w w' : World} (h : Old w w') : RowKit.Below w.heap.size w w' := ⟨h.os, h.tape, h.output, h.size, fun k hk => h.block k hk id⟩
end Tp
