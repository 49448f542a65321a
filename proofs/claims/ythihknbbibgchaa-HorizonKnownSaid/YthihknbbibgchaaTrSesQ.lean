/- Spans in order; sessions of times; a time put in: plain data. -/
import Derived.Test.YthihknbbibgchaaTrSesP
set_option linter.all false
namespace Tp
open Go
/-! ### Sorted by insertion: rising, and the same elements -/
section
variable {α : Type} (c : α → α → Int)
theorem bub_perm (ys : List α) (j : Nat) : (bub c ys j).Perm ys := by
  induction j generalizing ys with
  | zero => rw [bub]
  | succ j ih =>
    rw [bub]
    split
    · rename_i x y hx hy
      split
      · refine (ih _).trans ?_
        obtain ⟨h1, h2⟩ := List.getElem?_eq_some_iff.1 hx
        obtain ⟨h3, h4⟩ := List.getElem?_eq_some_iff.1 hy
        have := List.set_set_perm (as := ys) (i := j + 1) (j := j) h1 h3
        rwa [h4, h2] at this
      · exact .refl _
    · exact .refl _
theorem sortN_perm (xs : List α) (k : Nat) : (sortN c xs k).Perm xs := by
  induction k with
  | zero => exact .refl _
  | succ k ih => rw [sortN]; exact (bub_perm c _ _).trans ih
theorem sortV_perm (xs : List α) : (sortV c xs).Perm xs := sortN_perm c xs _
variable {c} {key : α → Int} (hc : ∀ x y, c x y < 0 ↔ key x < key y)
include hc
/-- rising but for the element j, which is less than all behind it -/
def Rise (key : α → Int) (ys : List α) (m j : Nat) : Prop :=
  (∀ a b x y, a < b → b < m → a ≠ j → b ≠ j → ys[a]? = some x → ys[b]? = some y → key x ≤ key y) ∧ ∀ b x y, j < b → b < m → ys[j]? = some x → ys[b]? = some y → key x < key y
def Up (key : α → Int) (ys : List α) (m : Nat) : Prop := ∀ a b x y, a < b → b < m → ys[a]? = some x → ys[b]? = some y → key x ≤ key y
theorem bub_up {ys : List α} {m j : Nat} (hj : j < m) (h : Rise key ys m j) : Up key (bub c ys j) m := by
  induction j generalizing ys with
  | zero =>
    rw [bub]
    intro a b x y h1 h2 hx hy
    by_cases e : a = 0
    · subst e; exact Int.le_of_lt (h.2 b x y h1 h2 hx hy)
    · exact h.1 a b x y h1 h2 e (by omega) hx hy
  | succ j ih =>
    rw [bub]
    split
    · rename_i x0 y0 hx0 hy0
      have hl := (List.getElem?_eq_some_iff.1 hx0).1
      split
      · rename_i hlt
        rw [hc] at hlt
        refine ih (by omega) ?_
        have g : ∀ a, ((ys.set (j + 1) y0).set j x0)[a]? = if a = j then some x0 else if a = j + 1 then some y0 else ys[a]? := by
          intro a
          rw [List.getElem?_set, List.getElem?_set]
          by_cases e1 : a = j
          · subst e1; simp; omega
          · rw [if_neg (fun h => e1 h.symm), if_neg e1]
            by_cases e2 : a = j + 1
            · subst e2; simp; omega
            · rw [if_neg (fun h => e2 h.symm), if_neg e2]
        refine ⟨fun a b x y h1 h2 h3 h4 hx hy => ?_, fun b x y h1 h2 hx hy => ?_⟩
        · rw [g, if_neg h3] at hx; rw [g, if_neg h4] at hy
          by_cases e1 : a = j + 1
          · rw [if_pos e1] at hx; cases hx
            rw [if_neg (by omega)] at hy
            exact h.1 j b _ _ (by omega) h2 (by omega) (by omega) hy0 hy
          · rw [if_neg e1] at hx
            by_cases e2 : b = j + 1
            · rw [if_pos e2] at hy; cases hy
              exact h.1 a j _ _ (by omega) (by omega) e1 (by omega) hx hy0
            · rw [if_neg e2] at hy
              exact h.1 a b _ _ h1 h2 e1 e2 hx hy
        · rw [g, if_pos rfl] at hx; cases hx
          rw [g, if_neg (by omega)] at hy
          by_cases e2 : b = j + 1
          · rw [if_pos e2] at hy; cases hy; exact hlt
          · rw [if_neg e2] at hy
            exact h.2 b _ _ (by omega) h2 hx0 hy
      · rename_i hge
        rw [hc] at hge
        intro a b x y h1 h2 hx hy
        by_cases e1 : a = j + 1
        · subst e1; rw [hx0] at hx; cases hx; exact Int.le_of_lt (h.2 b _ _ h1 h2 hx0 hy)
        · by_cases e2 : b = j + 1
          · subst e2; rw [hx0] at hy; cases hy
            by_cases e3 : a = j
            · subst e3; rw [hy0] at hx; cases hx; omega
            · have := h.1 a j _ _ (by omega) (by omega) e1 (by omega) hx hy0; omega
          · exact h.1 a b _ _ h1 h2 e1 e2 hx hy
    · rename_i hn
      intro a b x y h1 h2 hx hy
      cases hj1 : ys[j + 1]? with
      | none =>
        have := List.getElem?_eq_none_iff.1 hj1
        have h5 := (List.getElem?_eq_some_iff.1 hy).1
        exact h.1 a b x y h1 h2 (by omega) (by omega) hx hy
      | some x0 =>
        have hl := (List.getElem?_eq_some_iff.1 hj1).1
        exact (hn x0 ys[j] hj1 (List.getElem?_eq_getElem (by omega))).elim
theorem sortN_up (xs : List α) (k : Nat) : Up key (sortN c xs k) k := by
  induction k with
  | zero => intro a b x y _ h; omega
  | succ k ih =>
    rw [sortN]
    refine bub_up hc (by omega) ⟨fun a b x y h1 h2 h3 h4 hx hy => ih a b x y h1 (by omega) hx hy, fun b x y h1 h2 => by omega⟩
theorem sortV_up (xs : List α) : (sortV c xs).Pairwise fun a b => key a ≤ key b := by
  rw [List.pairwise_iff_getElem]
  intro i j hi hj hij
  exact sortN_up hc xs xs.length i j _ _ hij (by have := sortV_len c xs; omega) (List.getElem?_eq_getElem hi) (List.getElem?_eq_getElem hj)
end
/-! ### What is left of the reference's joining, in order -/
def cmpSt (a b : Span) : Int := cmpI a.start b.start
theorem cmpSt_lt (a b : Span) : cmpSt a b < 0 ↔ a.start < b.start := by unfold cmpSt cmpI; (repeat split) <;> omega
theorem canon_of {l : List Span} (h : okL l) (h1 : l.Pairwise fun a b => a.start ≤ b.start) (h2 : l.Pairwise fun a b => overS2 a b = false) : canon l := by
  refine ⟨h, ?_⟩
  have h3 := h1.and h2
  refine (List.Pairwise.and_mem.1 h3).imp ?_
  rintro a b ⟨ha, hb, h4, h5⟩
  have := h a ha; have := h b hb
  rw [← Bool.not_eq_true, overS2_iff] at h5
  omega
theorem canon_sort {l : List Span} (h : okL l) (h2 : l.Pairwise fun a b => overS2 a b = false) : canon (sortV cmpSt l) ∧ ∀ x, cov l x ↔ cov (sortV cmpSt l) x := by
  have hp := sortV_perm cmpSt l
  refine ⟨canon_of (fun a ha => h a (hp.mem_iff.1 ha)) (sortV_up (key := fun s : Span => s.start) cmpSt_lt l) ?_, fun x => cov_perm hp.symm x⟩
  exact (hp.pairwise_iff (fun {a b} h => by rw [overS2_comm]; exact h)).2 h2
/-- joined, and in order -/
def Joined (l l' : List Span) : Prop := okL l → canon l' ∧ ∀ x, cov l x ↔ cov l' x
/-! ### Times -/
def spanT (gap t : Int) : Span := ⟨t, t + gap⟩
/-- one time more, which is not less than those put in -/
def stepT (gap : Int) (out : List Span) (t : Int) : List Span :=
  match out.getLast? with
  | some s => if t < s.fin then out.dropLast ++ [⟨s.start, t + gap⟩] else out ++ [spanT gap t]
  | none => [spanT gap t]
def ofT (gap : Int) (ts : List Int) : List Span := ts.foldl (stepT gap) []
theorem ofT_snoc {gap : Int} {ts : List Int} {i : Nat} {t : Int} (h : ts[i]? = some t) : ofT gap (ts.take (i + 1)) = stepT gap (ofT gap (ts.take i)) t := by
  rw [← take_snoc h, ofT, List.foldl_append]; rfl
theorem last_split {α : Type} {l : List α} {s : α} (h : l.getLast? = some s) : l = l.dropLast ++ [s] := by
  have hne : l ≠ [] := by rintro rfl; cases h
  rw [List.getLast?_eq_some_getLast hne] at h
  cases h
  exact (List.dropLast_concat_getLast hne).symm
theorem canon_app {l m : List Span} : canon (l ++ m) ↔ canon l ∧ canon m ∧ ∀ a, a ∈ l → ∀ b, b ∈ m → a.fin ≤ b.start := by
  unfold canon okL
  rw [List.pairwise_append]
  constructor
  · rintro ⟨h1, h2, h3, h4⟩
    exact ⟨⟨fun a ha => h1 a (List.mem_append_left _ ha), h2⟩, ⟨fun a ha => h1 a (List.mem_append_right _ ha), h3⟩, h4⟩
  · rintro ⟨⟨h1, h2⟩, ⟨h3, h4⟩, h5⟩
    exact ⟨fun a ha => (List.mem_append.1 ha).elim (h1 a) (h3 a), h2, h4, h5⟩
theorem canon_one {s : Span} : canon [s] ↔ s.start < s.fin := by simp [canon, okL]
/-- what holds behind each time -/
structure OfInv (gap : Int) (ts : List Int) (out : List Span) : Prop where
  canon : canon out
  cov : ∀ x, cov (ts.map (spanT gap)) x ↔ cov out x
  last : ∀ s, out.getLast? = some s → ∃ t, t ∈ ts ∧ s.fin = t + gap ∧ s.start ≤ t ∧ ∀ u, u ∈ ts → u ≤ t
  none : out = [] → ts = []
  ends : ∀ s, s ∈ out → s.start ∈ ts ∧ ∃ t, t ∈ ts ∧ s.fin = t + gap
theorem ofT_step {gap : Int} {ts : List Int} {out : List Span} {t : Int} (hg : 1 ≤ gap) (h : OfInv gap ts out) (ht : ∀ u, u ∈ ts → u ≤ t) : OfInv gap (ts ++ [t]) (stepT gap out t) := by
  have hcov1 : ∀ x, Tp.cov ((ts ++ [t]).map (spanT gap)) x ↔ Tp.cov out x ∨ (2 * t < x ∧ x < 2 * (t + gap)) := by
    intro x
    rw [List.map_append, cov_app, h.cov x]
    simp [cov_cons, cov_nil, spanT]
  have hmem : ∀ u, u ∈ ts ++ [t] → u ≤ t := by
    intro u hu
    rcases List.mem_append.1 hu with h1 | h1
    · exact ht u h1
    · rw [List.mem_singleton.1 h1]; omega
  have hends : ∀ s, s ∈ out → s.start ∈ ts ++ [t] ∧ ∃ u, u ∈ ts ++ [t] ∧ s.fin = u + gap := fun s hs => by
    obtain ⟨h1, u, h2, h3⟩ := h.ends s hs
    exact ⟨List.mem_append_left _ h1, u, List.mem_append_left _ h2, h3⟩
  have htm : t ∈ ts ++ [t] := List.mem_append_right _ (List.mem_singleton.2 rfl)
  unfold stepT
  cases hl : out.getLast? with
  | none =>
    have ho : out = [] := by simpa using hl
    subst ho
    refine ⟨canon_one.2 (by simp only [spanT]; omega), fun x => ?_, fun s hs => ?_, fun h0 => by simp at h0, fun s hs => ?_⟩
    · rw [hcov1]; simp [cov_cons, cov_nil, spanT]
    · cases hs; exact ⟨t, htm, rfl, Int.le_refl _, hmem⟩
    · rw [List.mem_singleton.1 hs]; exact ⟨htm, t, htm, rfl⟩
  | some s =>
    obtain ⟨tl, l1, l2, l3, l4⟩ := h.last s hl
    have hle := ht tl l1
    have hsp := last_split hl
    have hc := h.canon
    rw [hsp] at hc
    obtain ⟨c1, c2, c3⟩ := canon_app.1 hc
    have c4 := canon_one.1 c2
    simp only
    split
    · rename_i hlt
      refine ⟨canon_app.2 ⟨c1, canon_one.2 (by simp only; omega), fun a ha b hb => ?_⟩, fun x => ?_, fun s' hs => ?_, fun h0 => by simp at h0, fun s' hs => ?_⟩
      · rw [List.mem_singleton.1 hb]; exact c3 a ha s (List.mem_singleton.2 rfl)
      · rw [hcov1, hsp, List.dropLast_append_of_ne_nil (by simp)]
        simp only [cov_app, cov_cons, cov_nil, or_false, List.dropLast_singleton, List.append_nil]
        constructor
        · rintro ((h | h) | h)
          · exact .inl h
          · exact .inr ⟨h.1, by omega⟩
          · exact .inr ⟨by omega, h.2⟩
        · rintro (h | h)
          · exact .inl (.inl h)
          · by_cases hx : x < 2 * s.fin
            · exact .inl (.inr ⟨h.1, hx⟩)
            · exact .inr ⟨by omega, h.2⟩
      · rw [List.getLast?_append] at hs; simp at hs; subst hs
        exact ⟨t, htm, rfl, by simp only; omega, hmem⟩
      · rcases List.mem_append.1 hs with h1 | h1
        · exact hends s' (List.dropLast_subset _ h1)
        · rw [List.mem_singleton.1 h1]
          exact ⟨(hends s (by rw [hsp]; simp)).1, t, htm, rfl⟩
    · rename_i hge
      refine ⟨canon_app.2 ⟨h.canon, canon_one.2 (by simp only [spanT]; omega), fun a ha b hb => ?_⟩, fun x => ?_, fun s' hs => ?_, fun h0 => by simp at h0, fun s' hs => ?_⟩
      · rw [List.mem_singleton.1 hb]
        rw [hsp] at ha
        simp only [spanT]
        rcases List.mem_append.1 ha with h1 | h1
        · have := c3 a h1 s (List.mem_singleton.2 rfl); omega
        · rw [List.mem_singleton.1 h1]; omega
      · rw [hcov1, cov_app]; simp [cov_cons, cov_nil, spanT]
      · rw [List.getLast?_append] at hs; simp at hs; subst hs
        exact ⟨t, htm, rfl, Int.le_refl _, hmem⟩
      · rcases List.mem_append.1 hs with h1 | h1
        · exact hends s' h1
        · rw [List.mem_singleton.1 h1]; exact ⟨htm, t, htm, rfl⟩
theorem ofT_inv {gap : Int} (hg : 1 ≤ gap) {ts : List Int} (hs : ts.Pairwise (· ≤ ·)) : OfInv gap ts (ofT gap ts) := by
  have key : ∀ i, i ≤ ts.length → OfInv gap (ts.take i) (ofT gap (ts.take i)) := by
    intro i
    induction i with
    | zero => intro _; exact ⟨⟨fun _ h => (by cases h), .nil⟩, fun x => by simp [ofT, cov_nil], fun _ h => by simp [ofT] at h, fun _ => rfl, fun _ h => by simp [ofT] at h⟩
    | succ i ih =>
      intro hi
      have ht : ts[i]? = some ts[i] := List.getElem?_eq_getElem (by omega)
      rw [ofT_snoc ht, ← take_snoc ht]
      refine ofT_step hg (ih (by omega)) fun u hu => ?_
      obtain ⟨j, hj⟩ := List.getElem?_of_mem hu
      have hj1 := (List.getElem?_eq_some_iff.1 hj).1
      rw [List.getElem?_take] at hj
      have hji : j < i := by rw [List.length_take] at hj1; omega
      rw [if_pos hji] at hj
      obtain ⟨h1, h2⟩ := List.getElem?_eq_some_iff.1 hj
      rw [← h2]
      exact List.pairwise_iff_getElem.1 hs j i h1 (by omega) hji
  have := key ts.length (Nat.le_refl _)
  rwa [List.take_length] at this
/-- the times in order -/
def sortT (ts : List Int) : List Int := ts.mergeSort fun x y => decide (x ≤ y)
theorem sortT_perm (ts : List Int) : (sortT ts).Perm ts := List.mergeSort_perm _ _
theorem sortT_up (ts : List Int) : (sortT ts).Pairwise (· ≤ ·) := by
  have := List.pairwise_mergeSort (le := fun x y : Int => decide (x ≤ y)) (by intro a b c; simp; omega) (by intro a b; simp; omega) ts
  exact this.imp fun h => by simpa using h
theorem sortT_len (ts : List Int) : (sortT ts).length = ts.length := (sortT_perm ts).length_eq
theorem ofT_joined {gap : Int} (hg : 1 ≤ gap) (ts : List Int) : Joined (ts.map (spanT gap)) (ofT gap (sortT ts)) := fun _ => by
  have h := ofT_inv hg (sortT_up ts)
  exact ⟨h.canon, fun x => (cov_perm ((sortT_perm ts).map _).symm x).trans (h.cov x)⟩
theorem okL_spans {gap : Int} (hg : 1 ≤ gap) (ts : List Int) : okL (ts.map (spanT gap)) := by
  intro a ha
  obtain ⟨t, _, rfl⟩ := List.mem_map.1 ha
  simp only [spanT]; omega
end Tp
