/- Spans that are right; a time put in; the reference's joining; one of many: plain data. -/
import Derived.Test.YthihknbbibgchaaTrSesR
import Derived.Test.YthihknbbibgchaaTrIns
set_option linter.all false
namespace Tp
open Go
theorem wrap_u64 {a : Int} (h : 0 ≤ a ∧ a < 18446744073709551616) : IntKind.u64.wrap a = a := IntWalk.u64_in a ⟨h.1, by omega⟩
/-! ### Right -/
def okAt (gap : Int) (l : List Span) (i : Nat) : Bool := match l[i]? with
  | some s => decide (s.start < s.fin) && decide (gap ≤ s.fin - s.start) && match i with
    | 0 => true
    | j + 1 => match l[j]? with
      | some q => decide (q.fin ≤ s.start)
      | none => true
  | none => true
def rightN (gap : Int) (l : List Span) : Nat → Bool
  | 0 => true
  | i + 1 => rightN gap l i && okAt gap l i
def rightB (gap : Int) (l : List Span) : Bool := rightN gap l l.length
section
variable {gap : Int} {l : List Span}
theorem rightN_at {i : Nat} : rightN gap l i = true ↔ ∀ j, j < i → okAt gap l j = true := by
  induction i with
  | zero => simp [rightN]
  | succ i ih =>
    rw [rightN, Bool.and_eq_true, ih]
    constructor
    · rintro ⟨h1, h2⟩ j hj
      rcases Nat.lt_or_ge j i with h | h
      · exact h1 j h
      · rw [show j = i by omega]; exact h2
    · intro h
      exact ⟨fun j hj => h j (by omega), h i (by omega)⟩
theorem right_bad {i : Nat} (hi : i < l.length) (h : okAt gap l i = false) : rightB gap l = false := by
  rw [← Bool.not_eq_true, rightB, rightN_at]
  intro h2
  rw [h2 i hi] at h; cases h
theorem right_step {i : Nat} (h : rightN gap l i = true) (h1 : okAt gap l i = true) : rightN gap l (i + 1) = true := by rw [rightN, h, h1]; rfl
theorem okAt_zero {s : Span} (hx : l[0]? = some s) : okAt gap l 0 = (decide (s.start < s.fin) && decide (gap ≤ s.fin - s.start)) := by
  unfold okAt; rw [hx]; simp
theorem okAt_succ {i : Nat} {s q : Span} (h0 : 0 < i) (hx : l[i]? = some s) (hq : l[i - 1]? = some q) : okAt gap l i = (decide (s.start < s.fin) && decide (gap ≤ s.fin - s.start) && decide (q.fin ≤ s.start)) := by
  obtain ⟨j, rfl⟩ : ∃ j, i = j + 1 := ⟨i - 1, by omega⟩
  rw [show j + 1 - 1 = j by omega] at hq
  unfold okAt; rw [hx]; simp only; rw [hq]
theorem okAt_no1 {i : Nat} {s : Span} (hx : l[i]? = some s) (h : ¬ s.start < s.fin) : okAt gap l i = false := by
  unfold okAt; rw [hx]; simp [h]
theorem okAt_no2 {i : Nat} {s : Span} (hx : l[i]? = some s) (h : s.fin - s.start < gap) : okAt gap l i = false := by
  unfold okAt; rw [hx]; simp [show ¬ gap ≤ s.fin - s.start by omega]
theorem okAt_fact {i : Nat} {s : Span} (hx : l[i]? = some s) (h : okAt gap l i = true) : s.start < s.fin ∧ gap ≤ s.fin - s.start ∧ ∀ j q, j + 1 = i → l[j]? = some q → q.fin ≤ s.start := by
  unfold okAt at h; rw [hx] at h
  simp only [Bool.and_eq_true, decide_eq_true_eq] at h
  refine ⟨h.1.1, h.1.2, ?_⟩
  rintro j q rfl hq
  have := h.2
  simp only [hq, decide_eq_true_eq] at this
  exact this
theorem right_at (h : rightB gap l = true) {i : Nat} {s : Span} (hx : l[i]? = some s) : s.start < s.fin ∧ gap ≤ s.fin - s.start ∧ ∀ j q, j + 1 = i → l[j]? = some q → q.fin ≤ s.start :=
  okAt_fact hx (rightN_at.1 h i (List.getElem?_eq_some_iff.1 hx).1)
theorem right_okL (h : rightB gap l = true) : okL l := fun a ha => by
  obtain ⟨i, hi⟩ := List.getElem?_of_mem ha
  exact (right_at h hi).1
theorem right_canon (h : rightB gap l = true) : canon l := by
  refine ⟨right_okL h, ?_⟩
  rw [List.pairwise_iff_getElem]
  intro i j hi hj hij
  obtain ⟨d, rfl⟩ : ∃ d, j = i + 1 + d := ⟨j - i - 1, by omega⟩
  induction d with
  | zero => exact (right_at h (List.getElem?_eq_getElem hj)).2.2 i _ (by omega) (List.getElem?_eq_getElem hi)
  | succ d ih =>
    have h1 := ih (by omega) (by omega)
    have h2 := (right_at h (List.getElem?_eq_getElem hj)).2.2 (i + 1 + d) _ (by omega) (List.getElem?_eq_getElem (by omega))
    have h3 := (right_at h (List.getElem?_eq_getElem (l := l) (i := i + 1 + d) (by omega))).1
    omega
theorem right_of (h : canon l) (hg : ∀ a, a ∈ l → gap ≤ a.fin - a.start) : rightB gap l = true := by
  refine rightN_at.2 fun i hi => ?_
  have hx : l[i]? = some l[i] := List.getElem?_eq_getElem hi
  have h1 := h.1 l[i] (List.getElem_mem hi)
  have h2 := hg l[i] (List.getElem_mem hi)
  rcases Nat.eq_zero_or_pos i with rfl | h0
  · rw [okAt_zero hx]; simp [h1, h2]
  · have h3 := List.pairwise_iff_getElem.1 h.2 (i - 1) i (by omega) hi (by omega)
    rw [okAt_succ h0 hx (List.getElem?_eq_getElem (by omega))]; simp [h1, h2, h3]
end
/-! ### A time put in -/
def insJ (l : List Span) (o : Span) : List Span := l.filter fun s => overS2 s o
def insR (l : List Span) (o : Span) : List Span := l.filter fun s => !overS2 s o
def nowS (o : Span) (n s : Span) : Span := if overS2 s o = true then ⟨min n.start s.start, max n.fin s.fin⟩ else n
def insN (l : List Span) (o : Span) : Span := l.foldl (nowS o) o
/-- how many of them begin ahead of t, from the first on -/
def lowB (l : List Span) (t : Int) : Nat := (l.takeWhile fun s => decide (s.start < t)).length
def insA (l : List Span) (o : Span) : List Span := insL (insR l o) (lowB (insR l o) (insN l o).start) (insN l o)
theorem filter_snoc {α : Type} {p : α → Bool} {l : List α} {i : Nat} {x : α} (hx : l[i]? = some x) : (l.take (i + 1)).filter p = (l.take i).filter p ++ if p x then [x] else [] := by
  rw [← take_snoc hx, List.filter_append]; congr 1
  by_cases h : p x <;> simp [h]
theorem insJ_hit {l : List Span} {o x : Span} {i : Nat} (hx : l[i]? = some x) (h : overS2 x o = true) : insJ (l.take (i + 1)) o = insJ (l.take i) o ++ [x] := by unfold insJ; rw [filter_snoc hx, h]; rfl
theorem insJ_miss {l : List Span} {o x : Span} {i : Nat} (hx : l[i]? = some x) (h : overS2 x o = false) : insJ (l.take (i + 1)) o = insJ (l.take i) o := by unfold insJ; rw [filter_snoc hx, h]; simp
theorem insR_miss {l : List Span} {o x : Span} {i : Nat} (hx : l[i]? = some x) (h : overS2 x o = false) : insR (l.take (i + 1)) o = insR (l.take i) o ++ [x] := by unfold insR; rw [filter_snoc hx, h]; rfl
theorem insR_hit {l : List Span} {o x : Span} {i : Nat} (hx : l[i]? = some x) (h : overS2 x o = true) : insR (l.take (i + 1)) o = insR (l.take i) o := by unfold insR; rw [filter_snoc hx, h]; simp
theorem insN_hit {l : List Span} {o x : Span} {i : Nat} (hx : l[i]? = some x) (h : overS2 x o = true) : insN (l.take (i + 1)) o = ⟨min (insN (l.take i) o).start x.start, max (insN (l.take i) o).fin x.fin⟩ := by
  unfold insN; rw [← take_snoc hx, List.foldl_append]; simp only [List.foldl_cons, List.foldl_nil]; rw [nowS, if_pos h]
theorem insN_miss {l : List Span} {o x : Span} {i : Nat} (hx : l[i]? = some x) (h : overS2 x o = false) : insN (l.take (i + 1)) o = insN (l.take i) o := by
  unfold insN; rw [← take_snoc hx, List.foldl_append]; simp only [List.foldl_cons, List.foldl_nil]; rw [nowS, if_neg (by rw [h]; decide)]
theorem insJ_len (l : List Span) (o : Span) : (insJ l o).length ≤ l.length := List.length_filter_le ..
theorem insR_len (l : List Span) (o : Span) : (insR l o).length ≤ l.length := List.length_filter_le ..
theorem insJR_len (l : List Span) (o : Span) : (insJ l o).length + (insR l o).length = l.length := by
  unfold insJ insR
  induction l with
  | nil => rfl
  | cons a l ih =>
    cases h : overS2 a o <;> simp [List.filter_cons, h] <;> omega
theorem lowB_le (l : List Span) (t : Int) : lowB l t ≤ l.length := by
  unfold lowB; exact List.IsPrefix.length_le (List.takeWhile_prefix _)
theorem lowB_eq {l : List Span} {t : Int} {i : Nat} (hi : i ≤ l.length) (h1 : ∀ j s, j < i → l[j]? = some s → s.start < t) (h2 : ∀ s, l[i]? = some s → ¬ s.start < t) : lowB l t = i := by
  unfold lowB
  induction l generalizing i with
  | nil => simp at hi ⊢; omega
  | cons a l ih =>
    rw [List.takeWhile_cons]
    rcases i with _ | i
    · have := h2 a rfl; simp [this]
    · have := h1 0 a (by omega) rfl
      simp only [this, decide_true, if_true, List.length_cons]
      rw [ih (i := i) (by simpa using hi) (fun j s hj hs => h1 (j + 1) s (by omega) (by simpa using hs)) (fun s hs => h2 s (by simpa using hs))]
theorem lowB_spec {l : List Span} {t : Int} : (∀ j s, j < lowB l t → l[j]? = some s → s.start < t) ∧ ∀ s, l[lowB l t]? = some s → ¬ s.start < t := by
  unfold lowB
  induction l with
  | nil => simp
  | cons a l ih =>
    rw [List.takeWhile_cons]
    by_cases h : a.start < t
    · simp only [h, decide_true, if_true, List.length_cons]
      refine ⟨fun j s hj hs => ?_, fun s hs => ih.2 s (by simpa using hs)⟩
      rcases j with _ | j
      · cases hs; exact h
      · exact ih.1 j s (by omega) (by simpa using hs)
    · simp only [h, decide_false]
      refine ⟨fun j s hj => absurd hj (Nat.not_lt_zero _), fun s hs => ?_⟩
      cases hs; exact h
theorem insN_fact (o : Span) (l : List Span) : (insN l o).start ≤ o.start ∧ o.fin ≤ (insN l o).fin ∧ (∀ j, j ∈ insJ l o → (insN l o).start ≤ j.start ∧ j.fin ≤ (insN l o).fin) ∧
    (∀ b, b ≤ o.start → (∀ j, j ∈ insJ l o → b ≤ j.start) → b ≤ (insN l o).start) ∧ ∀ b, o.fin ≤ b → (∀ j, j ∈ insJ l o → j.fin ≤ b) → (insN l o).fin ≤ b := by
  have key : ∀ i, i ≤ l.length → (insN (l.take i) o).start ≤ o.start ∧ o.fin ≤ (insN (l.take i) o).fin ∧ (∀ j, j ∈ insJ (l.take i) o → (insN (l.take i) o).start ≤ j.start ∧ j.fin ≤ (insN (l.take i) o).fin) ∧
    (∀ b, b ≤ o.start → (∀ j, j ∈ insJ (l.take i) o → b ≤ j.start) → b ≤ (insN (l.take i) o).start) ∧ ∀ b, o.fin ≤ b → (∀ j, j ∈ insJ (l.take i) o → j.fin ≤ b) → (insN (l.take i) o).fin ≤ b := by
    intro i
    induction i with
    | zero => intro _; simp [insN, insJ]
    | succ i ih =>
      intro hi
      obtain ⟨h1, h2, h3, h4, h5⟩ := ih (by omega)
      have hx : l[i]? = some l[i] := List.getElem?_eq_getElem (by omega)
      cases h : overS2 l[i] o with
      | false => rw [insN_miss hx h, insJ_miss hx h]; exact ⟨h1, h2, h3, h4, h5⟩
      | true =>
        rw [insN_hit hx h, insJ_hit hx h]
        refine ⟨by simp only; omega, by simp only; omega, fun j hj => ?_, fun b hb hj => ?_, fun b hb hj => ?_⟩
        · simp only
          rcases List.mem_append.1 hj with hj | hj
          · have := h3 j hj; omega
          · rw [List.mem_singleton.1 hj]; omega
        · have := h4 b hb fun j hm => hj j (List.mem_append_left _ hm)
          have := hj l[i] (List.mem_append_right _ (List.mem_singleton.2 rfl))
          simp only; omega
        · have := h5 b hb fun j hm => hj j (List.mem_append_left _ hm)
          have := hj l[i] (List.mem_append_right _ (List.mem_singleton.2 rfl))
          simp only; omega
  have := key l.length (Nat.le_refl _)
  rwa [List.take_length] at this
theorem mem_insJ {l : List Span} {o j : Span} : j ∈ insJ l o ↔ j ∈ l ∧ overS2 j o = true := List.mem_filter
theorem mem_insR {l : List Span} {o j : Span} : j ∈ insR l o ↔ j ∈ l ∧ overS2 j o = false := by simp [insR]
theorem canon_two {l : List Span} (h : canon l) {a b : Span} (ha : a ∈ l) (hb : b ∈ l) (hne : a ≠ b) : a.fin ≤ b.start ∨ b.fin ≤ a.start := by
  obtain ⟨i, hi, rfl⟩ := List.getElem_of_mem ha
  obtain ⟨j, hj, rfl⟩ := List.getElem_of_mem hb
  rcases Nat.lt_trichotomy i j with h1 | h1 | h1
  · exact .inl (List.pairwise_iff_getElem.1 h.2 i j hi hj h1)
  · subst h1; exact absurd rfl hne
  · exact .inr (List.pairwise_iff_getElem.1 h.2 j i hj hi h1)
theorem ins_apart {l : List Span} {o r : Span} (h : canon l) (ho : o.start < o.fin) (hr : r ∈ insR l o) : r.fin ≤ (insN l o).start ∨ (insN l o).fin ≤ r.start := by
  obtain ⟨hr1, hr2⟩ := mem_insR.1 hr
  obtain ⟨h1, h2, h3, h4, h5⟩ := insN_fact o l
  have hrr := h.1 r hr1
  have hr3 : ¬ (r.start < o.fin ∧ o.start < r.fin) := fun e => by rw [← overS2_iff, hr2] at e; cases e
  have hJ : ∀ j, j ∈ insJ l o → (r.fin ≤ j.start ∨ j.fin ≤ r.start) ∧ j.start < o.fin ∧ o.start < j.fin := fun j hj => by
    obtain ⟨hj1, hj2⟩ := mem_insJ.1 hj
    refine ⟨canon_two h hr1 hj1 fun e => ?_, overS2_iff.1 hj2⟩
    subst e; rw [hr2] at hj2; cases hj2
  rcases Int.lt_or_le o.start r.fin with hlt | hge
  · right
    refine h5 _ (by omega) fun j hj => ?_
    have := hJ j hj; omega
  · left
    refine h4 _ hge fun j hj => ?_
    have := hJ j hj; omega
theorem insN_ok {l : List Span} {o : Span} (ho : o.start < o.fin) : (insN l o).start < (insN l o).fin := by
  obtain ⟨h1, h2, _⟩ := insN_fact o l; omega
theorem insR_canon {l : List Span} {o : Span} (h : canon l) : canon (insR l o) := ⟨fun a ha => h.1 a (mem_insR.1 ha).1, h.2.sublist List.filter_sublist⟩
theorem insL_perm {α : Type} (l : List α) (i : Nat) (x : α) : (insL l i x).Perm (l ++ [x]) := by
  unfold insL
  have h1 : (l.take i ++ x :: l.drop i).Perm (x :: (l.take i ++ l.drop i)) := List.perm_middle
  rw [List.take_append_drop] at h1
  exact h1.trans (List.perm_append_singleton x l).symm
theorem insA_joined {l : List Span} {o : Span} (h : canon l) (ho : o.start < o.fin) : Joined (insR l o ++ [insN l o]) (insA l o) := fun _ => by
  have hR := insR_canon (o := o) h
  have hN := insN_ok (l := l) ho
  refine ⟨?_, fun x => cov_perm (insL_perm _ _ _).symm x⟩
  obtain ⟨hs1, hs2⟩ := lowB_spec (l := insR l o) (t := (insN l o).start)
  have hle := lowB_le (insR l o) (insN l o).start
  generalize lowB (insR l o) (insN l o).start = k at hs1 hs2 hle
  unfold insA insL
  have hA : ∀ a, a ∈ (insR l o).take (lowB (insR l o) (insN l o).start) → True := fun _ _ => trivial
  have e : lowB (insR l o) (insN l o).start = lowB (insR l o) (insN l o).start := rfl
  have hcan : ∀ k, (∀ j s, j < k → (insR l o)[j]? = some s → s.start < (insN l o).start) → (∀ s, (insR l o)[k]? = some s → ¬ s.start < (insN l o).start) → canon ((insR l o).take k ++ insN l o :: (insR l o).drop k) := by
    intro k hs1 hs2
    have hsplit : canon ((insR l o).take k ++ (insR l o).drop k) := by rw [List.take_append_drop]; exact hR
    obtain ⟨c1, c2, c3⟩ := canon_app.1 hsplit
    have hlow : ∀ a, a ∈ (insR l o).take k → a.fin ≤ (insN l o).start := fun a ha => by
      obtain ⟨j, hj⟩ := List.getElem?_of_mem ha
      have hj1 := (List.getElem?_eq_some_iff.1 hj).1
      rw [List.length_take] at hj1
      rw [List.getElem?_take, if_pos (by omega)] at hj
      have h1 := hs1 j a (by omega) hj
      rcases ins_apart h ho (List.mem_of_getElem? hj) with h2 | h2
      · exact h2
      · omega
    have hhigh : ∀ a, a ∈ (insR l o).drop k → (insN l o).fin ≤ a.start := fun a ha => by
      have ham := List.mem_of_mem_drop ha
      obtain ⟨j, hj⟩ := List.getElem?_of_mem ha
      have hst : ¬ a.start < (insN l o).start := by
        rcases Nat.eq_zero_or_pos j with rfl | h0
        · rw [List.getElem?_drop, Nat.add_zero] at hj; exact hs2 a hj
        · rw [List.getElem?_drop] at hj
          have hlt := (List.getElem?_eq_some_iff.1 hj).1
          have hk : (insR l o)[k]? = some (insR l o)[k] := List.getElem?_eq_getElem (by omega)
          have h1 := hs2 _ hk
          have h2 := List.pairwise_iff_getElem.1 hR.2 k (k + j) (by omega) hlt (by omega)
          have h3 := hR.1 _ (List.getElem_mem (by omega : k < (insR l o).length))
          rw [(List.getElem?_eq_some_iff.1 hj).2] at h2
          omega
      rcases ins_apart h ho ham with h2 | h2
      · have := hR.1 a ham; omega
      · exact h2
    refine canon_app.2 ⟨c1, ?_, fun a ha b hb => ?_⟩
    · rw [show insN l o :: (insR l o).drop k = [insN l o] ++ (insR l o).drop k from rfl]
      exact canon_app.2 ⟨canon_one.2 hN, c2, fun a ha b hb => by rw [List.mem_singleton.1 ha]; exact hhigh b hb⟩
    · rcases List.mem_cons.1 hb with rfl | hb
      · exact hlow a ha
      · exact c3 a ha b hb
  obtain ⟨hs1, hs2⟩ := lowB_spec (l := insR l o) (t := (insN l o).start)
  exact hcan _ hs1 hs2
theorem ins_cov {l : List Span} {o : Span} (h : canon l) (ho : o.start < o.fin) (x : Int) : cov (insA l o) x ↔ cov (l ++ [o]) x := by
  have h0 : cov (insA l o) x ↔ cov (insR l o ++ [insN l o]) x := cov_perm (insL_perm _ _ _) x
  rw [h0, cov_app, cov_app, cov_cons, cov_cons]
  simp only [cov_nil, or_false]
  obtain ⟨h1, h2, h3, h4, h5⟩ := insN_fact o l
  constructor
  · rintro (⟨a, ha, hx⟩ | hx)
    · exact .inl ⟨a, (mem_insR.1 ha).1, hx⟩
    · rcases Classical.em (2 * o.start < x ∧ x < 2 * o.fin) with hin | hout
      · exact .inr hin
      · left
        rcases Int.lt_or_le (2 * o.start) x with hlt | hge
        · -- right of o: some joined one goes that far
          apply Classical.byContradiction
          intro hno
          have hb := h5 (x / 2) (by omega) fun j hj => by
            obtain ⟨hj1, hj2⟩ := mem_insJ.1 hj
            obtain ⟨hj3, hj4⟩ := overS2_iff.1 hj2
            apply Classical.byContradiction
            intro hlt2
            exact hno ⟨j, hj1, by omega, by omega⟩
          omega
        · apply Classical.byContradiction
          intro hno
          have hb := h4 ((x + 1) / 2) (by omega) fun j hj => by
            obtain ⟨hj1, hj2⟩ := mem_insJ.1 hj
            obtain ⟨hj3, hj4⟩ := overS2_iff.1 hj2
            apply Classical.byContradiction
            intro hlt2
            exact hno ⟨j, hj1, by omega, by omega⟩
          omega
  · rintro (⟨a, ha, hx⟩ | hx)
    · cases ho2 : overS2 a o with
      | false => exact .inl ⟨a, mem_insR.2 ⟨ha, ho2⟩, hx⟩
      | true => have := h3 a (mem_insJ.2 ⟨ha, ho2⟩); exact .inr ⟨by omega, by omega⟩
    · exact .inr ⟨by omega, by omega⟩
theorem insA_canon {l : List Span} {o : Span} (h : canon l) (ho : o.start < o.fin) : canon (insA l o) :=
  (insA_joined h ho (fun a ha => by
    rcases List.mem_append.1 ha with ha | ha
    · exact (insR_canon h).1 a ha
    · rw [List.mem_singleton.1 ha]; exact insN_ok ho)).1
theorem insA_len (l : List Span) (o : Span) : (insA l o).length = (insR l o).length + 1 := insL_len _ (lowB_le _ _) _
/-! ### The reference's joining -/
open Classical in
noncomputable def canS (l : List Span) : List Span := if h : ∃ m, canon m ∧ ∀ x, cov l x ↔ cov m x then Classical.choose h else l
theorem canS_eq {l m : List Span} (h1 : canon m) (h2 : ∀ x, cov l x ↔ cov m x) : canS l = m := by
  have h : ∃ m, canon m ∧ ∀ x, cov l x ↔ cov m x := ⟨m, h1, h2⟩
  unfold canS; rw [dif_pos h]
  obtain ⟨h3, h4⟩ := Classical.choose_spec h
  exact canon_unique h3 h1 fun x => (h4 x).symm.trans (h2 x)
theorem canS_joined {l m : List Span} (h : okL l) (hj : Joined l m) : canS l = m := canS_eq (hj h).1 (hj h).2
def PairAt (l : List Span) (i k : Nat) : Prop := i < k ∧ (∃ a b, l[i]? = some a ∧ l[k]? = some b ∧ overS2 a b = true) ∧ apart l i ∧ apart1 l i k
theorem pairAt_uniq {l : List Span} {i k i' k' : Nat} (h : PairAt l i k) (h' : PairAt l i' k') : i = i' ∧ k = k' := by
  obtain ⟨h1, ⟨a, b, h2, h3, h4⟩, h5, h6⟩ := h
  obtain ⟨g1, ⟨c, d, g2, g3, g4⟩, g5, g6⟩ := h'
  have e : i = i' := by
    rcases Nat.lt_trichotomy i i' with h | h | h
    · rw [g5 i k a b h h1 h2 h3] at h4; cases h4
    · exact h
    · rw [h5 i' k' c d h g1 g2 g3] at g4; cases g4
  subst e
  refine ⟨rfl, ?_⟩
  rcases Nat.lt_trichotomy k k' with h | h | h
  · rw [g6 k a b h1 h h2 h3] at h4; cases h4
  · exact h
  · rw [h6 k' c d g1 h g2 g3] at g4; cases g4
def atS (l : List Span) (i : Nat) : Span := (l[i]?).getD ⟨0, 0⟩
theorem atS_eq {l : List Span} {i : Nat} {a : Span} (h : l[i]? = some a) : atS l i = a := by unfold atS; rw [h]; rfl
open Classical in
noncomputable def mergeS (l : List Span) : List Span × Bool :=
  if h : ∃ p : Nat × Nat, PairAt l p.1 p.2 then ([hullS (atS l (Classical.choose h).1) (atS l (Classical.choose h).2)] ++ restS l (Classical.choose h).1 (Classical.choose h).2 l.length, true) else (l, false)
theorem mergeS_hit {l : List Span} {i k : Nat} {a b : Span} (hi : l[i]? = some a) (hk : l[k]? = some b) (h : PairAt l i k) : mergeS l = ([hullS a b] ++ restS l i k l.length, true) := by
  have hh : ∃ p : Nat × Nat, PairAt l p.1 p.2 := ⟨(i, k), h⟩
  unfold mergeS; rw [dif_pos hh]
  obtain ⟨e1, e2⟩ := pairAt_uniq (Classical.choose_spec hh) h
  rw [e1, e2, atS_eq hi, atS_eq hk]
theorem mergeS_miss {l : List Span} {i : Nat} (h : apart l i) (hi : l.length ≤ i) : mergeS l = (l, false) := by
  unfold mergeS; rw [dif_neg]
  rintro ⟨⟨j, k⟩, h1, ⟨a, b, h2, h3, h4⟩, _⟩
  have hj := (List.getElem?_eq_some_iff.1 h2).1
  rw [h j k a b (by simp only at hj ⊢; omega) h1 h2 h3] at h4; cases h4
/-- what a round leaves -/
theorem mergeS_fact {l : List Span} : (okL l → okL (mergeS l).1) ∧ (okL l → ∀ x, cov l x ↔ cov (mergeS l).1 x) ∧ ((mergeS l).2 = true → (mergeS l).1.length + 1 = l.length) ∧ ((mergeS l).2 = false → (mergeS l).1 = l ∧ l.Pairwise fun a b => overS2 a b = false) := by
  by_cases hh : ∃ p : Nat × Nat, PairAt l p.1 p.2
  · obtain ⟨⟨i, k⟩, h⟩ := hh
    obtain ⟨h1, ⟨a, b, h2, h3, h4⟩, h5, h6⟩ := id h
    rw [mergeS_hit h2 h3 h]
    obtain ⟨m1, m2, m3⟩ := merged h2 h3 h1 h4
    exact ⟨m1, m2, fun _ => m3, fun h => by cases h⟩
  · have e : mergeS l = (l, false) := by unfold mergeS; rw [dif_neg hh]
    rw [e]
    refine ⟨id, fun _ _ => Iff.rfl, fun h => (by cases h), fun _ => ⟨rfl, ?_⟩⟩
    refine apart_pair (i := l.length) ?_ (Nat.le_refl _)
    -- the first pair
    intro j m a b hj hjm ha hb
    apply Classical.byContradiction
    intro ho
    have ho : overS2 a b = true := by simpa using ho
    have hex : ∃ j, ∃ m a b, j < m ∧ l[j]? = some a ∧ l[m]? = some b ∧ overS2 a b = true := ⟨j, m, a, b, hjm, ha, hb, ho⟩
    obtain ⟨j0, ⟨hp, hmin⟩⟩ : ∃ j0, (∃ m a b, j0 < m ∧ l[j0]? = some a ∧ l[m]? = some b ∧ overS2 a b = true) ∧ ∀ j : Nat, j < j0 → ¬ ∃ m a b, j < m ∧ l[j]? = some a ∧ l[m]? = some b ∧ overS2 a b = true := by
      clear hb ha hjm hj ho
      obtain ⟨j, hj⟩ := hex
      induction j using Nat.strongRecOn with
      | _ j ih =>
        by_cases h : ∃ j', j' < j ∧ ∃ m a b, j' < m ∧ l[j']? = some a ∧ l[m]? = some b ∧ overS2 a b = true
        · obtain ⟨j', h1, h2⟩ := h; exact ih j' h1 h2
        · exact ⟨j, hj, fun j' h1 h2 => h ⟨j', h1, h2⟩⟩
    obtain ⟨m0, hm0⟩ := hp
    have hex2 : ∃ m0, (∃ a b, j0 < m0 ∧ l[j0]? = some a ∧ l[m0]? = some b ∧ overS2 a b = true) ∧ ∀ m : Nat, m < m0 → ¬ ∃ a b, j0 < m ∧ l[j0]? = some a ∧ l[m]? = some b ∧ overS2 a b = true := by
      clear hmin
      induction m0 using Nat.strongRecOn with
      | _ m ih =>
        by_cases h : ∃ m', m' < m ∧ ∃ a b, j0 < m' ∧ l[j0]? = some a ∧ l[m']? = some b ∧ overS2 a b = true
        · obtain ⟨m', h1, h2⟩ := h; exact ih m' h1 h2
        · exact ⟨m, hm0, fun m' h1 h2 => h ⟨m', h1, h2⟩⟩
    obtain ⟨m1, ⟨a1, b1, q1, q2, q3, q4⟩, hmin2⟩ := hex2
    refine hh ⟨(j0, m1), q1, ⟨a1, b1, q2, q3, q4⟩, fun j m a b h1 h2 h3 h4 => ?_, fun m a b h1 h2 h3 h4 => ?_⟩
    · rw [← Bool.not_eq_true]; exact fun h => hmin j h1 ⟨m, a, b, h2, h3, h4, h⟩
    · rw [← Bool.not_eq_true]; exact fun h => hmin2 m h2 ⟨a, b, h1, h3, h4, h⟩
theorem all_canS {l m : List Span} (hm : okL m) (hc : ∀ x, cov l x ↔ cov m x) (hp : m.Pairwise fun a b => overS2 a b = false) : sortV cmpSt m = canS l := by
  obtain ⟨h1, h2⟩ := canon_sort hm hp
  exact (canS_eq h1 fun x => (hc x).trans (h2 x)).symm
theorem canS_times {gap : Int} (hg : 1 ≤ gap) (ts : List Int) : canS (ts.map (spanT gap)) = ofT gap (sortT ts) := canS_joined (okL_spans hg ts) (ofT_joined hg ts)
theorem okL_ins {l : List Span} {o : Span} (h : canon l) (ho : o.start < o.fin) : okL (insR l o ++ [insN l o]) := fun a ha => by
  rcases List.mem_append.1 ha with ha | ha
  · exact (insR_canon h).1 a ha
  · rw [List.mem_singleton.1 ha]; exact insN_ok ho
theorem canS_ins {l : List Span} {o : Span} (h : canon l) (ho : o.start < o.fin) : canS (insR l o ++ [insN l o]) = insA l o := canS_joined (okL_ins h ho) (insA_joined h ho)
/-! ### The span of a time -/
def findS (t : Int) (l : List Span) : Span × Bool := match l.find? (inS t) with
  | some s => (s, true)
  | none => (⟨0, 0⟩, false)
theorem findS_hit {t : Int} {l : List Span} {i : Nat} {s : Span} (h : l[i]? = some s) (hs : inS t s = true) (hb : ∀ j u, j < i → l[j]? = some u → inS t u = false) : findS t l = (s, true) := by
  unfold findS
  have : l.find? (inS t) = some s := by
    rw [List.find?_eq_some_iff_getElem]
    obtain ⟨h1, h2⟩ := List.getElem?_eq_some_iff.1 h
    refine ⟨hs, i, h1, h2, fun j hj => ?_⟩
    rw [hb j _ hj (List.getElem?_eq_getElem (by omega))]; rfl
  rw [this]
theorem findS_miss {t : Int} {l : List Span} {i : Nat} (hi : l.length ≤ i) (hb : ∀ j u, j < i → l[j]? = some u → inS t u = false) : findS t l = (⟨0, 0⟩, false) := by
  unfold findS
  have : l.find? (inS t) = none := by
    rw [List.find?_eq_none]
    intro x hx
    obtain ⟨j, hj⟩ := List.getElem?_of_mem hx
    rw [hb j x (by have := (List.getElem?_eq_some_iff.1 hj).1; omega) hj]; decide
  rw [this]
theorem findS_ix {t : Int} {l : List Span} {i : Nat} (h : ixF (inS t) l = (i : Int)) : ∃ s, l[i]? = some s ∧ findS t l = (s, true) := by
  cases hf : l.findIdx? (inS t) with
  | none => rw [(ixF_none hf).1] at h; omega
  | some k =>
    rw [(ixF_some hf).1] at h
    obtain ⟨h1, ⟨x, h2, h3⟩, h4⟩ := findIdx_some_at hf
    rw [show i = k by omega]
    exact ⟨x, h2, findS_hit h2 h3 h4⟩
theorem findS_no {t : Int} {l : List Span} (h : ixF (inS t) l < 0) : findS t l = (⟨0, 0⟩, false) := by
  cases hf : l.findIdx? (inS t) with
  | none =>
    refine findS_miss (Nat.le_refl _) fun j u _ hu => ?_
    have := List.findIdx?_eq_none_iff.1 hf u (List.mem_of_getElem? hu)
    simpa using this
  | some k => rw [(ixF_some hf).1] at h; omega
theorem findS_mem {t : Int} {l : List Span} {s : Span} (h : canon l) (hs : s ∈ l) (ht : inS t s = true) : findS t l = (s, true) := by
  obtain ⟨i, hi⟩ := List.getElem?_of_mem hs
  refine findS_hit hi ht fun j u hj hu => ?_
  obtain ⟨h1, h2⟩ := List.getElem?_eq_some_iff.1 hu
  obtain ⟨h3, h4⟩ := List.getElem?_eq_some_iff.1 hi
  have := List.pairwise_iff_getElem.1 h.2 j i h1 h3 hj
  rw [h2, h4] at this
  simp [inS] at ht ⊢; omega
/-! ### What the walks need -/
theorem okAt_go {gap : Int} {l : List Span} {i : Nat} {s : Span} (hx : l[i]? = some s) (h1 : s.start < s.fin) (h2 : gap ≤ s.fin - s.start) (h3 : ∀ j q, j + 1 = i → l[j]? = some q → q.fin ≤ s.start) : okAt gap l i = true := by
  rcases Nat.eq_zero_or_pos i with rfl | h0
  · rw [okAt_zero hx]; simp [h1, h2]
  · have hl := (List.getElem?_eq_some_iff.1 hx).1
    have hq : l[i - 1]? = some l[i - 1] := List.getElem?_eq_getElem (by omega)
    rw [okAt_succ h0 hx hq]
    simp [h1, h2, h3 (i - 1) _ (by omega) hq]
theorem okAt_no3 {gap : Int} {l : List Span} {i : Nat} {s q : Span} (hx : l[i]? = some s) (h0 : 0 < i) (hq : l[i - 1]? = some q) (h : s.start < q.fin) : okAt gap l i = false := by
  rw [okAt_succ h0 hx hq]; simp [show ¬ q.fin ≤ s.start by omega]
theorem prev_go {l : List Span} {i : Nat} {s q : Span} (hq : l[i - 1]? = some q) (h : q.fin ≤ s.start) : ∀ j q, j + 1 = i → l[j]? = some q → q.fin ≤ s.start := by
  rintro j q' rfl hj
  rw [show j + 1 - 1 = j by omega, hj] at hq; cases hq; exact h
theorem right_prev {gap : Int} {l : List Span} {i : Nat} {s q : Span} (h : rightN gap l i = true) (hx : l[i]? = some s) (hq : l[i - 1]? = some q) (h0 : 0 < i) : q.start < q.fin :=
  (okAt_fact hq (rightN_at.1 h (i - 1) (by omega))).1
def subV (a b : Int) : Int × Bool := if -9223372036854775808 ≤ a - b ∧ a - b ≤ 9223372036854775807 then (a - b, true) else (0, false)
theorem subV_t {a b : Int} (ha : in64 a) (hb : in64 b) (h : (decide (a ≥ 0) == decide (b ≥ 0)) = true ∨ (decide (w64 (a - b) ≥ 0) == decide (a ≥ 0)) = true) : subV a b = (w64 (a - b), true) := by
  have hh : -9223372036854775808 ≤ a - b ∧ a - b ≤ 9223372036854775807 := by
    unfold in64 at *; unfold w64 at h
    simp only [beq_iff_eq, decide_eq_decide] at h
    rcases h with h | h
    · by_cases h1 : a ≥ 0
      · have := h.1 h1; omega
      · have : ¬ b ≥ 0 := fun h2 => h1 (h.2 h2)
        omega
    · by_cases h1 : a ≥ 0
      · have := h.2 h1; omega
      · have : ¬ (a - b + 9223372036854775808) % 18446744073709551616 - 9223372036854775808 ≥ 0 := fun h2 => h1 (h.1 h2)
        omega
  unfold subV; rw [if_pos hh]
  have : w64 (a - b) = a - b := by unfold w64; omega
  rw [this]
theorem subV_f {a b : Int} (ha : in64 a) (hb : in64 b) (h1 : (decide (a ≥ 0) == decide (b ≥ 0)) = false) (h2 : (decide (w64 (a - b) ≥ 0) == decide (a ≥ 0)) = false) : subV a b = (0, false) := by
  have hh : ¬ (-9223372036854775808 ≤ a - b ∧ a - b ≤ 9223372036854775807) := by
    intro hin
    have : w64 (a - b) = a - b := by unfold w64; omega
    rw [this] at h2
    rw [beq_eq_false_iff_ne] at h1 h2
    by_cases p : a ≥ 0 <;> by_cases q : b ≥ 0 <;> by_cases r : a - b ≥ 0 <;> simp [p, q, r] at h1 h2 <;> omega
  unfold subV; rw [if_neg hh]
theorem subV_long {a b g : Int} (hab : b < a) (hg : g ≤ 9223372036854775807) (h : (subV a b).2 = false ∨ ¬ (subV a b).1 < g) : g ≤ a - b := by
  unfold subV at h
  split at h
  · simpa using h
  · omega
theorem subV_short {a b g : Int} (h1 : (subV a b).2 = true) (h2 : (subV a b).1 < g) : a - b < g := by
  unfold subV at h1 h2
  split at h1
  · rename_i h; rw [if_pos h] at h2; exact h2
  · cases h1
theorem u64_diff {a b : Int} (ha : in64 a) (hb : in64 b) (h : b ≤ a) : IntKind.u64.wrap (IntKind.u64.wrap a - IntKind.u64.wrap b) = a - b := by
  have e : ∀ n : Int, IntKind.u64.wrap n = n % 18446744073709551616 := fun n => by simp [IntKind.wrap, IntKind.bits, IntKind.signed]
  rw [e, e, e]
  unfold in64 at *
  omega
/-- a gap, a time and spans that may be -/
def okI (gap t : Int) (l : List Span) : Bool := mayB gap [t] && rightB gap l
theorem okI_may {gap t : Int} {l : List Span} (h : okI gap t l = true) : mayB gap [t] = true := by simp only [okI, Bool.and_eq_true] at h; exact h.1
theorem okI_right {gap t : Int} {l : List Span} (h : okI gap t l = true) : rightB gap l = true := by simp only [okI, Bool.and_eq_true] at h; exact h.2
theorem okI_gap {gap t : Int} {l : List Span} (h : okI gap t l = true) : gapB gap = true ∧ timeB t = true := by
  have := okI_may h
  simpa [mayB] using this
theorem insR_up {g : Int} {l : List Span} {o : Span} (h : rightB g l = true) : (insR l o).Pairwise fun a b => a.start ≤ b.start := by
  have hc := insR_canon (o := o) (right_canon h)
  refine (List.Pairwise.and_mem.1 hc.2).imp ?_
  rintro a b ⟨ha, hb, h⟩
  have := hc.1 a ha; omega
theorem cmpI_neg' {a b : Int} : cmpI a b < 0 ↔ a < b := by unfold cmpI; (repeat split) <;> omega
theorem up_below {l : List Span} {t : Int} {h : Nat} {s : Span} (hu : l.Pairwise fun a b => a.start ≤ b.start) (hx : l[h]? = some s) (hs : s.start < t) : ∀ j u, j < h + 1 → l[j]? = some u → u.start < t := by
  intro j u hj hu2
  obtain ⟨h1, h2⟩ := List.getElem?_eq_some_iff.1 hx
  obtain ⟨h3, h4⟩ := List.getElem?_eq_some_iff.1 hu2
  rcases Nat.lt_or_ge j h with h5 | h5
  · have := List.pairwise_iff_getElem.1 hu j h h3 h1 h5
    rw [h2, h4] at this; omega
  · have : j = h := by omega
    subst this; rw [hx] at hu2; cases hu2; exact hs
theorem up_above {l : List Span} {t : Int} {h : Nat} {s : Span} (hu : l.Pairwise fun a b => a.start ≤ b.start) (hx : l[h]? = some s) (hs : ¬ s.start < t) : ∀ j u, h ≤ j → l[j]? = some u → ¬ u.start < t := by
  intro j u hj hu2
  obtain ⟨h1, h2⟩ := List.getElem?_eq_some_iff.1 hx
  obtain ⟨h3, h4⟩ := List.getElem?_eq_some_iff.1 hu2
  rcases Nat.lt_or_ge h j with h5 | h5
  · have := List.pairwise_iff_getElem.1 hu h j h1 h3 h5
    rw [h2, h4] at this; omega
  · have : j = h := by omega
    subst this; rw [hx] at hu2; cases hu2; exact hs
theorem merge_less {l : List Span} {m : Bool} (h : m = true) : 2 * (mergeS l).1.length + (mergeS l).2.toNat < 2 * l.length + m.toNat := by
  obtain ⟨_, _, h3, h4⟩ := mergeS_fact (l := l)
  subst h
  cases e : (mergeS l).2 with
  | true => have := h3 e; simp; omega
  | false => rw [(h4 e).1]; simp
theorem merge_le {l : List Span} : (mergeS l).1.length ≤ l.length := by
  obtain ⟨_, _, h3, h4⟩ := mergeS_fact (l := l)
  cases e : (mergeS l).2 with
  | true => have := h3 e; omega
  | false => rw [(h4 e).1]; exact Nat.le_refl _
theorem merge_pw {l : List Span} (h : (mergeS l).2 = false) : (mergeS l).1.Pairwise fun a b => overS2 a b = false := by
  obtain ⟨_, _, h3, h4⟩ := mergeS_fact (l := l)
  rw [(h4 h).1]; exact (h4 h).2
theorem mayB_at {g t : Int} {ts : List Int} {i : Nat} (h : mayB g ts = true) (hx : ts[i]? = some t) : timeB t = true := by
  simp only [mayB, Bool.and_eq_true, List.all_eq_true] at h; exact h.2 t (List.mem_of_getElem? hx)
theorem mayB_gapB {g : Int} {ts : List Int} (h : mayB g ts = true) : gapB g = true := by
  simp only [mayB, Bool.and_eq_true] at h; exact h.1
theorem all_step {ts : List Int} {i : Nat} {t : Int} (h : (ts.take i).all timeB = true) (hx : ts[i]? = some t) (ht : timeB t = true) : (ts.take (i + 1)).all timeB = true := by
  rw [← take_snoc hx, List.all_append, h]; simp [ht]
theorem mayB_go {g : Int} {ts : List Int} {i : Nat} (hg : gapB g = true) (h : (ts.take i).all timeB = true) (hi : ts.length ≤ i) : mayB g ts = true := by
  rw [List.take_of_length_le hi] at h; simp [mayB, hg, h]
theorem spans_snoc {gap t : Int} {ts : List Int} {i : Nat} (hx : ts[i]? = some t) : (ts.take (i + 1)).map (spanT gap) = (ts.take i).map (spanT gap) ++ [(⟨t, t + gap⟩ : Span)] := by
  rw [← take_snoc hx, List.map_append]; rfl
theorem cmpSt_go {x y : Span} (h : y.start > x.start) : cmpSt x y < 0 := (cmpSt_lt x y).2 h
theorem cmpSt_stop {x y : Span} (h : ¬ y.start > x.start) : ¬ cmpSt x y < 0 := fun e => h ((cmpSt_lt x y).1 e)
theorem okI_no {gap t : Int} {l : List Span} (h : okI gap t l = false) (hr : rightB gap l = true) (hm : mayB gap [t] = true) : False := by simp [okI, hr, hm] at h
theorem mayB_two {gap t : Int} (hg : gapB gap = true) (ht : timeB t = true) : mayB gap [t] = true := by simp [mayB, hg, ht]
end Tp
