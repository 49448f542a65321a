/- Spans, joined where they overlap: plain data. Sessions hang on what is covered alone. -/
import Derived.Test.YthihknbbibgchaaTrAggR
set_option linter.all false
namespace Tp
open Go
structure Span where
  start : Int
  fin : Int
deriving DecidableEq, Inhabited
def spanE (s : Span) : List Value := [.int .i64 s.start, .int .i64 s.fin]
theorem spanE_len (s : Span) : (spanE s).length = 2 := rfl
theorem spanE_cel (s : Span) : Step.Cellish (spanE s) := cel_cons rfl (cel_cons rfl cel_nil)
theorem span_eqB (a b : Span) : ((a.start : Int) == (b.start : Int) && ((a.fin : Int) == (b.fin : Int) && true)) = decide (a = b) := by
  cases a; cases b
  rw [Bool.eq_iff_iff]; simp
def overS2 (a b : Span) : Bool := decide (a.start < b.fin) && decide (b.start < a.fin)
theorem overS2_iff {a b : Span} : overS2 a b = true ↔ a.start < b.fin ∧ b.start < a.fin := by simp [overS2]
theorem overS2_comm (a b : Span) : overS2 a b = overS2 b a := by simp [overS2, Bool.and_comm]
/-- what lies strictly within one of the spans (twice as fine) -/
def cov (l : List Span) (x : Int) : Prop := ∃ a, a ∈ l ∧ 2 * a.start < x ∧ x < 2 * a.fin
def okL (l : List Span) : Prop := ∀ a, a ∈ l → a.start < a.fin
/-- sessions: rising, and none overlaps another -/
def canon (l : List Span) : Prop := okL l ∧ l.Pairwise fun a b => a.fin ≤ b.start
theorem cov_cons {a : Span} {l : List Span} {x : Int} : cov (a :: l) x ↔ (2 * a.start < x ∧ x < 2 * a.fin) ∨ cov l x := by
  simp [cov]
theorem cov_nil {x : Int} : ¬ cov [] x := by rintro ⟨a, h, _⟩; cases h
theorem cov_app {l m : List Span} {x : Int} : cov (l ++ m) x ↔ cov l x ∨ cov m x := by
  induction l with
  | nil => simp [cov_nil]
  | cons a l ih => rw [List.cons_append, cov_cons, cov_cons, ih, or_assoc]
theorem cov_perm {l m : List Span} (h : l.Perm m) (x : Int) : cov l x ↔ cov m x := by
  constructor <;> rintro ⟨a, ha, hx⟩
  · exact ⟨a, h.mem_iff.1 ha, hx⟩
  · exact ⟨a, h.mem_iff.2 ha, hx⟩
theorem canon_cons {a : Span} {l : List Span} (h : canon (a :: l)) : a.start < a.fin ∧ (∀ b, b ∈ l → a.fin ≤ b.start) ∧ canon l := by
  obtain ⟨h1, h2⟩ := h
  rw [List.pairwise_cons] at h2
  exact ⟨h1 a (List.mem_cons_self ..), h2.1, fun b hb => h1 b (List.mem_cons_of_mem _ hb), h2.2⟩
theorem cov_above {a : Span} {l : List Span} (h : ∀ b, b ∈ l → a.fin ≤ b.start) {x : Int} (hx : cov l x) : 2 * a.fin < x := by
  obtain ⟨b, hb, h1, h2⟩ := hx
  have := h b hb; omega
theorem canon_unique : ∀ {l m : List Span}, canon l → canon m → (∀ x, cov l x ↔ cov m x) → l = m
  | [], [], _, _, _ => rfl
  | [], b :: m, _, hm, h => by
    obtain ⟨h1, _, _⟩ := canon_cons hm
    exact absurd ((h (2 * b.start + 1)).2 (cov_cons.2 (.inl ⟨by omega, by omega⟩))) cov_nil
  | a :: l, [], hl, _, h => by
    obtain ⟨h1, _, _⟩ := canon_cons hl
    exact absurd ((h (2 * a.start + 1)).1 (cov_cons.2 (.inl ⟨by omega, by omega⟩))) cov_nil
  | a :: l, b :: m, hl, hm, h => by
    obtain ⟨a1, a2, a3⟩ := canon_cons hl
    obtain ⟨b1, b2, b3⟩ := canon_cons hm
    have c1 : ∀ x, cov l x → 2 * a.fin < x := fun x => cov_above a2
    have c2 : ∀ x, cov m x → 2 * b.fin < x := fun x => cov_above b2
    have hA : ∀ x, (2 * a.start < x ∧ x < 2 * a.fin) ∨ cov l x ↔ (2 * b.start < x ∧ x < 2 * b.fin) ∨ cov m x := fun x => by rw [← cov_cons, ← cov_cons]; exact h x
    have e1 : a.start = b.start := by
      have p1 := (hA (2 * a.start + 1)).1 (.inl ⟨by omega, by omega⟩)
      have p2 := (hA (2 * b.start + 1)).2 (.inl ⟨by omega, by omega⟩)
      have q1 : 2 * b.start < 2 * a.start + 1 := by
        rcases p1 with p | p
        · exact p.1
        · have := c2 _ p; omega
      have q2 : 2 * a.start < 2 * b.start + 1 := by
        rcases p2 with p | p
        · exact p.1
        · have := c1 _ p; omega
      omega
    have e2 : a.fin = b.fin := by
      rcases Int.lt_trichotomy a.fin b.fin with hlt | heq | hgt
      · exfalso
        have p := (hA (2 * a.fin)).2 (.inl ⟨by omega, by omega⟩)
        rcases p with p | p
        · omega
        · have := c1 _ p; omega
      · exact heq
      · exfalso
        have p := (hA (2 * b.fin)).1 (.inl ⟨by omega, by omega⟩)
        rcases p with p | p
        · omega
        · have := c2 _ p; omega
    have e : a = b := by cases a; cases b; simp_all
    subst e
    have ht : l = m := canon_unique a3 b3 fun x => by
      constructor
      · intro hx
        have := c1 x hx
        rcases (hA x).1 (.inr hx) with p | p
        · omega
        · exact p
      · intro hx
        have := c2 x hx
        rcases (hA x).2 (.inr hx) with p | p
        · omega
        · exact p
    rw [ht]
/-! ### Two are made one -/
def hullS (a b : Span) : Span := ⟨min a.start b.start, max a.fin b.fin⟩
theorem cov_hull {a b : Span} (ha : a.start < a.fin) (hb : b.start < b.fin) (h : overS2 a b = true) (x : Int) : (2 * (hullS a b).start < x ∧ x < 2 * (hullS a b).fin) ↔ (2 * a.start < x ∧ x < 2 * a.fin) ∨ (2 * b.start < x ∧ x < 2 * b.fin) := by
  rw [overS2_iff] at h
  simp only [hullS]; omega
/-- all but the elements i and k, of the first n -/
def restS (l : List Span) (i k : Nat) : Nat → List Span
  | 0 => []
  | n + 1 => if n = i ∨ n = k then restS l i k n else match l[n]? with
    | some x => restS l i k n ++ [x]
    | none => restS l i k n
theorem restS_hit {l : List Span} {i k n : Nat} {x : Span} (hx : l[n]? = some x) (h1 : ¬ n = i) (h2 : ¬ n = k) : restS l i k (n + 1) = restS l i k n ++ [x] := by
  rw [restS, if_neg (by omega), hx]
theorem restS_pass {l : List Span} {i k n : Nat} (h : n = i ∨ n = k) : restS l i k (n + 1) = restS l i k n := by rw [restS, if_pos h]
theorem ite_step (i n : Nat) : (if i < n + 1 then 1 else 0 : Nat) = (if i < n then 1 else 0) + (if n = i then 1 else 0) := by
  rcases Nat.lt_trichotomy i n with h | h | h
  · rw [if_pos (by omega), if_pos h, if_neg (by omega)]
  · rw [if_pos (by omega), if_neg (by omega), if_pos h.symm]
  · rw [if_neg (by omega), if_neg (by omega), if_neg (by omega)]
theorem restS_len {l : List Span} {i k : Nat} (n : Nat) (hn : n ≤ l.length) (hik : i < k) : (restS l i k n).length + (if i < n then 1 else 0) + (if k < n then 1 else 0) = n := by
  induction n with
  | zero => simp [restS]
  | succ n ih =>
    have ih := ih (by omega)
    rw [ite_step i n, ite_step k n]
    by_cases h : n = i ∨ n = k
    · rw [restS_pass h]
      rcases h with h | h
      · rw [if_pos h, if_neg (show ¬ n = k by omega)]; omega
      · rw [if_pos h, if_neg (show ¬ n = i by omega)]; omega
    · obtain ⟨x, hx⟩ : ∃ x, l[n]? = some x := ⟨_, List.getElem?_eq_getElem (by omega)⟩
      rw [restS_hit hx (by omega) (by omega), List.length_append, if_neg (show ¬ n = i by omega), if_neg (show ¬ n = k by omega), List.length_singleton]; omega
theorem restS_mem {l : List Span} {i k : Nat} {a : Span} (n : Nat) : a ∈ restS l i k n ↔ ∃ j, j < n ∧ j ≠ i ∧ j ≠ k ∧ l[j]? = some a := by
  induction n with
  | zero => simp [restS]
  | succ n ih =>
    by_cases h : n = i ∨ n = k
    · rw [restS_pass h, ih]
      constructor
      · rintro ⟨j, h1, h2⟩; exact ⟨j, by omega, h2⟩
      · rintro ⟨j, h1, h2, h3, h4⟩; exact ⟨j, by omega, h2, h3, h4⟩
    · cases hx : l[n]? with
      | none =>
        have : restS l i k (n + 1) = restS l i k n := by rw [restS, if_neg h, hx]
        rw [this, ih]
        constructor
        · rintro ⟨j, h1, h2⟩; exact ⟨j, by omega, h2⟩
        · rintro ⟨j, h1, h2, h3, h4⟩
          refine ⟨j, ?_, h2, h3, h4⟩
          rcases Nat.lt_or_ge j n with h | h
          · exact h
          · have : j = n := by omega
            subst this; rw [hx] at h4; cases h4
      | some x =>
        rw [restS_hit hx (by omega) (by omega), List.mem_append, ih, List.mem_singleton]
        constructor
        · rintro (⟨j, h1, h2⟩ | rfl)
          · exact ⟨j, by omega, h2⟩
          · exact ⟨n, by omega, by omega, by omega, hx⟩
        · rintro ⟨j, h1, h2, h3, h4⟩
          rcases Nat.lt_or_ge j n with h | h
          · exact .inl ⟨j, h, h2, h3, h4⟩
          · have : j = n := by omega
            subst this; rw [hx] at h4; cases h4; exact .inr rfl
/-- no two overlap, of which the first stands ahead of i -/
def apart (l : List Span) (i : Nat) : Prop := ∀ j m a b, j < i → j < m → l[j]? = some a → l[m]? = some b → overS2 a b = false
/-- .. of i itself, with those ahead of k -/
def apart1 (l : List Span) (i k : Nat) : Prop := ∀ m a b, i < m → m < k → l[i]? = some a → l[m]? = some b → overS2 a b = false
theorem apart_zero (l : List Span) : apart l 0 := fun _ _ _ _ h => absurd h (Nat.not_lt_zero _)
theorem apart1_start (l : List Span) (i : Nat) : apart1 l i (i + 1) := fun _ _ _ h1 h2 => by omega
theorem apart1_step {l : List Span} {i k : Nat} {a b : Span} (h : apart1 l i k) (hi : l[i]? = some a) (hk : l[k]? = some b) (ho : overS2 a b = false) : apart1 l i (k + 1) := by
  intro m x y h1 h2 hx hy
  rcases Nat.lt_or_ge m k with h3 | h3
  · exact h m x y h1 h3 hx hy
  · have : m = k := by omega
    subst this; rw [hi] at hx; rw [hk] at hy; cases hx; cases hy; exact ho
theorem apart_step {l : List Span} {i k : Nat} (h : apart l i) (h1 : apart1 l i k) (hk : l.length ≤ k) : apart l (i + 1) := by
  intro j m a b h2 h3 ha hb
  rcases Nat.lt_or_ge j i with h4 | h4
  · exact h j m a b h4 h3 ha hb
  · have : j = i := by omega
    subst this
    exact h1 m a b h3 (by have := (List.getElem?_eq_some_iff.1 hb).1; omega) ha hb
theorem apart_pair {l : List Span} {i : Nat} (h : apart l i) (hi : l.length ≤ i) : l.Pairwise fun a b => overS2 a b = false := by
  rw [List.pairwise_iff_getElem]
  intro j m hj hm hjm
  exact h j m _ _ (by omega) hjm (List.getElem?_eq_getElem _) (List.getElem?_eq_getElem _)
/-- what one round of the reference leaves -/
structure Merged (l l' : List Span) : Prop where
  ok : okL l → okL l'
  cov : okL l → ∀ x, cov l x ↔ cov l' x
  len : l'.length + 1 = l.length
theorem merged {l : List Span} {i k : Nat} {a b : Span} (hi : l[i]? = some a) (hk : l[k]? = some b) (hik : i < k) (ho : overS2 a b = true) : Merged l ([hullS a b] ++ restS l i k l.length) := by
  have hkl := (List.getElem?_eq_some_iff.1 hk).1
  have hab : okL l → a.start < a.fin ∧ b.start < b.fin := fun h => ⟨h a (List.mem_of_getElem? hi), h b (List.mem_of_getElem? hk)⟩
  refine ⟨fun h => ?_, fun h x => ?_, ?_⟩
  · intro c hc
    rcases List.mem_append.1 hc with hc | hc
    · rw [List.mem_singleton.1 hc]
      obtain ⟨h1, h2⟩ := hab h
      simp only [hullS]; omega
    · obtain ⟨j, _, _, _, hj⟩ := (restS_mem _).1 hc
      exact h c (List.mem_of_getElem? hj)
  · obtain ⟨h1, h2⟩ := hab h
    rw [List.singleton_append, cov_cons, cov_hull h1 h2 ho]
    constructor
    · rintro ⟨c, hc, hx⟩
      obtain ⟨j, hj⟩ := List.getElem?_of_mem hc
      by_cases e1 : j = i
      · subst e1; rw [hi] at hj; cases hj; exact .inl (.inl hx)
      · by_cases e2 : j = k
        · subst e2; rw [hk] at hj; cases hj; exact .inl (.inr hx)
        · exact .inr ⟨c, (restS_mem _).2 ⟨j, (List.getElem?_eq_some_iff.1 hj).1, e1, e2, hj⟩, hx⟩
    · rintro ((hx | hx) | ⟨c, hc, hx⟩)
      · exact ⟨a, List.mem_of_getElem? hi, hx⟩
      · exact ⟨b, List.mem_of_getElem? hk, hx⟩
      · obtain ⟨j, _, _, _, hj⟩ := (restS_mem _).1 hc
        exact ⟨c, List.mem_of_getElem? hj, hx⟩
  · have := restS_len (l := l) (i := i) (k := k) _ (Nat.le_refl _) hik
    rw [if_pos (show i < l.length by omega), if_pos hkl] at this
    rw [List.length_append, List.length_singleton]; omega
end Tp
