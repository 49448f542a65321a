/- What the walk of the law on times needs: plain data. -/
import Derived.Test.YthihknbbibgchaaTrSesJ
import Derived.Test.YthihknbbibgchaaTrAggS
set_option linter.all false
namespace Tp
open Go
theorem timT_snoc {l : List Int} {i : Nat} {x : Int} (hx : l[i]? = some x) : (l.take (i + 1)).map timT = (l.take i).map timT ++ [x.tmod 1099511627776] := by
  rw [← take_snoc hx, List.map_append]; rfl
theorem gapT_parts (g : Int) : (-1048576 < g.tmod 1048576 ∧ g.tmod 1048576 < 1048576) ∧ 0 ≤ (g.tmod 1048576 + 1048576).tmod 1048576 ∧ (g.tmod 1048576 + 1048576).tmod 1048576 < 1048576 := by
  have h1 := Int.tmod_lt_of_pos g (show (0 : Int) < 1048576 by decide); have h2 := Int.lt_tmod_of_pos g (show (0 : Int) < 1048576 by decide)
  exact ⟨⟨by omega, by omega⟩, Int.tmod_nonneg _ (by omega), Int.tmod_lt_of_pos _ (by decide)⟩
theorem tmod_two (a b n : Nat) : ((a : Int) + (b : Int)).tmod (n : Int) = (((a + b) % n : Nat) : Int) := by
  rw [← Int.natCast_add]; exact (Int.ofNat_tmod _ _).symm
theorem sesT_nil (gap : Int) (ts : List Int) (k : Nat) : sesT gap ((rotT ts k).take 0) = [] := by
  rw [List.take_zero]; simp [sesT, ofT, sortT]
theorem rot_mem {ts : List Int} {k i : Nat} : ∀ t, t ∈ (rotT ts k).take i → t ∈ ts := fun t h => (rotT_perm ts k).mem_iff.1 (List.mem_of_mem_take h)
theorem rot_in {l : List Int} {k i : Nat} : ∀ t, t ∈ (rotT (l.map timT) k).take i → -1099511627776 ≤ t ∧ t ≤ 1099511627776 := fun t h => timT_all l t (rot_mem t h)
theorem rot_len {gap : Int} (hg : 1 ≤ gap) (ts : List Int) (k i : Nat) : (sesT gap ((rotT ts k).take i)).length ≤ i := Nat.le_trans (sesT_len hg _) (by rw [List.length_take]; omega)
theorem rot_at {ts : List Int} {k i : Nat} {x : Int} (hk : k < ts.length) (hi : i < ts.length) (h : ts[(i + k) % ts.length]? = some x) : (rotT ts k)[i]? = some x := by rw [rotT_at hk hi, h]
theorem rot_last {ts : List Int} {k i : Nat} {x : Int} (h : (rotT ts k)[i]? = some x) : x ∈ (rotT ts k).take (i + 1) := by rw [← take_snoc h]; simp
theorem okI_ses {gap t : Int} {ts : List Int} (hg : 1 ≤ gap ∧ gap ≤ 1048576) (ht : -1099511627776 ≤ t ∧ t ≤ 1099511627776) : okI gap t (sesT gap ts) = true := by
  unfold okI
  rw [sesT_right hg.1 ts, mayB_of hg (ts := [t]) (fun u hu => by rw [List.mem_singleton.1 hu]; exact ht)]; rfl
theorem rot_ins {gap : Int} (hg : 1 ≤ gap) {ts : List Int} {k i : Nat} {t : Int} (h : (rotT ts k)[i]? = some t) : insA (sesT gap ((rotT ts k).take i)) (⟨t, t + gap⟩ : Span) = sesT gap ((rotT ts k).take (i + 1)) := rot_step hg h
theorem rot_find {gap : Int} (hg : 1 ≤ gap) {ts : List Int} {k i : Nat} {t : Int} (h : (rotT ts k)[i]? = some t) : findS t (sesT gap ((rotT ts k).take (i + 1))) = (insN (sesT gap ((rotT ts k).take i)) (⟨t, t + gap⟩ : Span), true) := by
  rw [← rot_ins hg h]; exact find_ins hg _
theorem rot_count {gap : Int} (hg : 1 ≤ gap) {ts : List Int} {k i : Nat} {t : Int} (h : (rotT ts k)[i]? = some t) : ((sesT gap ((rotT ts k).take (i + 1))).length : Int) = ((sesT gap ((rotT ts k).take i)).length : Int) - (insJ (sesT gap ((rotT ts k).take i)) (⟨t, t + gap⟩ : Span)).length + 1 := by
  rw [← rot_ins hg h]; exact ins_count _ _
theorem rot_again {gap : Int} (hg : 1 ≤ gap) {ts : List Int} {k i : Nat} {t : Int} (h : (rotT ts k)[i]? = some t) : insA (sesT gap ((rotT ts k).take (i + 1))) (⟨t, t + gap⟩ : Span) = sesT gap ((rotT ts k).take (i + 1)) := sesT_again hg (rot_last h)
theorem rot_end {gap : Int} (hg : 1 ≤ gap) {ts : List Int} {k i : Nat} (hi : ts.length ≤ i) : sesT gap ((rotT ts k).take i) = sesT gap ts := by
  rw [List.take_of_length_le (by rw [rotT_len]; exact hi)]; exact sesT_perm hg (rotT_perm ts k)
theorem anyB_step {α : Type} {l : List α} {n : Nat} {x : α} {p : α → Prop} {s s' : Bool} (h : ∀ j t, j < n → l[j]? = some t → p t → s = true) (hx : l[n]? = some x) (h1 : s = true → s' = true) (h2 : p x → s' = true) : ∀ j t, j < n + 1 → l[j]? = some t → p t → s' = true := fun j t hj ht hp => by
  rcases Nat.lt_or_ge j n with h3 | h3
  · exact h1 (h j t h3 ht hp)
  · have : j = n := by omega
    subst this; rw [hx] at ht; cases ht; exact h2 hp
theorem anyB_end {α : Type} {l : List α} {n : Nat} {x : α} {p : α → Prop} {s : Bool} (h : ∀ j t, j < n → l[j]? = some t → p t → s = true) (hn : l.length ≤ n) (hm : x ∈ l) (hp : p x) : s = true := by
  obtain ⟨j, hj⟩ := List.getElem?_of_mem hm
  exact h j x (by have := (List.getElem?_eq_some_iff.1 hj).1; omega) hj hp
theorem canon_next {l : List Span} (hc : canon l) {i : Nat} {p s : Span} (h0 : 0 < i) (hp : l[i - 1]? = some p) (hx : l[i]? = some s) : p.fin ≤ s.start := by
  obtain ⟨h1, h2⟩ := List.getElem?_eq_some_iff.1 hp
  obtain ⟨h3, h4⟩ := List.getElem?_eq_some_iff.1 hx
  have := List.pairwise_iff_getElem.1 hc.2 (i - 1) i h1 h3 (by omega)
  rwa [h2, h4] at this
theorem cnt_hit {gap t : Int} {l : List Span} {k c : Nat} {s : Span} (hc : c = cntT gap t l k) (hx : l[k]? = some s) (h1 : s.start ≤ t) (h2 : t + gap ≤ s.fin) : c + 1 = cntT gap t l (k + 1) := by
  rw [cntT_hit hx (by simp [holdT, h1, h2]), hc]
theorem cnt_miss {gap t : Int} {l : List Span} {k c : Nat} {s : Span} (hc : c = cntT gap t l k) (hx : l[k]? = some s) (h : ¬ (s.start ≤ t ∧ t + gap ≤ s.fin)) : c = cntT gap t l (k + 1) := by
  rw [cntT_miss hx (by rw [← Bool.not_eq_true]; simpa [holdT] using h), hc]
def bndL : List Int := [0, 1, -1, 1048576, 1048577, 1099511627776, -1099511627776, 1099511627777, -1099511627777, 9223372036854775807, -9223372036854775808]
theorem bnd_in : ∀ x, x ∈ bndL → in64 x := by decide
theorem odd_in {x y z : Int} (hx : in64 x) (hy : in64 y) (hz : in64 z) : ∀ s, s ∈ ([⟨x, y⟩, ⟨y, z⟩] : List Span) → in64 s.start ∧ in64 s.fin := fun s hs => by
  rcases List.mem_cons.1 hs with rfl | hs
  · exact ⟨hx, hy⟩
  · rw [List.mem_singleton.1 hs]; exact ⟨hy, hz⟩
theorem odd1_in {x y : Int} (hx : in64 x) (hy : in64 y) : ∀ s, s ∈ ([⟨x, y⟩] : List Span) → in64 s.start ∧ in64 s.fin := fun s hs => by
  rw [List.mem_singleton.1 hs]; exact ⟨hx, hy⟩
theorem times3 {a b c : Int} (ha : 0 ≤ a ∧ a ≤ 1000) (hb : 0 ≤ b ∧ b ≤ 1000) (hc : 0 ≤ c ∧ c ≤ 1000) : ∀ t, t ∈ ([a, b, c] : List Int) → -1099511627776 ≤ t ∧ t ≤ 1099511627776 := fun t ht => by
  simp only [List.mem_cons, List.not_mem_nil, or_false] at ht
  rcases ht with rfl | rfl | rfl <;> omega
end Tp
