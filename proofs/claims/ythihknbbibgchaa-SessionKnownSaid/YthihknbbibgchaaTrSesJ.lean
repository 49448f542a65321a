/- Spans that are the same; all of what the law asks of times: plain data. -/
import Derived.Test.YthihknbbibgchaaTrSesI
set_option linter.all false
namespace Tp
open Go
theorem eqS_1 {x y : Span} (h : ((x.start : Int) != (y.start : Int)) = true) : (!decide (x = y)) = true := by
  simp at h ⊢; rintro rfl; exact h rfl
theorem eqS_2 {x y : Span} (h : ((x.fin : Int) != (y.fin : Int)) = true) : (!decide (x = y)) = true := by
  simp at h ⊢; rintro rfl; exact h rfl
theorem eqS_f {x y : Span} (h1 : ((x.start : Int) != (y.start : Int)) = false) (h2 : ((x.fin : Int) != (y.fin : Int)) = false) : (!decide (x = y)) = false := by
  cases x; cases y; simp at *; exact ⟨h1, h2⟩
/-! ### Sessions of times, one by one -/
def sesT (gap : Int) (ts : List Int) : List Span := ofT gap (sortT ts)
theorem sesT_inv {gap : Int} (hg : 1 ≤ gap) (ts : List Int) : OfInv gap (sortT ts) (sesT gap ts) := ofT_inv hg (sortT_up ts)
theorem sesT_canon {gap : Int} (hg : 1 ≤ gap) (ts : List Int) : canon (sesT gap ts) := (sesT_inv hg ts).canon
theorem sesT_cov {gap : Int} (hg : 1 ≤ gap) (ts : List Int) (x : Int) : cov (ts.map (spanT gap)) x ↔ cov (sesT gap ts) x := ((ofT_joined hg ts) (okL_spans hg ts)).2 x
theorem sesT_eq {gap : Int} (hg : 1 ≤ gap) {ts : List Int} {l : List Span} (hc : canon l) (h : ∀ x, cov (ts.map (spanT gap)) x ↔ cov l x) : l = sesT gap ts :=
  canon_unique hc (sesT_canon hg ts) fun x => (h x).symm.trans (sesT_cov hg ts x)
theorem sesT_ends {gap : Int} (hg : 1 ≤ gap) {ts : List Int} {s : Span} (h : s ∈ sesT gap ts) : s.start ∈ ts ∧ ∃ t, t ∈ ts ∧ s.fin = t + gap := by
  obtain ⟨h1, t, h2, h3⟩ := (sesT_inv hg ts).ends s h
  exact ⟨(sortT_perm ts).mem_iff.1 h1, t, (sortT_perm ts).mem_iff.1 h2, h3⟩
/-- a span that is covered lies in one of them -/
theorem canon_in {l : List Span} (hc : canon l) {a b : Int} (hab : a < b) (h : ∀ x, 2 * a < x → x < 2 * b → cov l x) : ∃ s, s ∈ l ∧ s.start ≤ a ∧ b ≤ s.fin := by
  obtain ⟨s, hs, h1, h2⟩ := h (2 * a + 1) (by omega) (by omega)
  refine ⟨s, hs, by omega, ?_⟩
  apply Classical.byContradiction
  intro hlt
  obtain ⟨r, hr, h3, h4⟩ := h (2 * s.fin) (by omega) (by omega)
  have h5 := hc.1 s hs; have h6 := hc.1 r hr
  by_cases e : r = s
  · subst e; omega
  · rcases canon_two hc hr hs e with h7 | h7 <;> omega
theorem sesT_time {gap t : Int} (hg : 1 ≤ gap) {ts : List Int} (h : t ∈ ts) : ∃ s, s ∈ sesT gap ts ∧ s.start ≤ t ∧ t + gap ≤ s.fin :=
  canon_in (sesT_canon hg ts) (by omega) fun x h1 h2 => (sesT_cov hg ts x).1 ⟨spanT gap t, List.mem_map.2 ⟨t, h, rfl⟩, h1, h2⟩
theorem sesT_right {gap : Int} (hg : 1 ≤ gap) (ts : List Int) : rightB gap (sesT gap ts) = true := by
  refine right_of (sesT_canon hg ts) fun a ha => ?_
  obtain ⟨h1, _⟩ := sesT_ends hg ha
  obtain ⟨s, h2, h3, h4⟩ := sesT_time hg h1
  have hc := sesT_canon hg ts
  have h5 := hc.1 a ha; have h6 := hc.1 s h2
  by_cases e : a = s
  · subst e; omega
  · rcases canon_two hc ha h2 e with h7 | h7 <;> omega
theorem spanT_lt {gap t : Int} (hg : 1 ≤ gap) : (spanT gap t).start < (spanT gap t).fin := by simp only [spanT]; omega
theorem sesT_ins {gap t : Int} (hg : 1 ≤ gap) (ts : List Int) : insA (sesT gap ts) (spanT gap t) = sesT gap (ts ++ [t]) := by
  refine sesT_eq hg (insA_canon (sesT_canon hg ts) (spanT_lt hg)) fun x => ?_
  rw [ins_cov (sesT_canon hg ts) (spanT_lt hg), cov_app, ← sesT_cov hg ts x, List.map_append, cov_app]; rfl
theorem sesT_again {gap t : Int} (hg : 1 ≤ gap) {ts : List Int} (h : t ∈ ts) : insA (sesT gap ts) (spanT gap t) = sesT gap ts := by
  refine sesT_eq hg (insA_canon (sesT_canon hg ts) (spanT_lt hg)) fun x => ?_
  rw [ins_cov (sesT_canon hg ts) (spanT_lt hg), cov_app, ← sesT_cov hg ts x]
  constructor
  · exact .inl
  · rintro (h1 | h1)
    · exact h1
    · obtain ⟨a, ha, hx⟩ := h1
      rw [List.mem_singleton.1 ha] at hx
      exact ⟨spanT gap t, List.mem_map.2 ⟨t, h, rfl⟩, hx⟩
theorem sesT_perm {gap : Int} (hg : 1 ≤ gap) {ts us : List Int} (h : ts.Perm us) : sesT gap ts = sesT gap us :=
  sesT_eq hg (sesT_canon hg ts) fun x => (cov_perm (h.map _).symm x).trans (sesT_cov hg ts x)
theorem insN_in (l : List Span) (o : Span) : insN l o ∈ insA l o := by unfold insA insL; simp
theorem find_ins {gap t : Int} (hg : 1 ≤ gap) (ts : List Int) : findS t (insA (sesT gap ts) (spanT gap t)) = (insN (sesT gap ts) (spanT gap t), true) := by
  refine findS_mem (insA_canon (sesT_canon hg ts) (spanT_lt hg)) (insN_in _ _) ?_
  obtain ⟨h1, h2, _⟩ := insN_fact (spanT gap t) (sesT gap ts)
  simp only [spanT] at h1 h2 ⊢
  simp [inS]; omega
theorem ins_count (l : List Span) (o : Span) : ((insA l o).length : Int) = (l.length : Int) - (insJ l o).length + 1 := by
  rw [insA_len]; have := insJR_len l o; omega
theorem sesT_len {gap : Int} (hg : 1 ≤ gap) (ts : List Int) : (sesT gap ts).length ≤ ts.length := by
  have := ofT_len gap (sortT ts) (sortT ts).length (Nat.le_refl _)
  rw [List.take_length, sortT_len] at this
  exact this
theorem sesT_in {gap : Int} (hg : 1 ≤ gap ∧ gap ≤ 1048576) {ts : List Int} (ht : ∀ t, t ∈ ts → -1099511627776 ≤ t ∧ t ≤ 1099511627776) : ∀ s, s ∈ sesT gap ts → in64 s.start ∧ in64 s.fin := fun s hs => by
  obtain ⟨h1, t, h2, h3⟩ := sesT_ends hg.1 hs
  have := ht _ h1; have := ht t h2
  unfold in64; omega
/-! ### A time lies in just one of them -/
def holdT (gap t : Int) (s : Span) : Bool := decide (s.start ≤ t) && decide (t + gap ≤ s.fin)
def cntT (gap t : Int) (l : List Span) (k : Nat) : Nat := ((l.take k).filter (holdT gap t)).length
theorem cntT_hit {gap t : Int} {l : List Span} {k : Nat} {s : Span} (hx : l[k]? = some s) (h : holdT gap t s = true) : cntT gap t l (k + 1) = cntT gap t l k + 1 := by
  unfold cntT; rw [filter_snoc hx, h]; simp
theorem cntT_miss {gap t : Int} {l : List Span} {k : Nat} {s : Span} (hx : l[k]? = some s) (h : holdT gap t s = false) : cntT gap t l (k + 1) = cntT gap t l k := by
  unfold cntT; rw [filter_snoc hx, h]; simp
theorem cntT_le (gap t : Int) (l : List Span) (k : Nat) : cntT gap t l k ≤ k := by
  unfold cntT; exact Nat.le_trans (List.length_filter_le ..) (by rw [List.length_take]; omega)
theorem cntT_one {gap t : Int} (hg : 1 ≤ gap) {ts : List Int} (h : t ∈ ts) {k : Nat} (hk : (sesT gap ts).length ≤ k) : cntT gap t (sesT gap ts) k = 1 := by
  unfold cntT; rw [List.take_of_length_le hk]
  obtain ⟨s, hs, h1, h2⟩ := sesT_time hg h
  have hc := sesT_canon hg ts
  have hp : holdT gap t s = true := by simp [holdT, h1, h2]
  have hone : ∀ a, a ∈ (sesT gap ts).filter (holdT gap t) → a = s := fun a ha => by
    obtain ⟨h3, h4⟩ := List.mem_filter.1 ha
    simp [holdT] at h4
    have h5 := hc.1 a h3; have h6 := hc.1 s hs
    apply Classical.byContradiction
    intro e
    rcases canon_two hc h3 hs e with h7 | h7 <;> omega
  have hnd : ((sesT gap ts).filter (holdT gap t)).Pairwise (fun a b => a ≠ b) := by
    refine ((List.Pairwise.and_mem.1 hc.2).imp ?_).sublist List.filter_sublist
    rintro a b ⟨ha, hb, h3⟩ rfl
    have := hc.1 a ha; omega
  have hin : s ∈ (sesT gap ts).filter (holdT gap t) := List.mem_filter.2 ⟨hs, hp⟩
  generalize (sesT gap ts).filter (holdT gap t) = l at hone hnd hin
  match l, hone, hnd, hin with
  | [], _, _, hin => cases hin
  | [a], _, _, _ => rfl
  | a :: b :: m, hone, hnd, _ =>
    rw [List.pairwise_cons] at hnd
    exact absurd ((hone a (by simp)).trans (hone b (by simp)).symm) (hnd.1 b (by simp))
/-! ### Numbers brought to times and gaps -/
def gapT (g : Int) : Int := 1 + (g.tmod 1048576 + 1048576).tmod 1048576
theorem gapT_in (g : Int) : 1 ≤ gapT g ∧ gapT g ≤ 1048576 := by
  unfold gapT
  have h1 : -1048576 < g.tmod 1048576 := by have := Int.tmod_lt_of_pos g (show (0 : Int) < 1048576 by decide); have := Int.lt_tmod_of_pos g (show (0 : Int) < 1048576 by decide); omega
  have h2 : 0 ≤ (g.tmod 1048576 + 1048576).tmod 1048576 := Int.tmod_nonneg _ (by omega)
  have h3 := Int.tmod_lt_of_pos (g.tmod 1048576 + 1048576) (show (0 : Int) < 1048576 by decide)
  omega
def timT (t : Int) : Int := t.tmod 1099511627776
theorem timT_in (t : Int) : -1099511627776 ≤ timT t ∧ timT t ≤ 1099511627776 := by
  unfold timT
  have := Int.tmod_lt_of_pos t (show (0 : Int) < 1099511627776 by decide); have := Int.lt_tmod_of_pos t (show (0 : Int) < 1099511627776 by decide); omega
theorem timT_all (l : List Int) : ∀ t, t ∈ l.map timT → -1099511627776 ≤ t ∧ t ≤ 1099511627776 := fun t ht => by
  obtain ⟨u, _, rfl⟩ := List.mem_map.1 ht
  exact timT_in u
theorem mayB_of {gap : Int} {ts : List Int} (hg : 1 ≤ gap ∧ gap ≤ 1048576) (ht : ∀ t, t ∈ ts → -1099511627776 ≤ t ∧ t ≤ 1099511627776) : mayB gap ts = true := by
  simp only [mayB, Bool.and_eq_true, List.all_eq_true]
  exact ⟨gapB_iff.2 hg, fun t h => timeB_iff.2 (ht t h)⟩
/-! ### Times, turned -/
def rotT (ts : List Int) (k : Nat) : List Int := ts.drop k ++ ts.take k
theorem rotT_perm (ts : List Int) (k : Nat) : (rotT ts k).Perm ts := by
  unfold rotT
  have := List.perm_append_comm (l₁ := ts.drop k) (l₂ := ts.take k)
  rwa [List.take_append_drop] at this
theorem rotT_len (ts : List Int) (k : Nat) : (rotT ts k).length = ts.length := (rotT_perm ts k).length_eq
theorem rotT_at {ts : List Int} {k i : Nat} (hk : k < ts.length) (hi : i < ts.length) : (rotT ts k)[i]? = ts[(i + k) % ts.length]? := by
  unfold rotT
  rw [List.getElem?_append, List.length_drop]
  split
  · rename_i h
    rw [List.getElem?_drop, Nat.mod_eq_of_lt (by omega), Nat.add_comm]
  · rename_i h
    rw [List.getElem?_take, if_pos (by omega)]
    congr 1
    rw [show i + k = (i - (ts.length - k)) + ts.length by omega, Nat.add_mod_right, Nat.mod_eq_of_lt (by omega)]
theorem rot_step {gap : Int} (hg : 1 ≤ gap) {ts : List Int} {k i : Nat} {t : Int} (h : (rotT ts k)[i]? = some t) : insA (sesT gap ((rotT ts k).take i)) (spanT gap t) = sesT gap ((rotT ts k).take (i + 1)) := by
  rw [sesT_ins hg, take_snoc h]
/-! ### The examples -/
theorem wk_sort : sortT [0, 5, 15, 40] = [0, 5, 15, 40] := by
  unfold sortT
  exact List.mergeSort_of_pairwise (by simp)
theorem wk_of : ofT 10 (sortT [0, 5, 15, 40]) = [⟨0, 15⟩, ⟨15, 25⟩, ⟨40, 50⟩] := by rw [wk_sort]; rfl
end Tp
