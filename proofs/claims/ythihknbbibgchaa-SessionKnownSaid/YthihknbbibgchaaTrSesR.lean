/- What may be; what the program's loops tell of spans: plain data. -/
import Derived.Test.YthihknbbibgchaaTrSesQ
import Derived.Test.YthihknbbibgchaaTrDel
set_option linter.all false
namespace Tp
open Go
def gapB (gap : Int) : Bool := decide (1 ≤ gap) && decide (gap ≤ 1048576)
def timeB (t : Int) : Bool := decide (-1099511627776 ≤ t) && decide (t ≤ 1099511627776)
def farB (t : Int) : Bool := !timeB t
def mayB (gap : Int) (ts : List Int) : Bool := gapB gap && ts.all timeB
theorem gapB_iff {g : Int} : gapB g = true ↔ 1 ≤ g ∧ g ≤ 1048576 := by simp [gapB]
theorem timeB_iff {t : Int} : timeB t = true ↔ -1099511627776 ≤ t ∧ t ≤ 1099511627776 := by simp [timeB]
theorem far_eq (t : Int) : ((t : Int) != (max (-1099511627776) (min t 1099511627776) : Int)) = farB t := by
  rw [Bool.eq_iff_iff]; simp [farB, timeB]; omega
theorem gap_eq (g : Int) : ((g : Int) == (max 1 (min g 1048576) : Int)) = gapB g := by
  rw [Bool.eq_iff_iff]; simp [gapB]; omega
theorem ixF_any {α : Type} (p : α → Bool) (xs : List α) : decide (ixF p xs ≥ 0) = xs.any p := by
  rw [Bool.eq_iff_iff]
  cases h : xs.findIdx? p with
  | none =>
    rw [(ixF_none h).1]
    have : xs.any p = false := by simpa [List.findIdx?_eq_none_iff] using h
    simp [this]
  | some i =>
    rw [(ixF_some h).1]
    have : xs.any p = true := by
      obtain ⟨h1, h2, h3⟩ := List.findIdx?_eq_some_iff_getElem.1 h
      exact List.any_eq_true.2 ⟨_, List.getElem_mem h1, h2⟩
    simp [this]
theorem may_eq (gap : Int) (ts : List Int) : (!ts.any farB) = ts.all timeB := by
  rw [List.not_any_eq_all_not]; congr 1; funext t; simp [farB]
theorem mayB_gap {g : Int} {ts : List Int} (h : mayB g ts = true) : 1 ≤ g ∧ g ≤ 1048576 := by
  simp only [mayB, Bool.and_eq_true] at h; exact gapB_iff.1 h.1
theorem mayB_time {g : Int} {ts : List Int} (h : mayB g ts = true) : ∀ t, t ∈ ts → -1099511627776 ≤ t ∧ t ≤ 1099511627776 := by
  simp only [mayB, Bool.and_eq_true, List.all_eq_true] at h; exact fun t ht => timeB_iff.1 (h.2 t ht)
theorem mayB_one {g t : Int} (h : mayB g [t] = true) : 1 ≤ g ∧ g ≤ 1048576 ∧ -1099511627776 ≤ t ∧ t ≤ 1099511627776 := by
  obtain ⟨h1, h2⟩ := mayB_gap h
  obtain ⟨h3, h4⟩ := mayB_time h t (List.mem_singleton.2 rfl)
  exact ⟨h1, h2, h3, h4⟩
theorem stepT_hit {gap t : Int} {out : List Span} {s : Span} (h : out[out.length - 1]? = some s) (h0 : 0 < out.length) (ht : t < s.fin) : out.set (out.length - 1) ⟨s.start, t + gap⟩ = stepT gap out t := by
  have hl : out.getLast? = some s := by rw [List.getLast?_eq_getElem?]; exact h
  have hs := last_split hl
  unfold stepT; rw [hl]; simp only; rw [if_pos ht]
  generalize out.dropLast = d at hs
  subst hs
  simp
theorem stepT_miss {gap t : Int} {out : List Span} {s : Span} (h : out[out.length - 1]? = some s) (h0 : 0 < out.length) (ht : ¬ t < s.fin) : out ++ [⟨t, t + gap⟩] = stepT gap out t := by
  have hl : out.getLast? = some s := by rw [List.getLast?_eq_getElem?]; exact h
  unfold stepT; rw [hl]; simp only; rw [if_neg ht]; rfl
theorem stepT_none {gap t : Int} {out : List Span} (h : out.length = 0) : out ++ [⟨t, t + gap⟩] = stepT gap out t := by
  have : out = [] := List.eq_nil_of_length_eq_zero h
  subst this; rfl
theorem stepT_len (gap t : Int) (out : List Span) : (stepT gap out t).length ≤ out.length + 1 := by
  unfold stepT
  cases h : out.getLast? with
  | none => simp
  | some s =>
    have := last_split h
    simp only
    split
    · simp only [List.length_append, List.length_dropLast, List.length_singleton]
      have : out ≠ [] := by rintro rfl; cases h
      have := List.length_pos_iff.2 this; omega
    · simp
theorem ofT_len (gap : Int) (ts : List Int) (i : Nat) (h : i ≤ ts.length) : (ofT gap (ts.take i)).length ≤ i := by
  induction i with
  | zero => simp [ofT]
  | succ i ih =>
    rw [ofT_snoc (List.getElem?_eq_getElem (by omega))]
    have := stepT_len gap ts[i] (ofT gap (ts.take i)); have := ih (by omega); omega
def inS (t : Int) (s : Span) : Bool := decide (s.start ≤ t) && decide (t < s.fin)
end Tp
