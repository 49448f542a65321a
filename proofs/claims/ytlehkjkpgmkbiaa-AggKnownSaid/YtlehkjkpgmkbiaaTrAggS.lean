/- What the laws on aggregates ask of parts, and of rows. -/
import Derived.Test.YtlehkjkpgmkbiaaTrAggR
import Derived.Test.YtlehkjkpgmkbiaaTrArena2
set_option linter.all false
namespace Tp
open Go
def keyOk (r : Row5) : Bool := !decide ((r.pane.key.size : Int) > 100)
def fewB (l : List Row5) : Bool := (l.take 21).all keyOk && decide (l.length ≤ 20)
theorem few_len {l : List Row5} (h : fewB l = true) : l.length ≤ 20 := by
  unfold fewB at h; rw [Bool.and_eq_true, decide_eq_true_iff] at h; exact h.2
section
variable {l : List Row5} {i : Nat} {x : Row5}
theorem few_no (hx : l[i]? = some x) (hi : i < 21) (h : (x.pane.key.size : Int) > 100) : false = fewB l := by
  symm; unfold fewB
  have h1 : (l.take 21).all keyOk = false := by
    rw [List.all_eq_false]
    refine ⟨x, ?_, by unfold keyOk; simpa using h⟩
    refine List.mem_of_getElem? (i := i) ?_
    rw [List.getElem?_take, if_pos hi]; exact hx
  rw [h1]; rfl
theorem few_step (h : (l.take i).all keyOk = true) (hx : l[i]? = some x) (hk : ¬ (x.pane.key.size : Int) > 100) : (l.take (i + 1)).all keyOk = true := by
  rw [← take_snoc hx, List.all_append, h, Bool.true_and]
  unfold keyOk; simpa using hk
theorem few_yes (h : (l.take i).all keyOk = true) (hi : l.length ≤ i ∨ 21 ≤ i) : decide ((l.length : Int) ≤ 20) = fewB l := by
  have h1 : (l.take 21).all keyOk = true := by
    rw [List.all_eq_true] at h ⊢
    intro y hy
    refine h y ?_
    rcases hi with hi | hi
    · rw [List.take_of_length_le hi]; exact List.mem_of_mem_take hy
    · have : l.take 21 = (l.take i).take 21 := by rw [List.take_take, Nat.min_eq_left hi]
      rw [this] at hy; exact List.mem_of_mem_take hy
  unfold fewB; rw [h1, Bool.true_and, Bool.eq_iff_iff]; simp; omega
end
theorem primV_self (a : Pane5) : primV a a = 0 := ordV_self false a
theorem pick_nat {i n : Int} (h : 0 < n) : ∃ k : Nat, pickI i n = ↑k ∧ (k : Int) < n := by
  have h1 : 0 ≤ pickI i n ∧ pickI i n < n := by
    unfold pickI; rw [if_neg (by omega)]
    have h2 := Int.lt_tmod_of_pos i h
    exact ⟨Int.tmod_nonneg _ (by omega), Int.tmod_lt_of_pos _ h⟩
  exact ⟨(pickI i n).toNat, by omega, by omega⟩
theorem putA_bad {a : Agg5} {v : Int} (h : ¬ (putA a v).2 = 0) : (putA a v).2 = 30 ∧ (putA a v).1 = a := by
  unfold putA at h ⊢
  split at h
  · rename_i e; exact absurd e h
  · rename_i e; rw [if_neg e]; exact ⟨rfl, rfl⟩
theorem put_ok {l : List Int} {i : Nat} {v : Int} (hi : l[i]? = some v) (hl : l.length ≤ 1000000) (hc : (allV (l.take i)).2 = 0) (hv : in64 v) (h : (putA (allV (l.take i)).1 v).2 = 0) :
    putA (allV (l.take i)).1 v = allV (l.take (i + 1)) ∧ (allV (l.take (i + 1))).2 = 0 := by
  have h1 := put_next hi hl hc hv
  rw [h1] at h ⊢
  split at h
  · rename_i e; rw [if_pos e]; exact ⟨rfl, e⟩
  · cases h
theorem allV_count {p : List Int} (hp : (allV p).2 = 0) : (allV p).1.count = p.length := by
  unfold allV at hp ⊢
  split
  · rename_i h; simp [h, aggZ]
  · rename_i h; rw [if_neg h] at hp
    split
    · rfl
    · rename_i h3; rw [if_neg h3] at hp; cases hp
theorem allV_in {l : List Int} (hl : l.length ≤ 1000000) : in64 (allV l).1.count ∧ in64 (allV l).1.sum := by
  unfold allV
  split
  · exact ⟨by decide, by decide⟩
  · split
    · rename_i h; refine ⟨by unfold in64; simp only []; omega, ?_⟩
      exact of_decide_eq_true h
    · exact ⟨by decide, by decide⟩
theorem inJ_parts {a b c : List Int} (ha : a.length ≤ 1000000) (hb : b.length ≤ 1000000) (hc : c.length ≤ 1000000) : inJ [(allV a).1, (allV b).1, (allV c).1] ∧ inJ [(allV c).1, (allV a).1, ⟨0, 0, 0, 0⟩, (allV b).1] := by
  have h1 := allV_in ha; have h2 := allV_in hb; have h3 := allV_in hc
  constructor <;> (intro x hx; simp only [List.mem_cons, List.not_mem_nil, or_false] at hx)
  · rcases hx with rfl | rfl | rfl <;> assumption
  · rcases hx with rfl | rfl | rfl | rfl
    · assumption
    · assumption
    · exact ⟨by decide, by decide⟩
    · assumption
theorem drop_take_all {α : Type} (l : List α) (n : Nat) : (l.drop n).take (l.length - n) = l.drop n := List.take_of_length_le (by rw [List.length_drop]; omega)
theorem join_three' {l : List Int} {k m : Nat} (hl : l.length ≤ 1000000) (ha : (allV (l.take k)).2 = 0) (hb : (allV ((l.drop k).take (k + m - k))).2 = 0) (hc : (allV ((l.drop (k + m)).take (l.length - (k + m)))).2 = 0) :
    joinL [(allV (l.take k)).1, (allV ((l.drop k).take (k + m - k))).1, (allV ((l.drop (k + m)).take (l.length - (k + m)))).1] = allV l ∧
    joinL [(allV ((l.drop (k + m)).take (l.length - (k + m)))).1, (allV (l.take k)).1, ⟨0, 0, 0, 0⟩, (allV ((l.drop k).take (k + m - k))).1] = allV l := by
  rw [drop_take_all] at *
  exact join_three (n := k + m) (by omega) hl ha hb hc
end Tp
