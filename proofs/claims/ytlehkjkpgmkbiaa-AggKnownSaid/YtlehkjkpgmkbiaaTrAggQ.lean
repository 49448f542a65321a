/- Values parted, and joined, have one aggregate: plain data. -/
import Derived.Test.YtlehkjkpgmkbiaaTrAggP
set_option linter.all false
namespace Tp
open Go
theorem foldl_min (l : List Int) (a : Int) : (l.foldl Min.min a = a ∨ l.foldl Min.min a ∈ l) ∧ l.foldl Min.min a ≤ a ∧ ∀ x, x ∈ l → l.foldl Min.min a ≤ x := by
  induction l generalizing a with
  | nil => simp
  | cons b l ih =>
    obtain ⟨h1, h2, h3⟩ := ih (Min.min a b)
    simp only [List.foldl_cons]
    refine ⟨?_, by omega, ?_⟩
    · rcases h1 with h | h
      · rcases (show Min.min a b = a ∨ Min.min a b = b by omega) with e | e
        · left; omega
        · right; rw [h, e]; exact List.mem_cons_self ..
      · right; exact List.mem_cons_of_mem _ h
    · intro x hx
      rcases List.mem_cons.1 hx with rfl | hx
      · omega
      · exact h3 x hx
theorem foldl_max (l : List Int) (a : Int) : (l.foldl Max.max a = a ∨ l.foldl Max.max a ∈ l) ∧ a ≤ l.foldl Max.max a ∧ ∀ x, x ∈ l → x ≤ l.foldl Max.max a := by
  induction l generalizing a with
  | nil => simp
  | cons b l ih =>
    obtain ⟨h1, h2, h3⟩ := ih (Max.max a b)
    simp only [List.foldl_cons]
    refine ⟨?_, by omega, ?_⟩
    · rcases h1 with h | h
      · rcases (show Max.max a b = a ∨ Max.max a b = b by omega) with e | e
        · left; omega
        · right; rw [h, e]; exact List.mem_cons_self ..
      · right; exact List.mem_cons_of_mem _ h
    · intro x hx
      rcases List.mem_cons.1 hx with rfl | hx
      · omega
      · exact h3 x hx
theorem minI_mem {l : List Int} (h : l ≠ []) : minI l ∈ l ∧ ∀ x, x ∈ l → minI l ≤ x := by
  cases l with
  | nil => exact absurd rfl h
  | cons a l =>
    obtain ⟨h1, h2, h3⟩ := foldl_min l a
    refine ⟨?_, ?_⟩
    · rcases h1 with e | e
      · simp only [minI, e]; exact List.mem_cons_self ..
      · exact List.mem_cons_of_mem _ e
    · intro x hx
      rcases List.mem_cons.1 hx with rfl | hx
      · exact h2
      · exact h3 x hx
theorem maxI_mem {l : List Int} (h : l ≠ []) : maxI l ∈ l ∧ ∀ x, x ∈ l → x ≤ maxI l := by
  cases l with
  | nil => exact absurd rfl h
  | cons a l =>
    obtain ⟨h1, h2, h3⟩ := foldl_max l a
    refine ⟨?_, ?_⟩
    · rcases h1 with e | e
      · simp only [maxI, e]; exact List.mem_cons_self ..
      · exact List.mem_cons_of_mem _ e
    · intro x hx
      rcases List.mem_cons.1 hx with rfl | hx
      · exact h2
      · exact h3 x hx
theorem minI_eq {l : List Int} {m : Int} (h1 : m ∈ l) (h2 : ∀ x, x ∈ l → m ≤ x) : minI l = m := by
  have h := minI_mem (l := l) (by rintro rfl; cases h1)
  have := h.2 m h1; have := h2 _ h.1; omega
theorem maxI_eq {l : List Int} {m : Int} (h1 : m ∈ l) (h2 : ∀ x, x ∈ l → x ≤ m) : maxI l = m := by
  have h := maxI_mem (l := l) (by rintro rfl; cases h1)
  have := h.2 m h1; have := h2 _ h.1; omega
theorem sumI_perm {a b : List Int} (h : a.Perm b) : sumI a = sumI b := by
  induction h with
  | nil => rfl
  | cons x _ ih => rw [sumI_cons, sumI_cons, ih]
  | swap x y l => rw [sumI_cons, sumI_cons, sumI_cons, sumI_cons]; omega
  | trans _ _ h1 h2 => exact h1.trans h2
theorem allV_perm {a b : List Int} (h : a.Perm b) : allV a = allV b := by
  by_cases ha : a = []
  · subst ha; rw [List.nil_perm.1 h]
  · have hb : b ≠ [] := by rintro rfl; exact ha (List.perm_nil.1 h)
    obtain ⟨h1, h2⟩ := minI_mem ha; obtain ⟨h3, h4⟩ := maxI_mem ha
    have e1 : minI b = minI a := minI_eq (h.mem_iff.1 h1) (fun x hx => h2 x (h.mem_iff.2 hx))
    have e2 : maxI b = maxI a := maxI_eq (h.mem_iff.1 h3) (fun x hx => h4 x (h.mem_iff.2 hx))
    simp only [allV, h.length_eq, sumI_perm h, e1, e2]
theorem allV_right (l : List Int) : aggRight (allV l).1 = true := by
  unfold allV
  split
  · simp [aggRight]
  · rename_i h0
    split
    · have h1 : l ≠ [] := by rintro rfl; exact h0 rfl
      have ⟨h2, h3⟩ := minI_mem h1; have ⟨h4, h5⟩ := maxI_mem h1
      have h6 := h3 _ h4
      have h7 : l.length = 1 → minI l = sumI l ∧ maxI l = sumI l := by
        intro e
        obtain ⟨x, rfl⟩ := List.length_eq_one_iff.1 e
        simp [minI, maxI, sumI]
      simp only [aggRight, Bool.or_eq_true, Bool.and_eq_true, decide_eq_true_eq]
      right
      refine ⟨by omega, h6, ?_⟩
      by_cases e : l.length = 1
      · right; obtain ⟨e1, e2⟩ := h7 e; simp [e, e1, e2]
      · left; omega
    · simp [aggRight]
/-- many parts -/
theorem join_parts (ps : List (List Int)) (hc : ∀ p, p ∈ ps → (allV p).2 = 0) (hn : ps.flatten.length ≤ 1000000) : joinL (ps.map fun p => (allV p).1) = allV ps.flatten := by
  have key : ∀ p : List Int, (allV p).2 = 0 → p ≠ [] → (allV p).1 = ⟨p.length, sumI p, minI p, maxI p⟩ ∧ (allV p).1 ≠ aggZ := by
    intro p h1 h2
    have h3 : p.length ≠ 0 := by simpa using h2
    have h4 : (allV p).1 = ⟨p.length, sumI p, minI p, maxI p⟩ := by
      unfold allV at h1 ⊢; rw [if_neg h3] at h1 ⊢
      split at h1
      · rename_i hf; rw [if_pos hf]
      · cases h1
    refine ⟨h4, ?_⟩
    rw [h4, aggZ]; intro e; injection e with e1; omega
  have gen : ∀ qs : List (List Int), (∀ p, p ∈ qs → (allV p).2 = 0) → sumI (cntJ (qs.map fun p => (allV p).1)) = qs.flatten.length ∧ sumI (sumJ (qs.map fun p => (allV p).1)) = sumI qs.flatten ∧
      (nonB (qs.map fun p => (allV p).1) = [] ↔ qs.flatten = []) ∧ (qs.flatten ≠ [] → (∀ a, a ∈ nonB (qs.map fun p => (allV p).1) → ∃ p, p ≠ [] ∧ p ∈ qs ∧ a = ⟨p.length, sumI p, minI p, maxI p⟩) ∧ ∀ p, p ≠ [] → p ∈ qs → (⟨p.length, sumI p, minI p, maxI p⟩ : Agg5) ∈ nonB (qs.map fun p => (allV p).1)) := by
    intro qs
    induction qs with
    | nil => intro _; exact ⟨rfl, rfl, by simp [nonB], fun h => absurd rfl h⟩
    | cons p qs ih =>
      intro h
      obtain ⟨i1, i2, i3, i4⟩ := ih fun q hq => h q (List.mem_cons_of_mem _ hq)
      by_cases hp : p = []
      · subst hp
        have e : nonB (List.map (fun p => (allV p).1) ([] :: qs)) = nonB (qs.map fun p => (allV p).1) := by simp [nonB, allV]
        simp only [cntJ, sumJ, e, List.flatten_cons, List.nil_append] at *
        refine ⟨i1, i2, i3, fun h0 => ⟨fun a ha => ?_, fun q hq hm => ?_⟩⟩
        · obtain ⟨q, q1, q2, q3⟩ := (i4 h0).1 a ha; exact ⟨q, q1, List.mem_cons_of_mem _ q2, q3⟩
        · rcases List.mem_cons.1 hm with rfl | hm
          · exact absurd rfl hq
          · exact (i4 h0).2 q hq hm
      · obtain ⟨k1, k2⟩ := key p (h p (List.mem_cons_self ..)) hp
        have e : nonB (List.map (fun p => (allV p).1) (p :: qs)) = ⟨p.length, sumI p, minI p, maxI p⟩ :: nonB (qs.map fun p => (allV p).1) := by
          rw [← k1]; simp [nonB, k2]
        simp only [cntJ, sumJ] at *
        rw [e]
        refine ⟨?_, ?_, ?_, fun _ => ⟨fun a ha => ?_, fun q hq hm => ?_⟩⟩
        · simp only [List.map_cons, sumI_cons, i1, List.flatten_cons, List.length_append]; omega
        · simp only [List.map_cons, sumI_cons, i2, List.flatten_cons, sumI_append]
        · simp [hp]
        · rcases List.mem_cons.1 ha with rfl | ha
          · exact ⟨p, hp, List.mem_cons_self .., rfl⟩
          · by_cases h0 : qs.flatten = []
            · rw [i3.2 h0] at ha; cases ha
            · obtain ⟨q, q1, q2, q3⟩ := (i4 h0).1 a ha; exact ⟨q, q1, List.mem_cons_of_mem _ q2, q3⟩
        · rcases List.mem_cons.1 hm with rfl | hm
          · exact List.mem_cons_self ..
          · have h0 : qs.flatten ≠ [] := by
              intro h0
              exact hq (List.flatten_eq_nil_iff.1 h0 q hm)
            exact List.mem_cons_of_mem _ ((i4 h0).2 q hq hm)
  obtain ⟨g1, g2, g3, g4⟩ := gen ps hc
  have hfc : fits (ps.flatten.length : Int) = true := by unfold fits; exact decide_eq_true ⟨by omega, by omega⟩
  unfold joinL
  rw [g1, g2, hfc, Bool.true_and]
  by_cases h0 : ps.flatten = []
  · rw [h0, minJ, maxJ, g3.2 h0]; rfl
  · have h1 : ps.flatten.length ≠ 0 := fun e => h0 (List.eq_nil_of_length_eq_zero e)
    rw [allV, if_neg h1]
    split
    · have minA_eq : ∀ l : List Agg5, minA l = minI (l.map (·.min)) := by
        intro l; cases l with
        | nil => rfl
        | cons a l => simp [minA, minI, List.foldl_map]
      have maxA_eq : ∀ l : List Agg5, maxA l = maxI (l.map (·.max)) := by
        intro l; cases l with
        | nil => rfl
        | cons a l => simp [maxA, maxI, List.foldl_map]
      obtain ⟨u1, u2⟩ := g4 h0
      obtain ⟨m1, m2⟩ := minI_mem h0; obtain ⟨m3, m4⟩ := maxI_mem h0
      have e1 : minJ (ps.map fun p => (allV p).1) = minI ps.flatten := by
        rw [minJ, minA_eq]
        obtain ⟨p, hp1, hp2⟩ := List.mem_flatten.1 m1
        have hp0 : p ≠ [] := by rintro rfl; cases hp2
        have hmin : minI p = minI ps.flatten := minI_eq hp2 fun x hx => m2 x (List.mem_flatten.2 ⟨p, hp1, hx⟩)
        refine minI_eq ?_ fun x hx => ?_
        · exact List.mem_map.2 ⟨_, u2 p hp0 hp1, hmin⟩
        · obtain ⟨a, ha, rfl⟩ := List.mem_map.1 hx
          obtain ⟨q, q1, q2, rfl⟩ := u1 a ha
          exact m2 _ (List.mem_flatten.2 ⟨q, q2, (minI_mem q1).1⟩)
      have e2 : maxJ (ps.map fun p => (allV p).1) = maxI ps.flatten := by
        rw [maxJ, maxA_eq]
        obtain ⟨p, hp1, hp2⟩ := List.mem_flatten.1 m3
        have hp0 : p ≠ [] := by rintro rfl; cases hp2
        have hmax : maxI p = maxI ps.flatten := maxI_eq hp2 fun x hx => m4 x (List.mem_flatten.2 ⟨p, hp1, hx⟩)
        refine maxI_eq ?_ fun x hx => ?_
        · exact List.mem_map.2 ⟨_, u2 p hp0 hp1, hmax⟩
        · obtain ⟨a, ha, rfl⟩ := List.mem_map.1 hx
          obtain ⟨q, q1, q2, rfl⟩ := u1 a ha
          exact m4 _ (List.mem_flatten.2 ⟨q, q2, (maxI_mem q1).1⟩)
      rw [e1, e2]
    · rfl
theorem join_three {l : List Int} {k n : Nat} (hk : k ≤ n) (hl : l.length ≤ 1000000) (ha : (allV (l.take k)).2 = 0) (hb : (allV ((l.drop k).take (n - k))).2 = 0) (hc : (allV (l.drop n)).2 = 0) :
    joinL [(allV (l.take k)).1, (allV ((l.drop k).take (n - k))).1, (allV (l.drop n)).1] = allV l ∧ joinL [(allV (l.drop n)).1, (allV (l.take k)).1, aggZ, (allV ((l.drop k).take (n - k))).1] = allV l := by
  have e : l.take k ++ (l.drop k).take (n - k) ++ l.drop n = l := by
    rw [List.append_assoc]
    conv => rhs; rw [← List.take_append_drop k l]
    congr 1
    conv => rhs; rw [← List.take_append_drop (n - k) (l.drop k)]
    rw [List.drop_drop, Nat.add_sub_cancel' hk]
  constructor
  · have h := join_parts [l.take k, (l.drop k).take (n - k), l.drop n] (by intro p hp; simp at hp; rcases hp with rfl | rfl | rfl <;> assumption) (by
      have := congrArg List.length e; simp at this ⊢; omega)
    simp only [List.map_cons, List.map_nil] at h
    rw [h]
    congr 1
    simpa using e
  · have h := join_parts [l.drop n, l.take k, [], (l.drop k).take (n - k)] (by intro p hp; simp at hp; rcases hp with rfl | rfl | rfl | rfl <;> first | assumption | rfl) (by
      have := congrArg List.length e; simp at this ⊢; omega)
    simp only [List.map_cons, List.map_nil] at h
    have h2 : (allV []).1 = aggZ := rfl
    rw [h2] at h
    rw [h]
    refine allV_perm ?_
    have h3 : [l.drop n, l.take k, [], (l.drop k).take (n - k)].flatten = l.drop n ++ (l.take k ++ (l.drop k).take (n - k)) := by simp
    rw [h3]
    conv => rhs; rw [← e]
    exact List.perm_append_comm
/-- one value more -/
theorem put_next {l : List Int} {i : Nat} {v : Int} (hi : l[i]? = some v) (hl : l.length ≤ 1000000) (hc : (allV (l.take i)).2 = 0) (hv : in64 v) :
    putA (allV (l.take i)).1 v = if (allV (l.take (i + 1))).2 = 0 then allV (l.take (i + 1)) else ((allV (l.take i)).1, 30) := by
  have h0 := (List.getElem?_eq_some_iff.1 hi).1
  have e1 : (⟨1, v, v, v⟩ : Agg5) = (allV [v]).1 ∧ (allV [v]).2 = 0 := by
    have : fits (sumI [v]) = true := by simp [fits, sumI]; exact hv
    constructor <;> simp [allV, this] <;> simp [sumI, minI, maxI]
  have h := join_parts [l.take i, [v]] (by intro p hp; simp at hp; rcases hp with rfl | rfl; exact hc; exact e1.2) (by simp; omega)
  simp only [List.map_cons, List.map_nil, List.flatten_cons, List.flatten_nil, List.append_nil] at h
  rw [← e1.1, take_snoc hi] at h
  rw [putA, h]
theorem putA_count {l : List Int} {i : Nat} (hi : i < l.length) (h : (allV (l.take i)).2 = 0) (h2 : (allV (l.take (i + 1))).2 = 0) : (allV (l.take (i + 1))).1.count = (allV (l.take i)).1.count + 1 := by
  have key : ∀ p : List Int, (allV p).2 = 0 → (allV p).1.count = p.length := by
    intro p hp
    unfold allV at hp ⊢
    split
    · rename_i h; simp [h, aggZ]
    · rename_i h; rw [if_neg h] at hp
      split
      · rfl
      · rename_i h3; rw [if_neg h3] at hp; cases hp
  rw [key _ h, key _ h2, List.length_take, List.length_take]
  omega
end Tp
