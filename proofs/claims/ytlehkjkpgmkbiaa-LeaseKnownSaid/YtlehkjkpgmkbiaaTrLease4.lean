/- Leases: the stage's theorem, as plain law. -/
import Derived.Test.YtlehkjkpgmkbiaaTrLease3
set_option linter.all false
namespace Tp
section
variable {xs : List Lease} {most last : Int} {a b : LAct} {k : Nat} {o i e u : Int} {c : Bool} {x y : Lease}
theorem grant_busy (h : (grantV xs most last o e u c).2.2.2 ≠ 0) : (grantV xs most last o e u c).2.2.2 = 280 ∧ most ≤ (xs.length : Int) ∧ (grantV xs most last o e u c).1 = xs ∧ (grantV xs most last o e u c).2.1 = last := by
  unfold grantV at *
  split
  · rename_i h1; exact ⟨rfl, h1, rfl, rfl⟩
  · rename_i h1; rw [if_neg h1] at h; simp at h
theorem grant_got (h : (grantV xs most last o e u c).2.2.2 = 0) : (xs.length : Int) < most ∧ (grantV xs most last o e u c).1 = xs ++ [(grantV xs most last o e u c).2.2.1] := by
  unfold grantV at *
  split
  · rename_i h1; rw [if_pos h1] at h; simp at h
  · rename_i h1; exact ⟨by omega, rfl⟩
theorem mem_has (hu : idsP xs) (hx : x ∈ xs) (ho : x.owner = o) (hi : x.id = i) (hc : x.cursor = c) : getV xs o i c = (x, 0) := by
  obtain ⟨j, hj⟩ := List.getElem?_of_mem hx
  refine get_hit hj (by simp [isL, ho, hi, hc]) fun q w hq hw => ?_
  have : w.id ≠ x.id := fun h2 => by have := hu.inj hw hj h2; omega
  simp [isL, ← hi, this]
theorem not_has (h : ∀ z, z ∈ xs → z.id = i → False) : (getV xs o i c).2 ≠ 0 := by
  have : hasL xs o i c = false := by
    unfold hasL; rw [List.any_eq_false]
    intro z hz
    simp only [isL, Bool.and_eq_true, beq_iff_eq, not_and]
    intro h1; exact (h z hz h1).elim
  simp [getV, this]; exact noE_ne
def overB (x : Lease) (b : LAct) : Bool := ((pickI b.op 8 == 6) && decide (b.n ≥ x.till)) || ((pickI b.op 8 == 7) && (b.owner == x.owner)) || ((pickI b.op 8 == 4) && (b.owner == x.owner) && (b.id == x.id) && (b.cursor == x.cursor))
def Keeps (x y : Lease) : Prop := y.id = x.id ∧ y.owner = x.owner ∧ y.cursor = x.cursor ∧ x.till ≤ y.till ∧ x.epoch ≤ y.epoch ∧ (x.cursor = false → y.epoch = x.epoch)
theorem Keeps.refl : Keeps x x := ⟨rfl, rfl, rfl, Int.le_refl _, Int.le_refl _, fun _ => rfl⟩
theorem set_mem {j : Nat} {z w : Lease} (hu : idsP xs) (hz : xs[j]? = some z) (hx : x ∈ xs) : (x = z ∧ w ∈ xs.set j w) ∨ (x ≠ z ∧ x ∈ xs.set j w) := by
  obtain ⟨hj, hv⟩ := List.getElem?_eq_some_iff.1 hz
  by_cases h : x = z
  · exact .inl ⟨h, List.mem_set hj w⟩
  · obtain ⟨q, hq⟩ := List.getElem?_of_mem hx
    have hne : j ≠ q := fun h2 => by subst h2; rw [hz] at hq; cases hq; exact h rfl
    exact .inr ⟨h, List.mem_of_getElem? (i := q) (by rw [List.getElem?_set_ne hne]; exact hq)⟩
theorem step_stay (hu : idsP xs) (hx : x ∈ xs) (ho : overB x b = false) : ∃ y, y ∈ (stepL xs most last b).1 ∧ Keeps x y := by
  unfold stepL
  split
  · refine ⟨x, ?_, .refl⟩
    unfold grantV; split
    · exact hx
    · exact List.mem_append.2 (.inl hx)
  · split
    · exact ⟨x, hx, .refl⟩
    · split
      · unfold renewV; split
        · rename_i hh
          rcases set_mem (w := { theL xs b.owner b.id b.cursor with till := max (theL xs b.owner b.id b.cursor).till b.till }) hu (theL_at hh) hx with ⟨h1, h2⟩ | ⟨h1, h2⟩
          · subst h1; exact ⟨_, h2, rfl, rfl, rfl, by simp only; omega, Int.le_refl _, fun _ => rfl⟩
          · exact ⟨x, h2, .refl⟩
        · exact ⟨x, hx, .refl⟩
      · split
        · rename_i h4
          unfold relV; split
          · rename_i hh
            refine ⟨x, ?_, .refl⟩
            obtain ⟨q, hq⟩ := List.getElem?_of_mem hx
            have hne : q ≠ atL xs b.owner b.id b.cursor := fun h2 => by
              subst h2
              have h3 := theL_eq hq
              have h5 := hasL_is hh
              rw [h3] at h5
              simp only [isL, Bool.and_eq_true, beq_iff_eq] at h5
              simp [overB, h4, h5.1, h5.2.1, h5.2.2] at ho
            simp only
            rw [List.mem_iff_getElem?]
            rcases Nat.lt_or_ge q (atL xs b.owner b.id b.cursor) with hlt | hge
            · exact ⟨q, by rw [List.getElem?_eraseIdx_of_lt hlt]; exact hq⟩
            · exact ⟨q - 1, by rw [List.getElem?_eraseIdx_of_ge (by omega), show q - 1 + 1 = q by omega]; exact hq⟩
          · exact ⟨x, hx, .refl⟩
        · split
          · unfold moveV; split
            · rename_i hh; split
              · exact ⟨x, hx, .refl⟩
              · rename_i he
                rcases set_mem (w := { theL xs b.owner b.id true with epoch := b.n }) hu (theL_at hh) hx with ⟨h1, h2⟩ | ⟨h1, h2⟩
                · have hc := hasL_is hh
                  rw [← h1] at hc
                  simp only [isL, Bool.and_eq_true, beq_iff_eq] at hc
                  refine ⟨_, h2, ?_⟩
                  rw [← h1] at he ⊢
                  exact ⟨rfl, rfl, rfl, Int.le_refl _, by simp only; omega, fun h => by rw [hc.2.2] at h; cases h⟩
                · exact ⟨x, h2, .refl⟩
            · exact ⟨x, hx, .refl⟩
          · split
            · rename_i h6
              refine ⟨x, ?_, .refl⟩
              simp only; rw [List.mem_filter]
              refine ⟨hx, ?_⟩
              simp [overB, h6] at ho
              simp [tillP]; exact ho
            · rename_i h0 h2 h3 h4 h5 h6
              refine ⟨x, ?_, .refl⟩
              simp only; rw [List.mem_filter]
              refine ⟨hx, ?_⟩
              have h7 : pickI b.op 8 = 7 := by
                have hb : 0 ≤ pickI b.op 8 ∧ pickI b.op 8 < 8 := by
                  unfold pickI
                  rw [if_neg (by decide)]
                  have h1 := tmod_bounds (a := b.op) (b := 8) (by decide)
                  have h2 := tmod_bounds (a := b.op.tmod 8 + 8) (b := 8) (by decide)
                  exact ⟨Int.tmod_nonneg _ (by omega), h2.2⟩
                omega
              simp [overB, h7] at ho
              simp [ownP]; exact fun h => ho h.symm
theorem step_over (hu : idsP xs) (hx : x ∈ xs) (ho : overB x b = true) : (getV (stepL xs most last b).1 x.owner x.id x.cursor).2 ≠ 0 := by
  refine not_has fun z hz he => ?_
  simp only [overB, Bool.or_eq_true, Bool.and_eq_true, beq_iff_eq, decide_eq_true_eq] at ho
  obtain ⟨q, hq⟩ := List.getElem?_of_mem hx
  rcases ho with (⟨h1, h2⟩ | ⟨h1, h2⟩) | ⟨⟨⟨h1, h2⟩, h3⟩, h4⟩
  · simp only [stepL, h1] at hz
    simp at hz
    obtain ⟨r, hr⟩ := List.getElem?_of_mem hz.1
    have := hu.inj hr hq he
    subst this; rw [hr] at hq; cases hq
    have := hz.2; simp [tillP] at this; omega
  · simp only [stepL, h1] at hz
    simp at hz
    obtain ⟨r, hr⟩ := List.getElem?_of_mem hz.1
    have := hu.inj hr hq he
    subst this; rw [hr] at hq; cases hq
    have := hz.2; simp [ownP] at this; exact this h2.symm
  · simp only [stepL, h1] at hz
    simp at hz
    have hg := mem_has (o := b.owner) (i := b.id) (c := b.cursor) hu hx h2.symm h3.symm h4.symm
    have hh : hasL xs b.owner b.id b.cursor = true := by
      rcases Bool.eq_false_or_eq_true (hasL xs b.owner b.id b.cursor) with h | h
      · exact h
      · exact absurd (getw_ff h hg).2.symm noE_ne
    have ht := (getw_tt hh hg).1
    rw [relV, if_pos hh] at hz
    have hd := drop_at hu (theL_at hh)
    simp only at hz
    rw [← hd, List.mem_filter, ht] at hz
    have := hz.2; simp at this; exact this he
end
end Tp
namespace Tp
section
variable {xs : List Lease} {most last : Int} {a b : LAct} {k : Nat} {o i e u : Int} {c : Bool} {x y : Lease}
theorem fold_le (l : List Lease) (m : Lease) : (l.foldl (fun m y => if y.epoch < m.epoch then y else m) m).epoch ≤ m.epoch ∧ ∀ z, z ∈ l → (l.foldl (fun m y => if y.epoch < m.epoch then y else m) m).epoch ≤ z.epoch := by
  induction l generalizing m with
  | nil => exact ⟨Int.le_refl _, fun _ h => absurd h List.not_mem_nil⟩
  | cons w l ih =>
    rw [List.foldl_cons]
    obtain ⟨h1, h2⟩ := ih (if w.epoch < m.epoch then w else m)
    have h3 : (if w.epoch < m.epoch then w else m).epoch ≤ m.epoch ∧ (if w.epoch < m.epoch then w else m).epoch ≤ w.epoch := by
      split
      · rename_i h; exact ⟨by omega, Int.le_refl _⟩
      · rename_i h; exact ⟨Int.le_refl _, by omega⟩
    refine ⟨by omega, fun z hz => ?_⟩
    rcases List.mem_cons.1 hz with rfl | hz
    · omega
    · exact h2 z hz
theorem minL_le (hx : x ∈ xs) : (minL xs).epoch ≤ x.epoch := by
  cases xs with
  | nil => cases hx
  | cons w l =>
    have h := fold_le l w
    rcases List.mem_cons.1 hx with rfl | hx
    · exact h.1
    · exact h.2 x hx
theorem least_le (hx : x ∈ xs) : (leastV xs).2 = true ∧ (leastV xs).1 ≤ x.epoch := by
  have : ¬ xs.length = 0 := fun h => by rw [List.length_eq_zero_iff] at h; subst h; cases hx
  unfold leastV; rw [if_neg this]; exact ⟨rfl, minL_le hx⟩
theorem step_get (h : LInv k xs last) (hx : x ∈ xs) (ho : overB x b = false) :
    (getV (stepL xs most last b).1 x.owner x.id x.cursor).1 ∈ (stepL xs most last b).1 ∧ Keeps x (getV (stepL xs most last b).1 x.owner x.id x.cursor).1 ∧ (getV (stepL xs most last b).1 x.owner x.id x.cursor).2 = 0 ∧ (leastV (stepL xs most last b).1).2 = true ∧ (leastV (stepL xs most last b).1).1 ≤ (getV (stepL xs most last b).1 x.owner x.id x.cursor).1.epoch := by
  obtain ⟨y, hy, hk⟩ := step_stay (most := most) (last := last) h.ids hx ho
  have hg := mem_has (h.step (most := most) (a := b)).ids hy hk.2.1 hk.1 hk.2.2.1
  rw [hg]
  exact ⟨hy, hk, rfl, (least_le hy).1, (least_le hy).2⟩
theorem step_len (hl : (xs.length : Int) ≤ most) : ((stepL xs most last b).1.length : Int) ≤ most := by
  unfold stepL
  split
  · unfold grantV; split
    · exact hl
    · simp; omega
  · split
    · exact hl
    · split
      · unfold renewV; split
        · simp only [List.length_set]; exact hl
        · exact hl
      · split
        · unfold relV; split
          · have := List.length_eraseIdx_le xs (atL xs b.owner b.id b.cursor); simp only; omega
          · exact hl
        · split
          · unfold moveV; split
            · split
              · exact hl
              · simp only [List.length_set]; exact hl
            · exact hl
          · split
            · have := List.length_filter_le (fun (x : Lease) => !(tillP b.n x)) xs; simp only; omega
            · have := List.length_filter_le (fun (x : Lease) => !(ownP b.owner x)) xs; simp only; omega
theorem grant_mem (h : (grantV xs most last o e u c).2.2.2 = 0) : (grantV xs most last o e u c).2.2.1 ∈ (grantV xs most last o e u c).1 ∧ ((grantV xs most last o e u c).1.length : Int) ≤ most := by
  obtain ⟨h1, h2⟩ := grant_got h
  rw [h2]
  exact ⟨by simp, by simp; omega⟩
end
end Tp
namespace Tp
theorem LInv.mono {k k' : Nat} {xs : List Lease} {last : Int} (h : LInv k xs last) (hk : k ≤ k') : LInv k' xs last := ⟨h.ids, h.le, h.pos, by have := h.few; omega, by have := h.len; omega⟩
end Tp
