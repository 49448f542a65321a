/- Leases: plain laws of the reference. -/
import Derived.Test.YtlehkjkpgmkbiaaTrLeaseM
set_option linter.all false
namespace Tp
section
variable {xs : List Lease} {o i e u most last : Int} {c : Bool} {x y : Lease} {k : Nat}
theorem get_hit (h : xs[k]? = some x) (hp : isL o i c x = true) (hb : ∀ (j : Nat) (u : Lease), j < k → xs[j]? = some u → isL o i c u = false) : getV xs o i c = (x, 0) := by
  have hi : xs.findIdx? (isL o i c) = some k := by
    obtain ⟨h1, h2⟩ := List.getElem?_eq_some_iff.1 h
    rw [List.findIdx?_eq_some_iff_getElem]
    refine ⟨h1, by rw [h2]; exact hp, fun j hj => ?_⟩
    rw [hb j xs[j] hj (List.getElem?_eq_getElem _)]; simp
  have hh : hasL xs o i c = true := by
    unfold hasL; rw [List.any_eq_true]; exact ⟨x, List.mem_of_getElem? h, hp⟩
  have ha := hasL_some hh
  rw [hi] at ha
  have hk : atL xs o i c = k := by simpa using ha.symm
  have ht : theL xs o i c = x := theL_eq (by rw [hk]; exact h)
  simp [getV, hh, ht]
theorem get_miss (hb : ∀ (j : Nat) (u : Lease), j < k → xs[j]? = some u → isL o i c u = false) (hk : xs.length ≤ k) : getV xs o i c = (leaseZ, noE c) := by
  have : hasL xs o i c = false := by
    unfold hasL; rw [List.any_eq_false]
    intro x hx
    obtain ⟨j, hj⟩ := List.getElem?_of_mem hx
    have := (List.getElem?_eq_some_iff.1 hj).1
    rw [hb j x (by omega) hj]; simp
  simp [getV, this]
theorem hasL_is (h : hasL xs o i c = true) : isL o i c (theL xs o i c) = true := by
  have h1 := hasL_some h
  rw [List.findIdx?_eq_some_iff_getElem] at h1
  obtain ⟨h2, h3, _⟩ := h1
  have := theL_eq (o := o) (i := i) (c := c) (List.getElem?_eq_getElem h2)
  rw [this]; exact h3
theorem theL_id (h : hasL xs o i c = true) : (theL xs o i c).id = i := by
  have := hasL_is h
  simp [isL] at this; exact this.1
def idsP (xs : List Lease) : Prop := xs.Pairwise fun a b => a.id < b.id
theorem idsP.inj {j : Nat} (hu : idsP xs) (h1 : xs[k]? = some x) (h2 : xs[j]? = some y) (he : x.id = y.id) : k = j := by
  obtain ⟨a1, a2⟩ := List.getElem?_eq_some_iff.1 h1
  obtain ⟨b1, b2⟩ := List.getElem?_eq_some_iff.1 h2
  rcases Nat.lt_trichotomy k j with h | h | h
  · have := List.pairwise_iff_getElem.1 hu k j a1 b1 h; rw [a2, b2] at this; omega
  · exact h
  · have := List.pairwise_iff_getElem.1 hu j k b1 a1 h; rw [a2, b2] at this; omega
def putV (xs : List Lease) (y : Lease) : List Lease := xs.map fun z => if z.id == y.id then y else z
theorem put_snoc (h : xs[k]? = some x) : putV (xs.take (k + 1)) y = putV (xs.take k) y ++ [if x.id == y.id then y else x] := by
  rw [← take_snoc h]; simp [putV]
theorem put_len : (putV xs y).length = xs.length := by simp [putV]
theorem put_set (hu : idsP xs) (h : xs[k]? = some x) (he : y.id = x.id) : putV xs y = xs.set k y := by
  apply List.ext_getElem?
  intro j
  unfold putV
  rw [List.getElem?_map, List.getElem?_set]
  obtain ⟨a1, a2⟩ := List.getElem?_eq_some_iff.1 h
  by_cases hj : k = j
  · subst hj; rw [h]; simp [he, a1]
  · rw [if_neg hj]
    cases hz : xs[j]? with
    | none => rfl
    | some z =>
      have : z.id ≠ y.id := fun h2 => hj (hu.inj h hz (by rw [← he, h2]))
      simp [this]
theorem drop_at (hu : idsP xs) (h : xs[k]? = some x) : (xs.filter fun z => !(z.id == x.id)) = xs.eraseIdx k := by
  obtain ⟨hlt, hx⟩ := List.getElem?_eq_some_iff.1 h
  have hl : xs = xs.take k ++ x :: xs.drop (k + 1) := by
    have := List.drop_eq_getElem_cons hlt
    rw [hx] at this; rw [← this, List.take_append_drop]
  rw [List.eraseIdx_eq_take_drop_succ]
  conv => lhs; rw [hl]
  rw [List.filter_append, List.filter_cons]
  simp only [beq_self_eq_true, Bool.not_true, Bool.false_eq_true, ↓reduceIte]
  congr 1
  · rw [List.filter_eq_self]
    intro a ha
    obtain ⟨j, hj⟩ := List.getElem?_of_mem ha
    rw [List.getElem?_take] at hj
    split at hj
    · rename_i hjk
      have : a.id ≠ x.id := fun h2 => by have := hu.inj hj h h2; omega
      simp [this]
    · cases hj
  · rw [List.filter_eq_self]
    intro a ha
    obtain ⟨j, hj⟩ := List.getElem?_of_mem ha
    rw [List.getElem?_drop] at hj
    have : a.id ≠ x.id := fun h2 => by have := hu.inj hj h h2; omega
    simp [this]
theorem renew_eq (hu : idsP xs) (h : hasL xs o i c = true) : putV xs { theL xs o i c with till := u } = xs.set (atL xs o i c) { theL xs o i c with till := u } := put_set hu (theL_at h) rfl
theorem move_eq (hu : idsP xs) (h : hasL xs o i c = true) : putV xs { theL xs o i c with epoch := u } = xs.set (atL xs o i c) { theL xs o i c with epoch := u } := put_set hu (theL_at h) rfl
def partP (kn n ow : Int) (x : Lease) : Bool := ((kn == 0) && decide (n ≥ x.till)) || ((kn == 1) && (x.owner == ow)) || ((kn == 2) && (x.id == n))
theorem part0 {n ow : Int} : partP 0 n ow = tillP n := by funext x; simp [partP, tillP]
theorem part1 {n ow : Int} : partP 1 n ow = ownP ow := by funext x; simp [partP, ownP]
theorem rel_eq (hu : idsP xs) (h : hasL xs o i c = true) : (xs.filter fun z => !partP 2 i 0 z) = xs.eraseIdx (atL xs o i c) := by
  have h1 := drop_at hu (theL_at h)
  rw [theL_id h] at h1
  rw [← h1]; congr 1
theorem filter_snY {p : Lease → Bool} (hx : xs[k]? = some x) (h : p x = true) : (xs.take (k + 1)).filter p = (xs.take k).filter p ++ [x] := by
  rw [← take_snoc hx, List.filter_append, List.filter_cons, if_pos h]; rfl
theorem filter_snN {p : Lease → Bool} (hx : xs[k]? = some x) (h : p x = false) : (xs.take (k + 1)).filter p = (xs.take k).filter p := by
  rw [← take_snoc hx, List.filter_append, List.filter_cons, if_neg (by simp [h])]; simp
end
end Tp
namespace Tp
section
variable {xs : List Lease} {x : Lease} {k : Nat} {b : Int}
theorem leastV_take (h : xs[k]? = some x) (h0 : 0 < k) : (leastV (xs.take k)).1 = (minL (xs.take k)).epoch := by
  have := (List.getElem?_eq_some_iff.1 h).1
  unfold leastV
  rw [if_neg (by rw [List.length_take]; omega)]
theorem leastV_take' (h : xs[k]? = some x) : (leastV (xs.take (k + 1))).1 = (minL (xs.take (k + 1))).epoch := by
  have := (List.getElem?_eq_some_iff.1 h).1
  unfold leastV
  rw [if_neg (by rw [List.length_take]; omega)]
theorem least_first (_ : b = (leastV (xs.take k)).1) (h : xs[k]? = some x) (h0 : k = 0) : x.epoch = (leastV (xs.take (k + 1))).1 := by
  rw [leastV_take' h]; subst h0; rw [minL_one h]
theorem least_less (hb : b = (leastV (xs.take k)).1) (h : xs[k]? = some x) (h0 : 0 < k) (hl : x.epoch < b) : x.epoch = (leastV (xs.take (k + 1))).1 := by
  rw [leastV_take h h0] at hb
  rw [leastV_take' h, minL_step h0 h, if_pos (by omega)]
theorem least_more (hb : b = (leastV (xs.take k)).1) (h : xs[k]? = some x) (h0 : 0 < k) (hl : ¬ x.epoch < b) : b = (leastV (xs.take (k + 1))).1 := by
  rw [leastV_take h h0] at hb
  rw [leastV_take' h, minL_step h0 h, if_neg (by omega)]; exact hb
end
end Tp
namespace Tp
section
variable {xs : List Lease} {x : Lease} {o i e : Int} {c : Bool}
theorem noE_ne : noE c ≠ 0 := by unfold noE; split <;> decide
theorem getw_tt (hc : hasL xs o i c = true) (hg : getV xs o i c = (x, e)) : theL xs o i c = x ∧ e = 0 := by
  simp only [getV, hc, if_true, Prod.mk.injEq] at hg; exact ⟨hg.1, hg.2.symm⟩
theorem getw_ff (hc : hasL xs o i c = false) (hg : getV xs o i c = (x, e)) : leaseZ = x ∧ e = noE c := by
  simp only [getV, hc, Bool.false_eq_true, if_false, Prod.mk.injEq] at hg; exact ⟨hg.1, hg.2.symm⟩
end
end Tp
namespace Tp
theorem leastV_snd {xs : List Lease} : (leastV xs).2 = decide ((xs.length : Int) > (0 : Int)) := by
  unfold leastV; split
  · rename_i h; rw [h]; rfl
  · rename_i h; exact (decide_eq_true (by omega)).symm
end Tp
namespace Tp
section
variable {α : Type} {l r zs : List α} {i : Nat} {x y v : α}
theorem same_step (h : l.take i = r.take i) (hx : l[i]? = some x) (hy : r[i]? = some y) (he : x = y) : l.take (i + 1) = r.take (i + 1) := by
  rw [← take_snoc hx, ← take_snoc hy, h, he]
theorem same_no [DecidableEq α] (hx : l[i]? = some x) (hy : r[i]? = some y) (he : x ≠ y) : decide (l = r) = false := by
  rw [decide_eq_false_iff_not]; rintro rfl; rw [hx] at hy; cases hy; exact he rfl
theorem same_yes [DecidableEq α] (h : l.take i = r.take i) (h1 : l.length ≤ i) (h2 : r.length ≤ i) : decide (l = r) = true := by
  rw [List.take_of_length_le h1, List.take_of_length_le h2] at h; simp [h]
theorem same_len [DecidableEq α] (h : l.length ≠ r.length) : decide (l = r) = false := by
  rw [decide_eq_false_iff_not]; rintro rfl; exact h rfl
theorem wipe_at (h : zs.drop i = l.drop i) (hx : zs[i]? = some x) : l[i]? = some x := by
  have h1 : (zs.drop i)[0]? = (l.drop i)[0]? := by rw [h]
  simp only [List.getElem?_drop, Nat.add_zero] at h1
  rw [← h1]; exact hx
theorem wipe_step (h : zs.drop i = l.drop i) : (zs.set i v).drop (i + 1) = l.drop (i + 1) := by
  rw [List.drop_set_of_lt (by omega), ← List.drop_drop, ← List.drop_drop, h]
end
end Tp
namespace Tp
open Go
structure LAct where
  op : Int
  owner : Int
  id : Int
  n : Int
  till : Int
  cursor : Bool
deriving DecidableEq, Inhabited
def lactE (x : LAct) : List Value := [.int .i64 x.op, .int .i64 x.owner, .int .u64 x.id, .int .u64 x.n, .int .u64 x.till, .bool x.cursor]
theorem lactE_len (x : LAct) : (lactE x).length = 6 := rfl
theorem lactE_cel (x : LAct) : Step.Cellish (lactE x) := cel_cons rfl (cel_cons rfl (cel_cons rfl (cel_cons rfl (cel_cons rfl (cel_cons rfl cel_nil)))))
end Tp
