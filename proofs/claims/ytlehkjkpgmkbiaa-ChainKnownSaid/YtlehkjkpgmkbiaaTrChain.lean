/- Chains: plain laws. -/
import Derived.Test.YtlehkjkpgmkbiaaTrAggM
set_option linter.all false
namespace Tp
open Go
section
variable {l : List Ver} {v u x : Ver} {i j : Nat} {e f g : Int}
theorem chainP.lt (hc : chainP l) (hij : i < j) (hi : l[i]? = some u) (hj : l[j]? = some v) : u.epoch < v.epoch := by
  obtain ⟨a1, a2⟩ := List.getElem?_eq_some_iff.1 hi
  obtain ⟨b1, b2⟩ := List.getElem?_eq_some_iff.1 hj
  have := List.pairwise_iff_getElem.1 hc.2 i j a1 b1 hij
  rw [a2, b2] at this; exact this
theorem chainP.inj (hc : chainP l) (hi : l[i]? = some u) (hj : l[j]? = some v) (he : u.epoch = v.epoch) : i = j := by
  rcases Nat.lt_trichotomy i j with h | h | h
  · have := hc.lt h hi hj; omega
  · exact h
  · have := hc.lt h hj hi; omega
theorem chainP.right (hc : chainP l) (hi : l[i]? = some v) : rightV v = true := hc.1 v (List.mem_of_getElem? hi)
theorem rightV_dead (h : rightV v = true) : v.dead = decide (v.agg = aggZ) := by
  simp [rightV] at h; exact h.2.2.symm
theorem rightV_pos (h : rightV v = true) : 0 < v.epoch := by
  simp [rightV] at h; exact h.1
theorem chainP.nil : chainP [] := by simp [chainP]
theorem chainP.sub {m : List Ver} (hc : chainP l) (h : m.Sublist l) : chainP m := ⟨fun v hv => hc.1 v (h.subset hv), hc.2.sublist h⟩
theorem chainB_iff : chainB l = true ↔ chainP l := by simp [chainB]
theorem atV_append {m : List Ver} (h : ∀ u, u ∈ m → ¬ u.epoch ≤ e) : atV (l ++ m) e = atV l e := by
  unfold atV
  rw [List.foldl_append]
  generalize List.foldl _ aggZ l = a
  induction m generalizing a with
  | nil => rfl
  | cons y m ih =>
    rw [List.foldl_cons, if_neg (h y (by simp))]
    exact ih (fun u hu => h u (by simp [hu])) a
theorem atV_hit (hi : l[i]? = some v) (he : v.epoch ≤ e) (ha : ∀ (j : Nat) (u : Ver), i < j → l[j]? = some u → ¬ u.epoch ≤ e) : atV l e = v.agg := by
  have hl : l = l.take (i + 1) ++ l.drop (i + 1) := (List.take_append_drop _ _).symm
  rw [hl, atV_append, atV_snoc hi, if_pos he]
  intro u hu
  obtain ⟨k, hk⟩ := List.getElem?_of_mem hu
  rw [List.getElem?_drop] at hk
  exact ha _ u (by omega) hk
theorem atV_none (ha : ∀ (j : Nat) (u : Ver), l[j]? = some u → ¬ u.epoch ≤ e) : atV l e = aggZ := by
  have := atV_append (l := []) (m := l) (e := e) (fun u hu => by obtain ⟨k, hk⟩ := List.getElem?_of_mem hu; exact ha k u hk)
  simpa [atV] using this
/-- what is behind an epoch -/
theorem next_at (hc : chainP l) (hi : l[i]? = some v) : nextV l v.epoch = match l[i + 1]? with
    | some u => (u, true)
    | none => (verZ, false) := by
  have hb : ∀ j u, j < i + 1 → l[j]? = some u → (fun w : Ver => decide (w.epoch > v.epoch)) u = false := fun j u hj hu => by
    rcases Nat.lt_or_ge j i with h | h
    · have := hc.lt h hu hi; simp; omega
    · have : j = i := by omega
      subst this; rw [hi] at hu; cases hu; simp
  cases hn : l[i + 1]? with
  | none => exact firstV_none hb (by rw [List.getElem?_eq_none_iff] at hn; exact hn)
  | some u => exact firstV_hit hn (by have := hc.lt (Nat.lt_succ_self i) hi hn; simpa using this) hb
theorem first_at (hc : chainP l) (hi : l[i]? = some x) : firstV (fun v => v.epoch == x.epoch) l = (x, true) :=
  firstV_hit hi (by simp) fun j u hj hu => by have := hc.lt hj hu hi; simp; omega
theorem garb_at (hc : chainP l) (hi : l[i]? = some x) : garb l x.epoch f = garbV l x f := by
  unfold garb; rw [first_at hc hi]; simp
theorem garb_none (h : ∀ j u, j < i → l[j]? = some u → (fun v : Ver => v.epoch == e) u = false) (hi : l.length ≤ i) : garb l e f = false := by
  unfold garb; rw [firstV_none h hi]; simp
theorem garbV_at (hc : chainP l) (hi : l[i]? = some x) : garbV l x f = ((match l[i + 1]? with | some u => decide (u.epoch ≤ f) | none => false) || (decide (i = 0) && (x.dead && decide (x.epoch ≤ f)))) := by
  unfold garbV
  rw [next_at hc hi]
  have h0 : ∀ m, l[0]? = m → (match m with | some u => u.epoch == x.epoch | none => false) = decide (i = 0) := fun m h => by
    cases m with
    | none => rw [List.getElem?_eq_none_iff] at h; have := (List.getElem?_eq_some_iff.1 hi).1; omega
    | some u =>
      rw [Bool.eq_iff_iff]; simp only [beq_iff_eq, decide_eq_true_eq]
      constructor
      · intro he; exact (hc.inj h hi he).symm
      · intro he; subst he; rw [hi] at h; cases h; rfl
  have h1 := h0 _ rfl
  cases h2 : l[0]? with
  | none => rw [List.getElem?_eq_none_iff] at h2; have := (List.getElem?_eq_some_iff.1 hi).1; omega
  | some u =>
    rw [h2] at h1
    simp only at h1
    simp only [h1]
    cases l[i + 1]? with
    | none => simp; cases x.dead <;> cases decide (i = 0) <;> simp
    | some u => simp; cases x.dead <;> cases decide (i = 0) <;> simp
theorem garb_yes {w : Ver} (hc : chainP l) (hi : l[i]? = some x) (hn : l[i + 1]? = some w) (hf : w.epoch ≤ f) : garb l x.epoch f = true := by
  rw [garb_at hc hi, garbV_at hc hi, hn]; simp [hf]
theorem garb_first (hc : chainP l) (hi : l[i]? = some x) (hn : ∀ w, l[i + 1]? = some w → ¬ w.epoch ≤ f) : garb l x.epoch f = (decide (i = 0) && (x.dead && decide (x.epoch ≤ f))) := by
  rw [garb_at hc hi, garbV_at hc hi]
  cases h : l[i + 1]? with
  | none => simp
  | some w => simp [hn w h]
theorem above_step {m : Nat} (hb : ∀ (j : Nat) (u : Ver), m ≤ j → l[j]? = some u → ¬ u.epoch ≤ e) (hx : l[m - 1]? = some x) (h : ¬ x.epoch ≤ e) : ∀ (j : Nat) (u : Ver), m - 1 ≤ j → l[j]? = some u → ¬ u.epoch ≤ e := fun j u hj hu => by
  rcases Nat.lt_or_ge j m with hm | hm
  · have : j = m - 1 := by omega
    subst this; rw [hx] at hu; cases hu; exact h
  · exact hb j u hm hu
theorem filter_snocY {p : Ver → Bool} (hx : l[i]? = some x) (h : p x = true) : (l.take (i + 1)).filter p = (l.take i).filter p ++ [x] := by
  rw [← take_snoc hx, List.filter_append, List.filter_cons, if_pos h]; rfl
theorem filter_snocN {p : Ver → Bool} (hx : l[i]? = some x) (h : p x = false) : (l.take (i + 1)).filter p = (l.take i).filter p := by
  rw [← take_snoc hx, List.filter_append, List.filter_cons, if_neg (by simp [h])]; simp
/-! ### dropping -/
theorem filter_at (hc : chainP l) (hi : l[i]? = some x) : (l.filter fun v => !(v.epoch == x.epoch)) = l.eraseIdx i := by
  obtain ⟨hlt, hx⟩ := List.getElem?_eq_some_iff.1 hi
  have hl : l = l.take i ++ x :: l.drop (i + 1) := by
    have := List.drop_eq_getElem_cons hlt
    rw [hx] at this; rw [← this, List.take_append_drop]
  rw [List.eraseIdx_eq_take_drop_succ]
  conv => lhs; rw [hl]
  rw [List.filter_append, List.filter_cons]
  simp only [beq_self_eq_true, Bool.not_true, Bool.false_eq_true, ↓reduceIte]
  congr 1
  · rw [List.filter_eq_self]
    intro a ha
    obtain ⟨k, hk⟩ := List.getElem?_of_mem ha
    rw [List.getElem?_take] at hk
    split at hk
    · rename_i h; have := hc.lt h hk hi; simp; omega
    · cases hk
  · rw [List.filter_eq_self]
    intro a ha
    obtain ⟨k, hk⟩ := List.getElem?_of_mem ha
    rw [List.getElem?_drop] at hk
    have := hc.lt (i := i) (j := i + 1 + k) (by omega) hi hk
    simp; omega
theorem chainP.drop (hc : chainP l) : chainP (dropV l e f).1 := by
  unfold dropV; split
  · exact hc.sub List.filter_sublist
  · exact hc
theorem chainP.erase (hc : chainP l) : chainP (l.eraseIdx i) := hc.sub (List.eraseIdx_sublist _ _)
theorem chainP.trimG {n : Nat} (hc : chainP l) : chainP (trimG n l f).1 := by
  induction n generalizing l with
  | zero => exact hc
  | succ n ih =>
    simp only [Tp.trimG]
    split
    · exact ih hc.erase
    · exact hc
theorem chainP.trim (hc : chainP l) : chainP (trimV l f).1 := hc.trimG
theorem chainP.add (hc : chainP l) : chainP (addV l v).1 := by
  unfold addV; split
  · split
    · rename_i h; exact chainB_iff.1 h
    · exact hc
  · exact hc
theorem add_len : (addV l v).1.length ≤ l.length + 1 := by
  unfold addV; split
  · split <;> simp
  · simp
theorem drop_len : (dropV l e f).1.length ≤ l.length := by
  unfold dropV; split
  · exact List.length_filter_le _ _
  · simp
theorem trimG_len {n : Nat} : (trimG n l f).1.length + (trimG n l f).2 = l.length := by
  induction n generalizing l with
  | zero => rfl
  | succ n ih =>
    simp only [Tp.trimG]
    split
    · rename_i k hk
      have hk : k < l.length := by rw [List.findIdx?_eq_some_iff_getElem] at hk; exact hk.1
      have := ih (l := l.eraseIdx k)
      rw [List.length_eraseIdx_of_lt hk] at this
      simp only; omega
    · rfl
theorem trim_len : (trimV l f).1.length + (trimV l f).2 = l.length := trimG_len
theorem drop_hit (hc : chainP l) (hi : l[i]? = some x) (hb : ∀ j u, j < i → l[j]? = some u → (fun v => garbV l v f) u = false) (h : (dropV l x.epoch f).2 = true) : (dropV l x.epoch f).1 = l.eraseIdx i ∧ l.findIdx? (fun v => garbV l v f) = some i := by
  unfold dropV at *
  split at h
  · rename_i hg
    rw [if_pos hg]
    refine ⟨filter_at hc hi, ?_⟩
    obtain ⟨hlt, hx⟩ := List.getElem?_eq_some_iff.1 hi
    rw [List.findIdx?_eq_some_iff_getElem]
    refine ⟨hlt, by rw [hx, ← garb_at hc hi]; exact hg, fun j hj => ?_⟩
    have := hb j l[j] hj (List.getElem?_eq_getElem _)
    simpa using this
  · cases h
theorem drop_miss (hc : chainP l) (hi : l[i]? = some x) (h : (dropV l x.epoch f).2 = false) : garbV l x f = false := by
  unfold dropV at h
  rw [garb_at hc hi] at h
  split at h
  · cases h
  · rename_i hg; simpa using hg
theorem trim_end {l0 : List Ver} {n : Nat} (hI : trimV l0 f = ((trimV l f).1, (trimV l f).2 + n)) (hb : ∀ j u, j < i → l[j]? = some u → (fun v => garbV l v f) u = false) (hi : l.length ≤ i) : trimV l0 f = (l, n) := by
  have : l.findIdx? (fun v => garbV l v f) = none := by
    rw [List.findIdx?_eq_none_iff]
    intro y hy
    obtain ⟨k, hk⟩ := List.getElem?_of_mem hy
    have := (List.getElem?_eq_some_iff.1 hk).1
    exact hb k y (by omega) hk
  rw [hI, trim_none this]; simp
def trimM (n i : Nat) : Nat := (n + 1) * (n + 1) - i
theorem trimM_next {n i : Nat} (h : i < n) : trimM n (i + 1) < trimM n i := by
  unfold trimM
  have : n + 1 ≤ (n + 1) * (n + 1) := Nat.le_mul_of_pos_left _ (by omega)
  omega
theorem trimM_cut {n i : Nat} (h : i < n) : trimM (n - 1) 0 < trimM n i := by
  unfold trimM
  obtain ⟨k, rfl⟩ : ∃ k, n = k + 1 := ⟨n - 1, by omega⟩
  have h1 : (k + 1 + 1) * (k + 1 + 1) = (k + 1) * (k + 1) + (k + 1) + (k + 1) + 1 := by
    simp only [Nat.mul_add, Nat.add_mul]; omega
  simp only [Nat.add_sub_cancel]; omega
theorem trim_len1 : (trimV l f).1.length ≤ l.length := by have := trim_len (l := l) (f := f); omega
/-! ### adding -/
theorem add_no (hc : chainP l) (hr : rightV v = true) (hi : l[i]? = some u) (h : u.epoch ≥ v.epoch) : addV l v = (l, 150) := by
  have : chainB (l ++ [v]) = false := by
    rw [← Bool.not_eq_true, chainB_iff]
    intro hc2
    have hl := (List.getElem?_eq_some_iff.1 hi).1
    have := hc2.lt (v := v) (i := i) (j := l.length) hl (by rw [List.getElem?_append_left hl]; exact hi) (by simp)
    omega
  simp [addV, hr, this]
theorem add_yes (hc : chainP l) (hr : rightV v = true) (hb : ∀ j u, j < i → l[j]? = some u → (fun u : Ver => decide (u.epoch ≥ v.epoch)) u = false) (hi : l.length ≤ i) : addV l v = (l ++ [v], 0) := by
  have : chainB (l ++ [v]) = true := by
    rw [chainB_iff]
    refine ⟨fun y hy => ?_, pairwise_snoc hc.2 fun u hu => ?_⟩
    · rcases List.mem_append.1 hy with hy | hy
      · exact hc.1 y hy
      · simp at hy; subst hy; exact hr
    · obtain ⟨k, hk⟩ := List.getElem?_of_mem (List.mem_of_getLast? hu)
      have h1 := (List.getElem?_eq_some_iff.1 hk).1
      have := hb k u (by omega) hk
      simp at this; exact this
  simp [addV, hr, this]
theorem add_wrong (hr : rightV v = false) : addV l v = (l, 2) := by simp [addV, hr]
end
end Tp
namespace Tp
section
variable {α : Type} {l r : List α} {i : Nat} {x y : α}
theorem same_step (h : l.take i = r.take i) (hx : l[i]? = some x) (hy : r[i]? = some y) (he : x = y) : l.take (i + 1) = r.take (i + 1) := by
  rw [← take_snoc hx, ← take_snoc hy, h, he]
theorem same_no [DecidableEq α] (hx : l[i]? = some x) (hy : r[i]? = some y) (he : x ≠ y) : decide (l = r) = false := by
  rw [decide_eq_false_iff_not]; rintro rfl; rw [hx] at hy; cases hy; exact he rfl
theorem same_yes [DecidableEq α] (h : l.take i = r.take i) (h1 : l.length ≤ i) (h2 : r.length ≤ i) : decide (l = r) = true := by
  rw [List.take_of_length_le h1, List.take_of_length_le h2] at h; simp [h]
theorem same_len [DecidableEq α] (h : l.length ≠ r.length) : decide (l = r) = false := by
  rw [decide_eq_false_iff_not]; rintro rfl; exact h rfl
end
end Tp
namespace Tp
/-- the chapter's chain -/
def exL : List Ver := [⟨2, false, ⟨1, 5, 5, 5⟩⟩, ⟨4, true, aggZ⟩, ⟨7, false, ⟨1, 9, 9, 9⟩⟩]
end Tp
namespace Tp
open Go
/-- a call -/
structure ChAct where
  op : Int
  v : Ver
  floor : Int
deriving DecidableEq, Inhabited
def chActE (a : ChAct) : List Value := .int .u8 a.op :: (verE a.v ++ [.int .u64 a.floor])
theorem chActE_len (a : ChAct) : (chActE a).length = 8 := rfl
theorem chActE_cel (a : ChAct) : Step.Cellish (chActE a) := cel_cons rfl (cel_cons rfl (cel_cons rfl (cel_cons rfl (cel_cons rfl (cel_cons rfl (cel_cons rfl (cel_cons rfl cel_nil)))))))
end Tp
