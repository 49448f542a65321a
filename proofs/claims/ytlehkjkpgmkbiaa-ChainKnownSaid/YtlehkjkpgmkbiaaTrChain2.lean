/- What trimming keeps. -/
import Derived.Test.YtlehkjkpgmkbiaaTrChain
set_option linter.all false
namespace Tp
open Go
section
variable {l m : List Ver} {v u x : Ver} {i j : Nat} {e f g : Int}
theorem garb_mono (h : garb l e f = true) (hfg : f ≤ g) : garb l e g = true := by
  unfold garb garbV at *
  simp only [Bool.and_eq_true, Bool.or_eq_true, decide_eq_true_eq] at *
  obtain ⟨h1, h2⟩ := h
  refine ⟨h1, ?_⟩
  rcases h2 with ⟨h2, h3⟩ | ⟨h2, h3, h4⟩
  · exact .inl ⟨h2, by omega⟩
  · exact .inr ⟨h2, by omega, h4⟩
def atF (e : Int) (a : Agg5) (v : Ver) : Agg5 := if v.epoch ≤ e then v.agg else a
theorem atV_eq : atV l e = l.foldl (atF e) aggZ := rfl
theorem erase_at (hc : chainP l) (hi : l[i]? = some x) (hg : garbV l x f = true) (hfe : f ≤ e) : atV (l.eraseIdx i) e = atV l e := by
  obtain ⟨hlt, hx⟩ := List.getElem?_eq_some_iff.1 hi
  have hl : l = l.take i ++ x :: l.drop (i + 1) := by
    have := List.drop_eq_getElem_cons hlt
    rw [hx] at this; rw [← this, List.take_append_drop]
  rw [List.eraseIdx_eq_take_drop_succ, atV_eq, atV_eq]
  conv => rhs; rw [hl]
  rw [List.foldl_append, List.foldl_append, List.foldl_cons]
  rw [garbV_at hc hi] at hg
  simp only [Bool.or_eq_true, Bool.and_eq_true, decide_eq_true_eq] at hg
  rcases hg with hg | ⟨h0, hd, he⟩
  · cases hn : l[i + 1]? with
    | none => rw [hn] at hg; cases hg
    | some w =>
      rw [hn] at hg
      simp only [decide_eq_true_eq] at hg
      obtain ⟨hlt2, hw⟩ := List.getElem?_eq_some_iff.1 hn
      have h2 := List.drop_eq_getElem_cons hlt2
      rw [hw] at h2
      rw [h2, List.foldl_cons, List.foldl_cons]
      have : ∀ a, atF e a w = w.agg := fun a => if_pos (by omega)
      rw [this, this]
  · subst h0
    have hz : x.agg = aggZ := by
      have := rightV_dead (hc.right hi)
      rw [hd] at this; simpa using this.symm
    simp only [List.take_zero, List.foldl_nil]
    congr 1
    unfold atF; split
    · exact hz.symm
    · rfl
theorem trimG_at {n : Nat} (hc : chainP l) (hfe : f ≤ e) : atV (trimG n l f).1 e = atV l e := by
  induction n generalizing l with
  | zero => rfl
  | succ n ih =>
    simp only [trimG]
    split
    · rename_i k hk
      rw [List.findIdx?_eq_some_iff_getElem] at hk
      obtain ⟨h1, h2, _⟩ := hk
      rw [ih hc.erase]
      exact erase_at hc (List.getElem?_eq_getElem h1) h2 hfe
    · rfl
theorem trim_at (hc : chainP l) (hfe : f ≤ e) : atV (trimV l f).1 e = atV l e := trimG_at hc hfe
theorem trimG_clean {n : Nat} (hn : l.length ≤ n) : (trimG n l f).1.findIdx? (fun v => garbV (trimG n l f).1 v f) = none := by
  induction n generalizing l with
  | zero => have : l = [] := List.length_eq_zero_iff.1 (by omega); subst this; rfl
  | succ n ih =>
    cases h : l.findIdx? (fun v => garbV l v f) with
    | some k =>
      have hk : k < l.length := by rw [List.findIdx?_eq_some_iff_getElem] at h; exact h.1
      have := ih (l := l.eraseIdx k) (by rw [List.length_eraseIdx_of_lt hk]; omega)
      simp only [trimG, h]
      exact this
    | none =>
      simp only [trimG, h]
theorem trim_clean (hc : chainP (trimV l f).1) (hi : (trimV l f).1[i]? = some x) : garb (trimV l f).1 x.epoch f = false := by
  have h := trimG_clean (l := l) (f := f) (n := l.length) (Nat.le_refl _)
  rw [List.findIdx?_eq_none_iff] at h
  have := h x (List.mem_of_getElem? hi)
  rw [garb_at hc hi]
  exact this
/-- what is at most the floor, where nothing is garbage -/
theorem low_first (hc : chainP m) (hg : ∀ (i : Nat) (x : Ver), m[i]? = some x → garb m x.epoch f = false) (hi : m[i]? = some x) (he : x.epoch ≤ f) : i = 0 ∧ x.dead = false := by
  have h0 : i = 0 := by
    rcases Nat.eq_zero_or_pos i with h | h
    · exact h
    · obtain ⟨k, rfl⟩ : ∃ k, i = k + 1 := ⟨i - 1, by omega⟩
      have hk : k < m.length := by have := (List.getElem?_eq_some_iff.1 hi).1; omega
      have h1 := hg k _ (List.getElem?_eq_getElem hk)
      rw [garb_yes hc (List.getElem?_eq_getElem hk) hi he] at h1; cases h1
  refine ⟨h0, ?_⟩
  have h1 := hg i x hi
  rw [garb_at hc hi, garbV_at hc hi] at h1
  simp [h0, he] at h1
  exact h1.2
theorem trim_low (hc : chainP l) (hi : (trimV l f).1[i]? = some x) (he : x.epoch ≤ f) : i = 0 ∧ x.dead = false := low_first hc.trim (fun _ _ h => trim_clean hc.trim h) hi he
end
end Tp
namespace Tp
theorem mem_more {es : List Int} {f a b : Int} (h : ∀ y ∈ es, f ≤ y) (ha : f ≤ a) (hb : f ≤ b) : ∀ y ∈ es ++ [a, b], f ≤ y := fun y hy => by
  simp at hy
  rcases hy with hy | rfl | rfl
  · exact h y hy
  · exact ha
  · exact hb
end Tp
namespace Tp
open Go
theorem wrap_u64 {a : Int} (h : 0 ≤ a ∧ a < 18446744073709551616) : IntKind.u64.wrap a = a := by
  obtain ⟨h1, h2⟩ := h
  first
  | exact IntWalk.u64_in a ⟨h1, by omega⟩
  | (simp [IntKind.wrap, IntKind.signed, IntKind.bits]; omega)
end Tp
