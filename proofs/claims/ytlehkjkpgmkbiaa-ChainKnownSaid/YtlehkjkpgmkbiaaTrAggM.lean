/- Aggregates, and versions, as plain data. -/
import Derived.Test.YtlehkjkpgmkbiaaTrRange
import Derived.Test.YtlehkjkpgmkbiaaTrArenaM
namespace Tp
open Go
structure Agg5 where
  count : Int
  sum : Int
  min : Int
  max : Int
deriving DecidableEq, Inhabited
structure Ver where
  epoch : Int
  dead : Bool
  agg : Agg5
deriving DecidableEq, Inhabited
def aggE (a : Agg5) : List Value := [.int .i64 a.count, .int .i64 a.sum, .int .i64 a.min, .int .i64 a.max]
theorem aggE_len (a : Agg5) : (aggE a).length = 4 := rfl
theorem aggE_cel (a : Agg5) : Step.Cellish (aggE a) := cel_cons rfl (cel_cons rfl (cel_cons rfl (cel_cons rfl cel_nil)))
def verE (v : Ver) : List Value := [.int .u64 v.epoch, .bool v.dead, .int .i64 v.agg.count, .int .i64 v.agg.sum, .int .i64 v.agg.min, .int .i64 v.agg.max]
theorem verE_len (v : Ver) : (verE v).length = 6 := rfl
theorem verE_cel (v : Ver) : Step.Cellish (verE v) := cel_cons rfl (cel_cons rfl (cel_cons rfl (cel_cons rfl (cel_cons rfl (cel_cons rfl cel_nil)))))
def verV (v : Ver) : Value := .agg #[.int .u64 v.epoch, .bool v.dead, .int .i64 v.agg.count, .int .i64 v.agg.sum, .int .i64 v.agg.min, .int .i64 v.agg.max]
def u64E (n : Int) : List Value := [.int .u64 n]
theorem u64E_len (n : Int) : (u64E n).length = 1 := rfl
theorem u64E_cel (n : Int) : Step.Cellish (u64E n) := cel_cons rfl cel_nil
theorem agg_eqB (a b : Agg5) : ((a.count : Int) == (b.count : Int) && ((a.sum : Int) == (b.sum : Int) && ((a.min : Int) == (b.min : Int) && ((a.max : Int) == (b.max : Int) && true)))) = decide (a = b) := by
  cases a; cases b
  rw [Bool.eq_iff_iff]; simp
theorem ver_eqB (a b : Ver) : ((a.epoch : Int) == (b.epoch : Int) && (((a.dead : Bool) == (b.dead : Bool)) && (((a.agg.count : Int) == (b.agg.count : Int) && ((a.agg.sum : Int) == (b.agg.sum : Int) && ((a.agg.min : Int) == (b.agg.min : Int) && ((a.agg.max : Int) == (b.agg.max : Int) && true)))) && true))) = decide (a = b) := by
  rw [agg_eqB]
  cases a; cases b
  rw [Bool.eq_iff_iff]; simp
def aggZ : Agg5 := ⟨0, 0, 0, 0⟩
def verZ : Ver := ⟨0, false, aggZ⟩
def aggRight (a : Agg5) : Bool := decide (a = aggZ) || (decide (a.count > 0) && (decide (a.min ≤ a.max) && (decide (a.count > 1) || decide (a = ⟨1, a.sum, a.sum, a.sum⟩))))
theorem aggRight_one {a : Agg5} (h0 : a ≠ aggZ) (h1 : a.count = 1) : aggRight a = (decide (a.sum = a.min) && decide (a.min = a.max)) := by
  obtain ⟨c, s, m, x⟩ := a
  simp only at h1; subst h1
  simp only [aggRight, aggZ] at *
  rw [Bool.eq_iff_iff]
  simp at *
  omega
theorem aggRight_many {a : Agg5} (h0 : a ≠ aggZ) (h1 : a.count ≠ 1) : aggRight a = (decide (a.count > 1) && decide (a.min ≤ a.max)) := by
  obtain ⟨c, s, m, x⟩ := a
  simp only [aggRight, aggZ] at *
  rw [Bool.eq_iff_iff]
  simp at *
  constructor
  · rintro (h | ⟨h1, h2, h3⟩)
    · omega
    · omega
  · intro h; right; omega
/-! ### Chains -/
def rightV (v : Ver) : Bool := decide (v.epoch > 0) && (aggRight v.agg && (decide (v.agg = aggZ) == v.dead))
def chainP (l : List Ver) : Prop := (∀ v, v ∈ l → rightV v = true) ∧ l.Pairwise fun a b => a.epoch < b.epoch
instance (l : List Ver) : Decidable (chainP l) := inferInstanceAs (Decidable (_ ∧ _))
def chainB (l : List Ver) : Bool := decide (chainP l)
section
variable {l : List Ver} {v u : Ver} {i : Nat} {e f : Int}
theorem pairwise_snoc {l : List Ver} {v : Ver} (h : l.Pairwise fun a b => a.epoch < b.epoch) (hl : ∀ u, l.getLast? = some u → u.epoch < v.epoch) : (l ++ [v]).Pairwise fun a b => a.epoch < b.epoch := by
  refine List.pairwise_append.2 ⟨h, List.pairwise_singleton _ _, fun a ha b hb => ?_⟩
  simp at hb; subst hb
  cases hu : l.getLast? with
  | none => rw [List.getLast?_eq_none_iff] at hu; subst hu; cases ha
  | some u =>
    have h1 := hl u hu
    obtain ⟨l', rfl⟩ := List.getLast?_eq_some_iff.1 hu
    rcases List.mem_append.1 ha with ha | ha
    · have := (List.pairwise_append.1 h).2.2 a ha u (by simp)
      omega
    · simp at ha; subst ha; exact h1
theorem chain_step (h : chainP (l.take i)) (hi : l[i]? = some v) (hr : rightV v = true) (hl : i = 0 ∨ ∃ u, l[i - 1]? = some u ∧ u.epoch < v.epoch) : chainP (l.take (i + 1)) := by
  rw [← take_snoc hi]
  refine ⟨fun x hx => ?_, pairwise_snoc h.2 fun u hu => ?_⟩
  · rcases List.mem_append.1 hx with hx | hx
    · exact h.1 x hx
    · simp at hx; subst hx; exact hr
  · rcases hl with rfl | ⟨u', h1, h2⟩
    · simp at hu
    · have hlt := (List.getElem?_eq_some_iff.1 hi).1
      rw [List.getLast?_take] at hu
      split at hu
      · cases hu
      · rename_i hne
        rw [h1] at hu
        simp at hu; subst hu; exact h2
theorem chain_no (hi : l[i]? = some v) (hn : rightV v = false ∨ ∃ u, 0 < i ∧ l[i - 1]? = some u ∧ v.epoch ≤ u.epoch) : chainB l = false := by
  unfold chainB
  rw [decide_eq_false_iff_not]
  rintro ⟨h1, h2⟩
  rcases hn with hn | ⟨u, h0, hu, hle⟩
  · rw [h1 v (List.mem_of_getElem? hi)] at hn; cases hn
  · obtain ⟨a1, a2⟩ := List.getElem?_eq_some_iff.1 hi
    obtain ⟨b1, b2⟩ := List.getElem?_eq_some_iff.1 hu
    have := List.pairwise_iff_getElem.1 h2 (i - 1) i b1 a1 (by omega)
    rw [a2, b2] at this; omega
theorem chain_yes (h : chainP (l.take i)) (hi : l.length ≤ i) : chainB l = true := by
  rw [List.take_of_length_le hi] at h; simpa [chainB] using h
/-- what is told at an epoch -/
def atV (l : List Ver) (e : Int) : Agg5 := l.foldl (fun a v => if v.epoch ≤ e then v.agg else a) aggZ
theorem atV_snoc (hi : l[i]? = some v) : atV (l.take (i + 1)) e = if v.epoch ≤ e then v.agg else atV (l.take i) e := by
  rw [← take_snoc hi]; simp [atV]
def firstV (p : Ver → Bool) (l : List Ver) : Ver × Bool := match l.find? p with
  | some v => (v, true)
  | none => (verZ, false)
def nextV (l : List Ver) (e : Int) : Ver × Bool := firstV (fun v => decide (v.epoch > e)) l
theorem firstV_hit {p : Ver → Bool} (hi : l[i]? = some v) (hp : p v = true) (hb : ∀ j u, j < i → l[j]? = some u → p u = false) : firstV p l = (v, true) := by
  obtain ⟨h1, h2⟩ := List.getElem?_eq_some_iff.1 hi
  have : l.find? p = some v := by
    rw [List.find?_eq_some_iff_getElem]
    refine ⟨hp, i, h1, h2, fun j hj => ?_⟩
    have := hb j l[j] hj (List.getElem?_eq_getElem _)
    simp [this]
  simp [firstV, this]
theorem firstV_none {p : Ver → Bool} (hb : ∀ j u, j < i → l[j]? = some u → p u = false) (hi : l.length ≤ i) : firstV p l = (verZ, false) := by
  have : l.find? p = none := by
    rw [List.find?_eq_none]
    intro x hx
    obtain ⟨j, hj⟩ := List.getElem?_of_mem hx
    have h1 := (List.getElem?_eq_some_iff.1 hj).1
    rw [hb j x (by omega) hj]; simp
  simp [firstV, this]
theorem below_step {p : Ver → Bool} (hb : ∀ j u, j < i → l[j]? = some u → p u = false) (hi : l[i]? = some v) (hp : p v = false) : ∀ j u, j < i + 1 → l[j]? = some u → p u = false := fun j u hj hu => by
  rcases Nat.lt_or_ge j i with h | h
  · exact hb j u h hu
  · have : j = i := by omega
    subst this; rw [hi] at hu; cases hu; exact hp
/-- garbage, by the program -/
def garbV (l : List Ver) (v : Ver) (f : Int) : Bool :=
  ((nextV l v.epoch).2 && decide ((nextV l v.epoch).1.epoch ≤ f)) || (v.dead && (decide (v.epoch ≤ f) && (match l[0]? with | some u => u.epoch == v.epoch | none => false)))
def garb (l : List Ver) (e f : Int) : Bool := (firstV (fun v => v.epoch == e) l).2 && garbV l (firstV (fun v => v.epoch == e) l).1 f
def dropV (l : List Ver) (e f : Int) : List Ver × Bool := if garb l e f then (l.filter fun v => !(v.epoch == e), true) else (l, false)
def trimG : Nat → List Ver → Int → List Ver × Nat
  | 0, l, _ => (l, 0)
  | n + 1, l, f => match l.findIdx? (fun v => garbV l v f) with
    | some i => ((trimG n (l.eraseIdx i) f).1, (trimG n (l.eraseIdx i) f).2 + 1)
    | none => (l, 0)
def trimV (l : List Ver) (f : Int) : List Ver × Nat := trimG l.length l f
def addV (l : List Ver) (v : Ver) : List Ver × Int := if rightV v then (if chainB (l ++ [v]) then (l ++ [v], 0) else (l, 150)) else (l, 2)
/-! ### By the reference -/
def refAt (l : List Ver) (e : Int) : Agg5 × Bool := match l.reverse.find? (fun v => decide (v.epoch ≤ e)) with
  | some v => (v.agg, !v.dead)
  | none => (aggZ, false)
def refGarb (l : List Ver) (e f : Int) : Bool := match l.findIdx? (fun v => v.epoch == e) with
  | some i => (match l[i + 1]? with | some u => decide (u.epoch ≤ f) | none => false) || (decide (i = 0) && ((match l[i]? with | some v => v.dead | none => false) && decide (e ≤ f)))
  | none => false
def refDrop (l : List Ver) (e f : Int) : List Ver × Bool := if refGarb l e f then (l.filter fun v => !(v.epoch == e), true) else (l, false)
def refDiffers (l : List Ver) (a b : Int) : Bool := ((refAt l a).2 != (refAt l b).2) || ((refAt l a).2 && !decide ((refAt l a).1 = (refAt l b).1))
def refAdd (l : List Ver) (v : Ver) : List Ver × Int := if rightV v then (if l.any (fun u => decide (u.epoch ≥ v.epoch)) then (l, 150) else (l ++ [v], 0)) else (l, 2)
end
end Tp
namespace Tp
open Go
section
variable {l : List Ver} {v u : Ver} {i : Nat} {e f : Int}
theorem trim_none (h : l.findIdx? (fun v => garbV l v f) = none) : trimV l f = (l, 0) := by
  unfold trimV
  cases hl : l.length with
  | zero => rfl
  | succ n => simp only [trimG, h]
theorem trim_some (h : l.findIdx? (fun v => garbV l v f) = some i) : trimV l f = ((trimV (l.eraseIdx i) f).1, (trimV (l.eraseIdx i) f).2 + 1) := by
  have hi : i < l.length := by
    rw [List.findIdx?_eq_some_iff_getElem] at h; exact h.1
  unfold trimV
  have hl : l.length = (l.eraseIdx i).length + 1 := by rw [List.length_eraseIdx_of_lt hi]; omega
  rw [hl]
  simp only [trimG, h]
theorem trim_next {l0 : List Ver} {n : Nat} (hI : trimV l0 f = ((trimV l f).1, (trimV l f).2 + n)) (h : l.findIdx? (fun v => garbV l v f) = some i) : trimV l0 f = ((trimV (l.eraseIdx i) f).1, (trimV (l.eraseIdx i) f).2 + (n + 1)) := by
  rw [hI, trim_some h]
  simp only [Prod.mk.injEq, true_and]; omega
theorem erase_take_drop {α : Type} (l : List α) (i : Nat) : l.take (Int.toNat (i : Int)) ++ l.drop (Int.toNat ((i : Int) + 1)) = l.eraseIdx i := by
  rw [List.eraseIdx_eq_take_drop_succ]
  have : Int.toNat ((i : Int) + 1) = i + 1 := by omega
  rw [this, Int.toNat_natCast]
end
end Tp
