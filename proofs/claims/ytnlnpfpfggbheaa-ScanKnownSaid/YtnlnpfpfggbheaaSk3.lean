/- Proved here: lemmas and walks on which the claim stands (part 3 of 7). No condition. -/
import Derived.Test.YtnlnpfpfggbheaaSk2
set_option linter.all false
namespace Tp
open Go
def sLt (a b : ByteArray) : Bool := Op.bytesLess a.toList b.toList
theorem bl_irrefl : ∀ x : List UInt8, Op.bytesLess x x = false
  | [] => rfl
  | a :: x => by simp [Op.bytesLess, bl_irrefl x]
theorem bl_trans : ∀ x y z : List UInt8, Op.bytesLess x y = true → Op.bytesLess y z = true → Op.bytesLess x z = true
  | _, _, [], _, h => by simp [Op.bytesLess] at h
  | _, [], _ :: _, h, _ => by cases ‹List UInt8› <;> simp [Op.bytesLess] at h
  | [], _ :: _, _ :: _, _, _ => rfl
  | a :: x, b :: y, c :: z, h1, h2 => by
    simp only [Op.bytesLess, Bool.or_eq_true, Bool.and_eq_true, decide_eq_true_eq, beq_iff_eq] at *
    rcases h1 with h1 | ⟨rfl, h1⟩
    · rcases h2 with h2 | ⟨rfl, h2⟩
      · exact .inl (UInt8.lt_trans h1 h2)
      · exact .inl h1
    · rcases h2 with h2 | ⟨rfl, h2⟩
      · exact .inl h2
      · exact .inr ⟨rfl, bl_trans x y z h1 h2⟩
theorem bl_total : ∀ x y : List UInt8, Op.bytesLess x y = false → Op.bytesLess y x = false → x = y
  | [], [], _, _ => rfl
  | [], _ :: _, h, _ => by simp [Op.bytesLess] at h
  | _ :: _, [], _, h => by simp [Op.bytesLess] at h
  | a :: x, b :: y, h1, h2 => by
    simp only [Op.bytesLess, Bool.or_eq_false_iff, Bool.and_eq_false_imp, decide_eq_false_iff_not, beq_iff_eq] at *
    have e : a = b := by
      have h3 := h1.1; have h4 := h2.1
      rw [UInt8.lt_iff_toNat_lt] at h3 h4
      apply UInt8.toNat_inj.1; omega
    subst e
    rw [bl_total x y (h1.2 rfl) (h2.2 rfl)]
theorem sLt_irrefl (a : ByteArray) : sLt a a = false := bl_irrefl _
theorem sLt_trans {a b c : ByteArray} (h1 : sLt a b = true) (h2 : sLt b c = true) : sLt a c = true := bl_trans _ _ _ h1 h2
theorem sLt_total {a b : ByteArray} (h1 : sLt a b = false) (h2 : sLt b a = false) : a = b := toList_inj (bl_total _ _ h1 h2)
theorem sLt_asymm {a b : ByteArray} (h : sLt a b = true) : sLt b a = false := by
  cases h' : sLt b a with
  | false => rfl
  | true => have := sLt_trans h h'; rw [sLt_irrefl] at this; cases this
theorem sEq_iff {a b : ByteArray} : (a.toList == b.toList) = true ↔ a = b := by
  rw [beq_iff_eq]; exact ⟨toList_inj, fun h => by rw [h]⟩
theorem sEq_dec (a b : ByteArray) : (a.toList == b.toList) = decide (a = b) := by
  rw [Bool.eq_iff_iff, sEq_iff, decide_eq_true_iff]
theorem sLt_ne {a b : ByteArray} (h : sLt a b = true) : a ≠ b := fun e => by subst e; rw [sLt_irrefl] at h; cases h
end Tp
namespace Tp
open Go
def atA (l : List RPlace) (h : Handle) : Option Nd := if rhas l h then some (rnode l h.at_.toNat) else none
section
variable {l : List RPlace} {h h' : Handle} {n m : Nd}
theorem atA_has (e : atA l h = some n) : rhas l h = true := by
  unfold atA at e
  cases hh : rhas l h with
  | true => rfl
  | false => rw [hh] at e; cases e
theorem atA_get (e : atA l h = some n) : rget l h = (n, 0) := by
  have hh := atA_has e
  unfold atA at e
  rw [if_pos hh] at e
  unfold rget
  rw [if_pos hh, Option.some.inj e]
theorem atA_eq (l : List RPlace) (h : Handle) : atA l h = if 0 ≤ h.at_ then (match l[h.at_.toNat]? with | some p => if p.used = true ∧ p.turn = h.turn then some p.node else none | none => none) else none := by
  unfold atA rhas rnode
  by_cases h0 : 0 ≤ h.at_
  · simp only [h0, decide_true, Bool.true_and, if_true, ge_iff_le]
    cases hp : l[h.at_.toNat]? with
    | none => simp
    | some p => by_cases hu : p.used = true <;> by_cases ht : p.turn = h.turn <;> simp [hu, ht]
  · simp [h0]
theorem put_at (e : atA l h = some n) : atA (rput l h m).1 h' = if h' = h then some m else atA l h' := by
  have hh := atA_has e
  obtain ⟨p, hp, hu, ht, h0, hlt⟩ := rhas_place hh
  rw [rput_hit hh]
  simp only
  rw [atA_eq, atA_eq]
  by_cases h0' : 0 ≤ h'.at_
  · rw [if_pos h0', if_pos h0']
    by_cases hi : h.at_.toNat = h'.at_.toNat
    · rw [← hi, List.getElem?_set_self hlt, hp]
      simp only [hu, true_and]
      have ha : h.at_ = h'.at_ := by omega
      by_cases ht' : h.turn = h'.turn
      · rw [if_pos ht', if_pos (handle_ext ha.symm ht'.symm)]
      · rw [if_neg ht', if_neg (fun e => ht' (by rw [e])), if_neg (by rw [ht]; exact ht')]
    · rw [List.getElem?_set_ne hi, if_neg (fun e => hi (by rw [e]))]
  · rw [if_neg h0', if_neg h0', if_neg (fun e => h0' (by rw [e]; exact h0))]
theorem make_turn : (∃ p, l[leastF l]? = some p ∧ p.used = false ∧ rmake l m = (l.set (leastF l) ⟨true, p.turn + 1, m⟩, ⟨leastF l, p.turn + 1⟩)) ∨ (leastF l = l.length ∧ rmake l m = (l ++ [⟨true, 1, m⟩], ⟨leastF l, 1⟩)) := by
  rcases Nat.lt_or_ge (leastF l) l.length with hl | hl
  · obtain ⟨p, hp⟩ : ∃ p, l[leastF l]? = some p := ⟨_, List.getElem?_eq_getElem hl⟩
    exact .inl ⟨p, hp, leastF_free hp, rmake_old hp⟩
  · have : leastF l = l.length := Nat.le_antisymm leastF_le hl
    exact .inr ⟨this, rmake_new this⟩
theorem make_none : atA l (rmake l m).2 = none := by
  rcases make_turn (l := l) (m := m) with ⟨p, hp, hu, e⟩ | ⟨hl, e⟩
  · rw [e, atA_eq]; simp [hp, hu]
  · rw [e, atA_eq]; simp [hl]
theorem make_at : atA (rmake l m).1 h' = if h' = (rmake l m).2 then some m else atA l h' := by
  rcases make_turn (l := l) (m := m) with ⟨p, hp, hu, e⟩ | ⟨hl, e⟩
  · have hlt := (List.getElem?_eq_some_iff.1 hp).1
    rw [e]; simp only
    rw [atA_eq, atA_eq]
    by_cases h0' : 0 ≤ h'.at_
    · rw [if_pos h0', if_pos h0']
      by_cases hi : leastF l = h'.at_.toNat
      · rw [← hi, List.getElem?_set_self hlt, hp]
        have ha : (leastF l : Int) = h'.at_ := by omega
        simp only [hu]
        by_cases ht' : p.turn + 1 = h'.turn
        · rw [if_pos ⟨trivial, ht'⟩, if_pos (handle_ext ha.symm ht'.symm)]
        · rw [if_neg (fun q => ht' q.2), if_neg (fun e => ht' (by rw [e])), if_neg (by simp)]
      · rw [List.getElem?_set_ne hi, if_neg (fun e => hi (by rw [e]; simp))]
    · rw [if_neg h0', if_neg h0', if_neg (fun e => h0' (by rw [e]; exact Int.natCast_nonneg _))]
  · rw [e]; simp only
    rw [atA_eq, atA_eq]
    by_cases h0' : 0 ≤ h'.at_
    · rw [if_pos h0', if_pos h0']
      rcases Nat.lt_trichotomy h'.at_.toNat l.length with hlt | heq | hgt
      · rw [List.getElem?_append_left hlt, if_neg (fun e => by rw [e] at hlt; simp at hlt; omega)]
      · rw [heq, List.getElem?_append_right (Nat.le_refl _), List.getElem?_eq_none (Nat.le_refl l.length)]
        simp only [Nat.sub_self, List.getElem?_cons_zero, true_and]
        by_cases ht' : (1 : Int) = h'.turn
        · rw [if_pos ht', if_pos (handle_ext (by simp only; omega) ht'.symm)]
        · rw [if_neg ht', if_neg (fun e => ht' (by rw [e]))]
      · rw [List.getElem?_eq_none (by simp; omega), List.getElem?_eq_none (by omega), if_neg (fun e => by rw [e] at hgt; simp at hgt; omega)]
    · rw [if_neg h0', if_neg h0', if_neg (fun e => h0' (by rw [e]; exact Int.natCast_nonneg _))]
theorem free_is (hh : rhas l h = true) : rfree l [h] = (free1 l h, 0) := by
  rw [rfree_hit (by simp [freeable, hh])]; rfl
theorem free_at (e : atA l h = some n) : atA (rfree l [h]).1 h' = if h' = h then none else atA l h' := by
  have hh := atA_has e
  obtain ⟨p, hp, hu, ht, h0, hlt⟩ := rhas_place hh
  rw [free_is hh]
  simp only
  unfold free1
  rw [atA_eq, atA_eq]
  by_cases h0' : 0 ≤ h'.at_
  · rw [if_pos h0', if_pos h0']
    by_cases hi : h.at_.toNat = h'.at_.toNat
    · rw [← hi, List.getElem?_set_self hlt, hp]
      have ha : h.at_ = h'.at_ := by omega
      simp only [hu, true_and, Bool.false_eq_true, false_and, if_false]
      by_cases ht' : h'.turn = h.turn
      · rw [if_pos (handle_ext ha.symm ht')]
      · rw [if_neg (fun e => ht' (by rw [e])), if_neg (by rw [ht]; exact fun e => ht' e.symm)]
    · rw [List.getElem?_set_ne hi, if_neg (fun e => hi (by rw [e]))]
  · rw [if_neg h0', if_neg h0', if_neg (fun e => h0' (by rw [e]; exact h0))]
theorem usedN_set {i : Nat} {p q : RPlace} (hp : l[i]? = some p) : usedN (l.set i q) + (if p.used then 1 else 0) = usedN l + if q.used then 1 else 0 := by
  have hi := (List.getElem?_eq_some_iff.1 hp).1
  have hpe := (List.getElem?_eq_some_iff.1 hp).2
  unfold usedN
  rw [List.countP_set hi, hpe]
  have hc : (if p.used = true then 1 else 0) ≤ List.countP (fun x => x.used) l := by
    split
    · rename_i hu
      exact List.countP_pos_iff.2 ⟨p, List.mem_of_getElem? hp, hu⟩
    · exact Nat.zero_le _
  omega
theorem put_used (e : atA l h = some n) : usedN (rput l h m).1 = usedN l := by
  obtain ⟨p, hp, hu, ht, h0, hlt⟩ := rhas_place (atA_has e)
  rw [rput_hit (atA_has e)]
  have := usedN_set (q := ⟨true, h.turn, m⟩) hp
  simp [hu] at this
  simpa using this
theorem make_used : usedN (rmake l m).1 = usedN l + 1 := by
  rcases make_turn (l := l) (m := m) with ⟨p, hp, hu, e⟩ | ⟨hl, e⟩
  · rw [e]
    have := usedN_set (q := ⟨true, p.turn + 1, m⟩) hp
    simp [hu] at this
    simpa using this
  · rw [e]; simp [usedN]
theorem free_used (e : atA l h = some n) : usedN (rfree l [h]).1 + 1 = usedN l := by
  obtain ⟨p, hp, hu, ht, h0, hlt⟩ := rhas_place (atA_has e)
  rw [free_is (atA_has e)]
  have := usedN_set (q := ⟨false, h.turn, ndZero⟩) hp
  simp [hu] at this
  exact this
def tinyN (n : Nd) : Prop := n.keys.length ≤ 9 ∧ n.kids.length ≤ 10 ∧ n.vals.length ≤ 9
structure BigA (l : List RPlace) (K : Nat) : Prop where
  len : l.length ≤ K
  each : ∀ (i : Nat) (p : RPlace), l[i]? = some p → 0 ≤ p.turn ∧ p.turn ≤ K ∧ tinyN p.node
theorem BigA.small {K : Nat} (hB : BigA l K) (hK : K ≤ 1000000) : SmallA l := by
  refine ⟨by have := hB.len; omega, fun i p hp => ?_⟩
  obtain ⟨h1, h2, h3, h4, h5⟩ := hB.each i p hp
  exact ⟨h1, by omega, by omega, by omega, by omega⟩
theorem BigA.mono {K K' : Nat} (hB : BigA l K) (hK : K ≤ K') : BigA l K' := by
  refine ⟨by have := hB.len; omega, fun i p hp => ?_⟩
  obtain ⟨h1, h2, h3⟩ := hB.each i p hp
  exact ⟨h1, by omega, h3⟩
theorem BigA.nil : BigA [] 0 := ⟨by simp, fun i p hp => by simp at hp⟩
theorem BigA.at {K : Nat} (hB : BigA l K) (e : atA l h = some n) : tinyN n := by
  obtain ⟨p, hp, hu, ht, h0, hlt⟩ := rhas_place (atA_has e)
  have := atA_get e
  rw [rget_hit (atA_has e) hp] at this
  cases this
  exact (hB.each _ _ hp).2.2
theorem BigA.setp {K i : Nat} {q : RPlace} (hB : BigA l K) (h1 : 0 ≤ q.turn) (h2 : q.turn ≤ K) (h3 : tinyN q.node) : BigA (l.set i q) K := by
  refine ⟨by rw [List.length_set]; exact hB.len, fun j p hp => ?_⟩
  rcases Nat.lt_or_ge i l.length with hi | hi
  · rcases Nat.decEq i j with hij | rfl
    · rw [List.getElem?_set_ne hij] at hp; exact hB.each _ _ hp
    · rw [List.getElem?_set_self hi] at hp; cases hp; exact ⟨h1, h2, h3⟩
  · rw [List.set_eq_of_length_le hi] at hp; exact hB.each _ _ hp
theorem BigA.put {K : Nat} (hB : BigA l K) (e : atA l h = some n) (hm : tinyN m) : BigA (rput l h m).1 K := by
  obtain ⟨p, hp, hu, ht, h0, hlt⟩ := rhas_place (atA_has e)
  obtain ⟨h1, h2, _⟩ := hB.each _ _ hp
  rw [rput_hit (atA_has e)]
  exact hB.setp (by simp only; omega) (by simp only; omega) hm
theorem BigA.make {K : Nat} (hB : BigA l K) (hm : tinyN m) : BigA (rmake l m).1 (K + 1) := by
  rcases make_turn (l := l) (m := m) with ⟨p, hp, hu, e⟩ | ⟨hl, e⟩
  · obtain ⟨h1, h2, _⟩ := hB.each _ _ hp
    rw [e]
    exact (hB.mono (Nat.le_succ K)).setp (by simp only; omega) (by simp only; omega) hm
  · rw [e]
    refine ⟨by have := hB.len; simp; omega, fun i p hp => ?_⟩
    simp only at hp
    rcases Nat.lt_or_ge i l.length with hi | hi
    · rw [List.getElem?_append_left hi] at hp
      obtain ⟨h1, h2, h3⟩ := hB.each _ _ hp
      exact ⟨h1, by omega, h3⟩
    · rw [List.getElem?_append_right hi] at hp
      rcases Nat.eq_zero_or_pos (i - l.length) with h0 | h0
      · rw [h0] at hp; cases hp; exact ⟨by simp, by simp only; omega, hm⟩
      · rw [List.getElem?_eq_none (by simp; omega)] at hp; cases hp
theorem BigA.free {K : Nat} (hB : BigA l K) (e : atA l h = some n) : BigA (rfree l [h]).1 K := by
  obtain ⟨p, hp, hu, ht, h0, hlt⟩ := rhas_place (atA_has e)
  obtain ⟨h1, h2, _⟩ := hB.each _ _ hp
  rw [free_is (atA_has e)]
  exact hB.setp (by simp only; omega) (by simp only; omega) ⟨by simp [ndZero], by simp [ndZero], by simp [ndZero]⟩
end
end Tp
namespace Tp
open Go
structure THit where
  key : ByteArray
  val : Int
deriving DecidableEq, Inhabited
def upT (l : List THit) : Prop := l.Pairwise fun a b => sLt a.key b.key = true
def putL (l : List THit) (x : THit) : List THit := l.filter (fun a => sLt a.key x.key) ++ x :: l.filter (fun a => sLt x.key a.key)
def delL (l : List THit) (k : ByteArray) : List THit := l.filter fun a => !decide (a.key = k)
def getL (l : List THit) (k : ByteArray) : Int × Bool := match l.find? (fun a => decide (a.key = k)) with | some a => (a.val, true) | none => (0, false)
def lowT (l : List THit) (k : ByteArray) : Prop := ∀ a, a ∈ l → sLt a.key k = true
def highT (l : List THit) (k : ByteArray) : Prop := ∀ a, a ∈ l → sLt k a.key = true
section
variable {P Q c l : List THit} {x z a b : THit} {k : ByteArray}
theorem lowT_filter (h : lowT P k) : P.filter (fun a => sLt a.key k) = P := List.filter_eq_self.2 h
theorem lowT_filter' (h : lowT P k) : P.filter (fun a => sLt k a.key) = [] := List.filter_eq_nil_iff.2 fun a ha => by rw [sLt_asymm (h a ha)]; simp
theorem highT_filter (h : highT P k) : P.filter (fun a => sLt k a.key) = P := List.filter_eq_self.2 h
theorem highT_filter' (h : highT P k) : P.filter (fun a => sLt a.key k) = [] := List.filter_eq_nil_iff.2 fun a ha => by rw [sLt_asymm (h a ha)]; simp
theorem putL_mid (hP : lowT P x.key) (hQ : highT Q x.key) : putL (P ++ c ++ Q) x = P ++ putL c x ++ Q := by
  unfold putL
  simp only [List.filter_append, lowT_filter hP, lowT_filter' hP, highT_filter hQ, highT_filter' hQ, List.append_assoc, List.nil_append, List.append_nil, List.cons_append]
theorem putL_nil : putL [] x = [x] := rfl
theorem putL_one (h : z.key = x.key) : putL [z] x = [x] := by unfold putL; simp [h, sLt_irrefl]
theorem putL_hit (hP : lowT P x.key) (hQ : highT Q x.key) (h : z.key = x.key) : putL (P ++ z :: Q) x = P ++ x :: Q := by
  have := putL_mid (c := [z]) hP hQ
  rw [putL_one h] at this
  simpa using this
theorem putL_new (hP : lowT P x.key) (hQ : highT Q x.key) : putL (P ++ Q) x = P ++ x :: Q := by
  have := putL_mid (c := []) hP hQ
  rw [putL_nil] at this
  simpa using this
theorem low_ne (h : lowT P k) : ∀ a, a ∈ P → a.key ≠ k := fun a ha => sLt_ne (h a ha)
theorem high_ne (h : highT P k) : ∀ a, a ∈ P → a.key ≠ k := fun a ha e => sLt_ne (h a ha) e.symm
theorem delL_self (h : ∀ a, a ∈ P → a.key ≠ k) : delL P k = P := List.filter_eq_self.2 fun a ha => by simpa using h a ha
theorem delL_app : delL (P ++ Q) k = delL P k ++ delL Q k := List.filter_append ..
theorem delL_mid (hP : lowT P k) (hQ : highT Q k) : delL (P ++ c ++ Q) k = P ++ delL c k ++ Q := by
  rw [delL_app, delL_app, delL_self (low_ne hP), delL_self (high_ne hQ)]
theorem delL_hit (hP : lowT P k) (hQ : highT Q k) (h : z.key = k) : delL (P ++ z :: Q) k = P ++ Q := by
  rw [delL_app, delL_self (low_ne hP)]
  have : delL (z :: Q) k = delL Q k := by unfold delL; simp [h]
  rw [this, delL_self (high_ne hQ)]
theorem getL_skip (h : ∀ a, a ∈ P → a.key ≠ k) : getL (P ++ c) k = getL c k := by
  unfold getL
  rw [List.find?_append, List.find?_eq_none.2 (fun a ha => by simpa using h a ha)]
  rfl
theorem getL_skipR (h : ∀ a, a ∈ Q → a.key ≠ k) : getL (c ++ Q) k = getL c k := by
  unfold getL
  have hn : List.find? (fun a => decide (a.key = k)) Q = none := List.find?_eq_none.2 (fun a ha => by simpa using h a ha)
  rw [List.find?_append, hn]
  cases List.find? (fun a => decide (a.key = k)) c <;> rfl
theorem getL_mid (hP : lowT P k) (hQ : highT Q k) : getL (P ++ c ++ Q) k = getL c k := by
  rw [getL_skipR (high_ne hQ), getL_skip (low_ne hP)]
theorem getL_hit (hP : lowT P k) (h : z.key = k) : getL (P ++ z :: Q) k = (z.val, true) := by
  rw [getL_skip (low_ne hP)]; unfold getL; simp [h]
theorem getL_no (hP : lowT P k) (hQ : highT Q k) : getL (P ++ Q) k = (0, false) := by
  rw [getL_skip (low_ne hP)]
  have := getL_skipR (c := []) (high_ne hQ)
  rw [List.nil_append] at this
  rw [this]; rfl
theorem getL_mem (h : (getL l k).2 = true) : ∃ a, a ∈ l ∧ a.key = k := by
  unfold getL at h
  cases e : List.find? (fun a => decide (a.key = k)) l with
  | none => rw [e] at h; cases h
  | some a => exact ⟨a, List.mem_of_find?_eq_some e, by simpa using List.find?_some e⟩
theorem upT_app : upT (P ++ Q) ↔ upT P ∧ upT Q ∧ ∀ a, a ∈ P → ∀ b, b ∈ Q → sLt a.key b.key = true := List.pairwise_append
theorem upT_cons : upT (z :: Q) ↔ highT Q z.key ∧ upT Q := List.pairwise_cons
theorem lowT_last (h : upT (P ++ [z])) (hz : sLt z.key k = true) : lowT (P ++ [z]) k := by
  intro a ha
  rcases List.mem_append.1 ha with ha | ha
  · exact sLt_trans ((upT_app.1 h).2.2 a ha z (List.mem_singleton.2 rfl)) hz
  · rw [List.mem_singleton.1 ha]; exact hz
theorem highT_head (h : upT (z :: Q)) (hz : sLt k z.key = true) : highT (z :: Q) k := by
  intro a ha
  rcases List.mem_cons.1 ha with rfl | ha
  · exact hz
  · exact sLt_trans hz ((upT_cons.1 h).1 a ha)
theorem lowT_nil : lowT [] k := fun _ h => by cases h
theorem highT_nil : highT [] k := fun _ h => by cases h
theorem upT_parts (h : upT (P ++ z :: Q)) : lowT P z.key ∧ highT Q z.key := ⟨fun a ha => (upT_app.1 h).2.2 a ha z (by simp), (upT_cons.1 (upT_app.1 h).2.1).1⟩
theorem putL_up (h : upT l) : upT (putL l x) := by
  unfold putL
  rw [upT_app, upT_cons]
  refine ⟨h.filter _, ⟨fun a ha => (List.mem_filter.1 ha).2, h.filter _⟩, fun a ha b hb => ?_⟩
  have ha := (List.mem_filter.1 ha).2
  rcases List.mem_cons.1 hb with rfl | hb
  · exact ha
  · exact sLt_trans ha (List.mem_filter.1 hb).2
theorem delL_up (h : upT l) : upT (delL l k) := h.filter _
def bsI (ks : List ByteArray) (k : ByteArray) : Nat := ks.findIdx fun x => !sLt x k
def bsF (ks : List ByteArray) (k : ByteArray) : Bool := decide (ks[bsI ks k]? = some k)
theorem bsI_le (ks : List ByteArray) (k : ByteArray) : bsI ks k ≤ ks.length := List.findIdx_le_length
theorem bs_hit (h : upT l) (hf : bsF (l.map THit.key) k = true) : ∃ P z Q, l = P ++ z :: Q ∧ P.length = bsI (l.map THit.key) k ∧ z.key = k ∧ lowT P k ∧ highT Q k := by
  unfold bsF at hf
  rw [decide_eq_true_eq, List.getElem?_map] at hf
  cases hz : l[bsI (l.map THit.key) k]? with
  | none => rw [hz] at hf; cases hf
  | some z =>
    rw [hz] at hf
    simp only [Option.map_some, Option.some.injEq] at hf
    obtain ⟨hlt, he⟩ := List.getElem?_eq_some_iff.1 hz
    have hl : l = l.take (bsI (l.map THit.key) k) ++ z :: l.drop (bsI (l.map THit.key) k + 1) := by
      rw [← he, ← List.drop_eq_getElem_cons hlt, List.take_append_drop]
    have hp := upT_parts (hl ▸ h)
    exact ⟨_, z, _, hl, by rw [List.length_take]; omega, hf, hf ▸ hp.1, hf ▸ hp.2⟩
theorem bs_miss (h : upT l) (hf : bsF (l.map THit.key) k = false) : ∃ P Q, l = P ++ Q ∧ P.length = bsI (l.map THit.key) k ∧ lowT P k ∧ highT Q k := by
  refine ⟨l.take (bsI (l.map THit.key) k), l.drop (bsI (l.map THit.key) k), (List.take_append_drop ..).symm, by rw [List.length_take]; have := bsI_le (l.map THit.key) k; rw [List.length_map] at this; omega, ?_, ?_⟩
  · intro a ha
    obtain ⟨j, hj, he⟩ := List.mem_take_iff_getElem.1 ha
    have hlt : j < (l.map THit.key).findIdx fun x => !sLt x k := by unfold bsI at hj; omega
    have := List.not_of_lt_findIdx hlt
    simp at this
    rw [← he]; exact this
  · cases hd : l.drop (bsI (l.map THit.key) k) with
    | nil => exact highT_nil
    | cons z Q =>
      have hz : l[bsI (l.map THit.key) k]? = some z := by
        have := congrArg (fun q => q[0]?) hd
        simpa using this
      refine highT_head (by rw [← hd]; exact List.Pairwise.sublist (List.drop_sublist _ _) h) ?_
      have h1 : sLt z.key k = false := by
        have hlt := (List.getElem?_eq_some_iff.1 hz).1
        have := List.findIdx_getElem (p := fun x => !sLt x k) (xs := l.map THit.key) (w := by simpa [bsI] using hlt)
        simp only [List.getElem_map, Bool.not_eq_true'] at this
        rw [← (List.getElem?_eq_some_iff.1 hz).2]; exact this
      have h2 : z.key ≠ k := by
        intro e
        unfold bsF at hf
        rw [List.getElem?_map, hz] at hf
        simp [e] at hf
      cases h3 : sLt k z.key with
      | true => rfl
      | false => exact absurd (sLt_total h1 h3) h2
end
inductive BT where
  | mk (h : Handle) (ks : List THit) (ts : List BT)
namespace BT
def h : BT → Handle | mk h _ _ => h
def ks : BT → List THit | mk _ k _ => k
def ts : BT → List BT | mk _ _ t => t
end BT
def weave : List (List THit) → List THit → List THit
  | a :: ar_, k :: ks => a ++ k :: weave ar_ ks
  | a :: _, [] => a
  | [], ks => ks
def flatB : Nat → BT → List THit
  | 0, t => t.ks
  | d + 1, t => weave (t.ts.map (flatB d)) t.ks
def hsB : Nat → BT → List Handle
  | 0, t => [t.h]
  | d + 1, t => t.h :: t.ts.flatMap (hsB d)
def nodeB (d : Nat) (t : BT) : Nd := ⟨d == 0, t.ks.map THit.key, if d = 0 then [] else t.ts.map BT.h, t.ks.map THit.val⟩
def HoldsB (l : List RPlace) : Nat → BT → Prop
  | 0, t => atA l t.h = some (nodeB 0 t)
  | d + 1, t => atA l t.h = some (nodeB (d + 1) t) ∧ ∀ s, s ∈ t.ts → HoldsB l d s
def okB : Nat → Nat → BT → Prop
  | lo, 0, t => lo ≤ t.ks.length ∧ t.ks.length ≤ 4
  | lo, d + 1, t => lo ≤ t.ks.length ∧ t.ks.length ≤ 4 ∧ t.ts.length = t.ks.length + 1 ∧ ∀ s, s ∈ t.ts → okB 2 d s
section
variable {A B T1 T2 : List (List THit)} {K1 K2 : List THit} {c : List THit} {m : THit}
def preW (A : List (List THit)) (K : List THit) : List THit := (A.zip K).flatMap fun p => p.1 ++ [p.2]
def sufW (K : List THit) (B : List (List THit)) : List THit := (K.zip B).flatMap fun p => p.1 :: p.2
theorem weave_suf : ∀ {B : List (List THit)} {K2 c : List THit}, B.length = K2.length → weave (c :: B) K2 = c ++ sufW K2 B
  | [], [], c, _ => by simp [weave, sufW]
  | b :: B, k :: K, c, h => by
    have := weave_suf (c := b) (B := B) (K2 := K) (by simpa using h)
    simp only [weave, this, sufW, List.zip_cons_cons, List.flatMap_cons]
    simp [sufW]
  | [], _ :: _, _, h => by simp at h
  | _ :: _, [], _, h => by simp at h
theorem weave_pre : ∀ {A : List (List THit)} {K1 : List THit}, A.length = K1.length → ∀ (B : List (List THit)) (K2 : List THit), weave (A ++ B) (K1 ++ K2) = preW A K1 ++ weave B K2
  | [], [], _, B, K2 => by simp [preW]
  | a :: A, k :: K, h, B, K2 => by
    have := weave_pre (A := A) (K1 := K) (by simpa using h) B K2
    simp only [List.cons_append, weave, this, preW, List.zip_cons_cons, List.flatMap_cons]
    simp [preW]
  | [], _ :: _, h, _, _ => by simp at h
  | _ :: _, [], h, _, _ => by simp at h
theorem weave_mid (hA : A.length = K1.length) (hB : B.length = K2.length) : weave (A ++ c :: B) (K1 ++ K2) = preW A K1 ++ c ++ sufW K2 B := by
  rw [weave_pre hA, weave_suf hB, List.append_assoc]
theorem weave_app (h1 : T1.length = K1.length + 1) : weave (T1 ++ T2) (K1 ++ m :: K2) = weave T1 K1 ++ m :: weave T2 K2 := by
  obtain ⟨A, c, rfl⟩ : ∃ A c, T1 = A ++ [c] := ⟨T1.dropLast, T1.getLast (by rintro rfl; simp at h1), (List.dropLast_concat_getLast _).symm⟩
  have hA : A.length = K1.length := by simpa using h1
  have e1 := weave_pre hA (c :: T2) (m :: K2)
  have e2 := weave_pre hA [c] []
  simp only [List.append_nil] at e2
  rw [List.append_assoc, List.singleton_append, e1, e2]
  simp [weave]
theorem preW_snoc {a : List THit} (hA : A.length = K1.length) : preW (A ++ [a]) (K1 ++ [m]) = preW A K1 ++ (a ++ [m]) := by
  unfold preW
  rw [List.zip_append hA, List.flatMap_append]; simp
theorem sufW_cons {a : List THit} : sufW (m :: K2) (a :: B) = m :: (a ++ sufW K2 B) := by unfold sufW; simp
theorem preW_low {k : ByteArray} (hA : A.length = K1.length) (hu : upT (preW A K1)) (hk : lowT K1 k) : lowT (preW A K1) k := by
  rcases List.eq_nil_or_concat K1 with rfl | ⟨K, z, rfl⟩
  · simp [preW]; exact lowT_nil
  · obtain ⟨A', a, rfl⟩ : ∃ A' a, A = A' ++ [a] := ⟨A.dropLast, A.getLast (by rintro rfl; simp at hA), (List.dropLast_concat_getLast _).symm⟩
    have hA' : A'.length = K.length := by simpa using hA
    rw [List.concat_eq_append] at *
    rw [preW_snoc hA', ← List.append_assoc] at *
    exact lowT_last hu (hk z (by simp))
theorem sufW_high {k : ByteArray} (hB : B.length = K2.length) (hu : upT (sufW K2 B)) (hk : highT K2 k) : highT (sufW K2 B) k := by
  match K2, B, hB with
  | [], [], _ => simp [sufW]; exact highT_nil
  | z :: K, b :: B, _ => rw [sufW_cons] at *; exact highT_head hu (hk z (by simp))
end
end Tp
namespace Tp
open Go
def insAt {α : Type} (l : List α) (i : Nat) (x : α) : List α := l.take i ++ x :: l.drop i
theorem insAt_app {α : Type} {P Q : List α} {x : α} {i : Nat} (h : P.length = i) : insAt (P ++ Q) i x = P ++ x :: Q := by
  subst h; unfold insAt; simp
def settleF (l : List RPlace) (h : Handle) (n : Nd) : List RPlace × Option (THit × Handle) :=
  if n.keys.length ≤ 4 then ((rput l h n).1, none)
  else
    let l1 := (rput l h ⟨n.leaf, n.keys.take 2, if n.leaf then [] else n.kids.take 3, n.vals.take 2⟩).1
    let m := rmake l1 ⟨n.leaf, n.keys.drop 3, if n.leaf then [] else n.kids.drop 3, n.vals.drop 3⟩
    (m.1, some (⟨n.keys.getD 2 default, n.vals.getD 2 0⟩, m.2))
def insF : Nat → List RPlace → Handle → THit → List RPlace × (Int × Bool) × Option (THit × Handle)
  | d, l, h, x =>
    let n := (rget l h).1
    let i := bsI n.keys x.key
    if bsF n.keys x.key then ((rput l h ⟨n.leaf, n.keys, n.kids, n.vals.set i x.val⟩).1, (n.vals.getD i 0, true), none)
    else if n.leaf then
      let s := settleF l h ⟨n.leaf, insAt n.keys i x.key, n.kids, insAt n.vals i x.val⟩
      (s.1, (0, false), s.2)
    else match d with
      | 0 => (l, (0, false), none)
      | d + 1 =>
        let r := insF d l (n.kids.getD i hdZero) x
        match r.2.2 with
        | none => (r.1, r.2.1, none)
        | some u =>
          let s := settleF r.1 h ⟨n.leaf, insAt n.keys i u.1.key, insAt n.kids (i + 1) u.2, insAt n.vals i u.1.val⟩
          (s.1, r.2.1, s.2)
def SameA (l l' : List RPlace) (S : List Handle) : Prop := ∀ h n, h ∉ S → atA l h = some n → atA l' h = some n
section
variable {l l' l'' : List RPlace} {S S' S'' : List Handle} {d : Nat} {t s : BT} {h : Handle} {n m : Nd}
theorem SameA.refl : SameA l l S := fun _ _ _ h => h
theorem SameA.trans (h1 : SameA l l' S) (h2 : SameA l' l'' S) : SameA l l'' S := fun h n hn e => h2 h n hn (h1 h n hn e)
theorem SameA.mono (h1 : SameA l l' S) (hs : ∀ h, h ∈ S → h ∈ S') : SameA l l' S' := fun h n hn e => h1 h n (fun hh => hn (hs h hh)) e
theorem SameA.put (e : atA l h = some n) (hs : h ∈ S) : SameA l (rput l h m).1 S := fun h' n' hn e' => by
  rw [put_at e, if_neg (by rintro rfl; exact hn hs)]; exact e'
theorem SameA.make : SameA l (rmake l m).1 S := fun h' n' hn e' => by
  rw [make_at, if_neg]; exact e'
  rintro rfl; rw [make_none] at e'; cases e'
theorem SameA.free (e : atA l h = some n) (hs : h ∈ S) : SameA l (rfree l [h]).1 S := fun h' n' hn e' => by
  rw [free_at e, if_neg (by rintro rfl; exact hn hs)]; exact e'
theorem hsB_self (d : Nat) (t : BT) : t.h ∈ hsB d t := by cases d <;> simp [hsB]
theorem HoldsB.self (H : HoldsB l d t) : atA l t.h = some (nodeB d t) := by
  cases d with
  | zero => exact H
  | succ d => exact H.1
theorem HoldsB.same (hs : SameA l l' S) : ∀ {d : Nat} {t : BT}, HoldsB l d t → (∀ h, h ∈ hsB d t → h ∉ S) → HoldsB l' d t
  | 0, t, H, hn => hs _ _ (hn _ (hsB_self 0 t)) H
  | d + 1, t, H, hn => ⟨hs _ _ (hn _ (hsB_self _ t)) H.1, fun s hsm => HoldsB.same hs (H.2 s hsm) fun h hh => hn h (by simp only [hsB, List.mem_cons, List.mem_flatMap]; exact .inr ⟨s, hsm, hh⟩)⟩
theorem HoldsB.each : ∀ {d : Nat} {t : BT}, HoldsB l d t → ∀ h, h ∈ hsB d t → ∃ n, atA l h = some n
  | 0, t, H, h, hh => by simp only [hsB, List.mem_singleton] at hh; subst hh; exact ⟨_, H⟩
  | d + 1, t, H, h, hh => by
    simp only [hsB, List.mem_cons, List.mem_flatMap] at hh
    rcases hh with rfl | ⟨s, hs, hh⟩
    · exact ⟨_, H.1⟩
    · exact HoldsB.each (H.2 s hs) h hh
end
section
variable {d : Nat} {h : Handle} {ks K1 K2 : List THit} {ts A B : List BT} {c z : BT} {u x : THit}
theorem flatB_mid (hA : A.length = K1.length) (hB : B.length = K2.length) : flatB (d + 1) (.mk h (K1 ++ K2) (A ++ c :: B)) = preW (A.map (flatB d)) K1 ++ flatB d c ++ sufW K2 (B.map (flatB d)) := by
  simp only [flatB, BT.ts, BT.ks, List.map_append, List.map_cons]
  exact weave_mid (by simpa using hA) (by simpa using hB)
theorem flatB_two {z : BT} (hA : A.length = K1.length) (hB : B.length = K2.length) : flatB (d + 1) (.mk h (K1 ++ u :: K2) (A ++ c :: z :: B)) = preW (A.map (flatB d)) K1 ++ (flatB d c ++ u :: flatB d z) ++ sufW K2 (B.map (flatB d)) := by
  rw [flatB_mid (K2 := u :: K2) hA (by simp [hB]), List.map_cons, sufW_cons]
  simp
theorem flatB_app (hA : A.length = K1.length + 1) : flatB (d + 1) (.mk h (K1 ++ u :: K2) (A ++ B)) = flatB (d + 1) (.mk h K1 A) ++ u :: flatB (d + 1) (.mk h K2 B) := by
  simp only [flatB, BT.ts, BT.ks, List.map_append]
  exact weave_app (by simpa using hA)
end
theorem split_at {α : Type} {l : List α} {i : Nat} (h : i < l.length) : ∃ A c B, l = A ++ c :: B ∧ A.length = i := ⟨l.take i, l[i], l.drop (i + 1), by rw [← List.drop_eq_getElem_cons h, List.take_append_drop], by rw [List.length_take]; omega⟩
theorem split2 {α : Type} {l : List α} {i : Nat} (h : i ≤ l.length) : ∃ A B, l = A ++ B ∧ A.length = i := ⟨l.take i, l.drop i, (List.take_append_drop ..).symm, by rw [List.length_take]; omega⟩
structure PutB (l l' : List RPlace) (lo d : Nat) (S : List Handle) (h : Handle) (up : Option (THit × Handle)) (row : List THit) (K : Nat) : Prop where
  same : SameA l l' S
  big : BigA l' K
  parts : ∃ t', t'.h = h ∧ HoldsB l' d t' ∧ (∀ h, h ∈ hsB d t' → h ∈ S ∨ atA l h = none) ∧ (hsB d t').Nodup ∧
    ((up = none ∧ okB lo d t' ∧ row = flatB d t' ∧ usedN l' + S.length = usedN l + (hsB d t').length) ∨
     ∃ u t2, up = some (u, t2.h) ∧ okB 2 d t' ∧ okB 2 d t2 ∧ HoldsB l' d t2 ∧ row = flatB d t' ++ u :: flatB d t2 ∧ (∀ h, h ∈ hsB d t2 → h ∈ S ∨ atA l h = none) ∧ (hsB d t2).Nodup ∧ (∀ h, h ∈ hsB d t' → h ∉ hsB d t2) ∧
       usedN l' + S.length = usedN l + (hsB d t').length + (hsB d t2).length)
end Tp
namespace Tp
open Go
def kidsH (l : List RPlace) : Nat → List BT → Prop
  | 0, _ => True
  | d + 1, ts => ∀ s, s ∈ ts → HoldsB l d s
def hsK : Nat → List BT → List Handle
  | 0, _ => []
  | d + 1, ts => ts.flatMap (hsB d)
def okK : Nat → List THit → List BT → Prop
  | 0, _, _ => True
  | d + 1, ks, ts => ts.length = ks.length + 1 ∧ ∀ s, s ∈ ts → okB 2 d s
section
variable {l l' l1 : List RPlace} {d lo : Nat} {h : Handle} {ks K1 K2 : List THit} {ts T1 T2 A B : List BT} {c : BT} {u x : THit} {K : Nat} {S : List Handle}
theorem hsB_mk : hsB d (.mk h ks ts) = h :: hsK d ts := by cases d <;> rfl
theorem holds_mk : HoldsB l d (.mk h ks ts) ↔ atA l h = some (nodeB d (.mk h ks ts)) ∧ kidsH l d ts := by
  cases d with
  | zero => simp [HoldsB, kidsH, BT.h]
  | succ d => rfl
theorem ok_mk : okB lo d (.mk h ks ts) ↔ lo ≤ ks.length ∧ ks.length ≤ 4 ∧ okK d ks ts := by
  cases d with
  | zero => simp [okB, okK, BT.ks]
  | succ d => simp [okB, okK, BT.ks, BT.ts]
theorem kidsH_same (hs : SameA l l' S) (H : kidsH l d ts) (hn : ∀ h, h ∈ hsK d ts → h ∉ S) : kidsH l' d ts := by
  cases d with
  | zero => trivial
  | succ d => exact fun s hm => (H s hm).same hs fun h hh => hn h (List.mem_flatMap.2 ⟨s, hm, hh⟩)
theorem kidsH_each (H : kidsH l d ts) : ∀ h, h ∈ hsK d ts → ∃ n, atA l h = some n := by
  cases d with
  | zero => intro h hh; cases hh
  | succ d => intro h hh; obtain ⟨s, hs, hh⟩ := List.mem_flatMap.1 hh; exact (H s hs).each h hh
theorem node_tiny (h1 : ks.length ≤ 9) (h2 : okK d ks ts) : tinyN (nodeB d (.mk h ks ts)) := by
  cases d with
  | zero => simp [tinyN, nodeB, BT.ks, BT.ts]; omega
  | succ d => have := h2.1; simp [tinyN, nodeB, BT.ks, BT.ts]; omega
theorem nodeB_leaf : (nodeB d (.mk h ks ts)).leaf = (d == 0) := rfl
theorem nodeB_keys : (nodeB d (.mk h ks ts)).keys = ks.map THit.key := rfl
theorem nodeB_vals : (nodeB d (.mk h ks ts)).vals = ks.map THit.val := rfl
theorem nodeB_kids : (nodeB d (.mk h ks ts)).kids = if d = 0 then [] else ts.map BT.h := rfl
theorem five {ks : List THit} (h : ks.length = 5) : ∃ a b u c e, ks = [a, b, u, c, e] := by
  match ks, h with
  | [a, b, u, c, e], _ => exact ⟨a, b, u, c, e, rfl⟩
theorem settle_ok {old : Nd} (e : atA l h = some old) (hk : kidsH l d ts) (hn : (h :: hsK d ts).Nodup) (ho : okK d ks ts) (h1 : lo ≤ ks.length) (hlo : lo ≤ 2) (h5 : ks.length ≤ 5) (hB : BigA l K) :
    PutB l (settleF l h (nodeB d (.mk h ks ts))).1 lo d (h :: hsK d ts) h (settleF l h (nodeB d (.mk h ks ts))).2 (flatB d (.mk h ks ts)) (K + 1) := by
  obtain ⟨hn1, hn2⟩ := List.nodup_cons.1 hn
  have hself : ∀ q, q ∈ hsK d ts → q ∉ [h] := fun q hq hm => by rw [List.mem_singleton.1 hm] at hq; exact hn1 hq
  unfold settleF
  simp only [nodeB_keys, List.length_map]
  by_cases h4 : ks.length ≤ 4
  · rw [if_pos h4]
    simp only
    have hs : SameA l (rput l h (nodeB d (.mk h ks ts))).1 [h] := SameA.put e (by simp)
    refine ⟨hs.mono (by simp), (hB.put e (node_tiny (by omega) ho)).mono (by omega), .mk h ks ts, rfl, ?_, ?_, ?_, .inl ⟨rfl, ?_, rfl, ?_⟩⟩
    · exact holds_mk.2 ⟨by rw [put_at e, if_pos rfl], kidsH_same hs hk hself⟩
    · rw [hsB_mk]; exact fun q hq => .inl hq
    · rw [hsB_mk]; exact hn
    · exact ok_mk.2 ⟨h1, h4, ho⟩
    · rw [put_used e, hsB_mk]
  · rw [if_neg h4]
    obtain ⟨a, b, u, c, e', rfl⟩ := five (ks := ks) (by omega)
    -- the parts
    obtain ⟨T1, T2, hT, hT1, hT2⟩ : ∃ T1 T2, ts = T1 ++ T2 ∧ (d ≠ 0 → T1.length = 3) ∧ (d ≠ 0 → T2.length = 3) := by
      cases d with
      | zero => exact ⟨[], ts, rfl, fun h => absurd rfl h, fun h => absurd rfl h⟩
      | succ d =>
        have hl := ho.1
        simp at hl
        exact ⟨ts.take 3, ts.drop 3, (List.take_append_drop ..).symm, fun _ => by simp; omega, fun _ => by simp; omega⟩
    subst hT
    have eleft : (⟨(nodeB d (.mk h [a, b, u, c, e'] (T1 ++ T2))).leaf, (([a, b, u, c, e'] : List THit).map THit.key).take 2, if (nodeB d (.mk h [a, b, u, c, e'] (T1 ++ T2))).leaf then [] else (nodeB d (.mk h [a, b, u, c, e'] (T1 ++ T2))).kids.take 3, (nodeB d (.mk h [a, b, u, c, e'] (T1 ++ T2))).vals.take 2⟩ : Nd) = nodeB d (.mk h [a, b] T1) := by
      cases d with
      | zero => rfl
      | succ d =>
        have := hT1 (by simp)
        simp [nodeB, BT.ks, BT.ts, List.take_append, this]
    have eright : (⟨(nodeB d (.mk h [a, b, u, c, e'] (T1 ++ T2))).leaf, (([a, b, u, c, e'] : List THit).map THit.key).drop 3, if (nodeB d (.mk h [a, b, u, c, e'] (T1 ++ T2))).leaf then [] else (nodeB d (.mk h [a, b, u, c, e'] (T1 ++ T2))).kids.drop 3, (nodeB d (.mk h [a, b, u, c, e'] (T1 ++ T2))).vals.drop 3⟩ : Nd) = nodeB d (.mk h [c, e'] T2) := by
      cases d with
      | zero => rfl
      | succ d =>
        have := hT1 (by simp)
        simp [nodeB, BT.ks, BT.ts, List.drop_append, this]
    rw [eleft, eright]
    simp only [List.map_cons, List.map_nil, nodeB_vals, List.getD_cons_succ, List.getD_cons_zero]
    have ho1 : okK d [a, b] T1 := by
      cases d with
      | zero => trivial
      | succ d => exact ⟨by rw [hT1 (by simp)]; rfl, fun s hs => ho.2 s (List.mem_append_left _ hs)⟩
    have ho2 : okK d [c, e'] T2 := by
      cases d with
      | zero => trivial
      | succ d => exact ⟨by rw [hT2 (by simp)]; rfl, fun s hs => ho.2 s (List.mem_append_right _ hs)⟩
    have hk1 : kidsH l d T1 := by
      cases d with
      | zero => trivial
      | succ d => exact fun s hs => hk s (List.mem_append_left _ hs)
    have hk2 : kidsH l d T2 := by
      cases d with
      | zero => trivial
      | succ d => exact fun s hs => hk s (List.mem_append_right _ hs)
    have hsa : hsK d (T1 ++ T2) = hsK d T1 ++ hsK d T2 := by
      cases d with
      | zero => rfl
      | succ d => exact List.flatMap_append
    rw [hsa] at hn1 hn2 hself
    rw [List.mem_append, not_or] at hn1
    obtain ⟨hnA, hnB, hnC⟩ := List.nodup_append.1 hn2
    have hs1 : SameA l (rput l h (nodeB d (.mk h [a, b] T1))).1 [h] := SameA.put e (by simp)
    have e1 : atA (rput l h (nodeB d (.mk h [a, b] T1))).1 h = some (nodeB d (.mk h [a, b] T1)) := by rw [put_at e, if_pos rfl]
    generalize hl1 : (rput l h (nodeB d (.mk h [a, b] T1))).1 = l1 at hs1 e1
    have hb1 : BigA l1 K := by rw [← hl1]; exact hB.put e (node_tiny (by simp) ho1)
    have hu1 : usedN l1 = usedN l := by rw [← hl1]; exact put_used e
    have hs2 : SameA l1 (rmake l1 (nodeB d (.mk h [c, e'] T2))).1 [h] := SameA.make
    have e2 := make_at (l := l1) (m := nodeB d (.mk h [c, e'] T2)) (h' := (rmake l1 (nodeB d (.mk h [c, e'] T2))).2)
    rw [if_pos rfl] at e2
    have e3 := make_none (l := l1) (m := nodeB d (.mk h [c, e'] T2))
    have e4 : atA (rmake l1 (nodeB d (.mk h [c, e'] T2))).1 h = some (nodeB d (.mk h [a, b] T1)) := by
      rw [make_at, if_neg]; exact e1
      intro q; rw [← q, e1] at e3; cases e3
    have hb2 := hb1.make (m := nodeB d (.mk h [c, e'] T2)) (node_tiny (by simp) ho2)
    have hu2 := make_used (l := l1) (m := nodeB d (.mk h [c, e'] T2))
    generalize hm : rmake l1 (nodeB d (.mk h [c, e'] T2)) = m at hs2 e2 e3 e4 hb2 hu2
    have hs : SameA l m.1 [h] := hs1.trans hs2
    have hfresh : atA l m.2 = none := by
      cases e5 : atA l m.2 with
      | none => rfl
      | some n =>
        rcases Decidable.em (m.2 = h) with e6 | e6
        · rw [e6, e1] at e3; cases e3
        · have := hs1 _ _ (by simpa using e6) e5; rw [e3] at this; cases this
    have hm1 : m.2 ∉ hsK d T1 := fun q => by obtain ⟨n, hn⟩ := kidsH_each hk1 _ q; rw [hfresh] at hn; cases hn
    have hm2 : m.2 ∉ hsK d T2 := fun q => by obtain ⟨n, hn⟩ := kidsH_each hk2 _ q; rw [hfresh] at hn; cases hn
    have hm3 : m.2 ≠ h := fun q => by rw [q, e] at hfresh; cases hfresh
    refine ⟨hs.mono (by simp), hb2.mono (by omega), .mk h [a, b] T1, rfl, ?_, ?_, ?_, .inr ⟨u, .mk m.2 [c, e'] T2, rfl, ?_, ?_, ?_, ?_, ?_, ?_, ?_, ?_⟩⟩
    · exact holds_mk.2 ⟨e4, kidsH_same hs hk1 fun q hq => hself q (List.mem_append_left _ hq)⟩
    · rw [hsB_mk, hsa]
      exact fun q hq => .inl (by
        rcases List.mem_cons.1 hq with rfl | hq
        · exact List.mem_cons_self ..
        · exact List.mem_cons_of_mem _ (List.mem_append_left _ hq))
    · rw [hsB_mk]; exact List.nodup_cons.2 ⟨hn1.1, hnA⟩
    · exact ok_mk.2 ⟨by simp, by simp, ho1⟩
    · exact ok_mk.2 ⟨by simp, by simp, ho2⟩
    · exact holds_mk.2 ⟨by rw [e2]; rfl, kidsH_same hs hk2 fun q hq => hself q (List.mem_append_right _ hq)⟩
    · cases d with
      | zero => rfl
      | succ d => exact flatB_app (K1 := [a, b]) (K2 := [c, e']) (by rw [hT1 (by simp)]; rfl)
    · rw [hsB_mk, hsa]
      intro q hq
      rcases List.mem_cons.1 hq with rfl | hq
      · exact .inr hfresh
      · exact .inl (List.mem_cons_of_mem _ (List.mem_append_right _ hq))
    · rw [hsB_mk]; exact List.nodup_cons.2 ⟨hm2, hnB⟩
    · rw [hsB_mk, hsB_mk]
      intro q hq hq2
      rcases List.mem_cons.1 hq with rfl | hq
      · rcases List.mem_cons.1 hq2 with e6 | hq2
        · exact hm3 e6.symm
        · exact hn1.2 hq2
      · rcases List.mem_cons.1 hq2 with rfl | hq2
        · exact hm1 hq
        · exact hnC q hq q hq2 rfl
    · rw [hu2, hu1, hsB_mk, hsB_mk, hsa]; simp only [List.length_cons, List.length_append]; omega
end
end Tp
namespace Tp
open Go
theorem weave_sub : ∀ {T : List (List THit)} {K : List THit}, K.length ≤ T.length → K.Sublist (weave T K)
  | a :: T, k :: K, h => by
    simp only [weave]
    exact (List.Sublist.cons_cons k (weave_sub (by simpa using h))).trans (List.sublist_append_right _ _)
  | [], [], _ => by simp [weave]
  | a :: T, [], _ => List.nil_sublist _
  | [], _ :: _, h => by simp at h
section
variable {l l' l1 : List RPlace} {d lo : Nat} {h : Handle} {ks K1 K2 P Q : List THit} {ts T1 T2 A B : List BT} {c t : BT} {u x z : THit} {K : Nat} {S : List Handle}
theorem ks_up (ho : okB lo d (.mk h ks ts)) (hu : upT (flatB d (.mk h ks ts))) : upT ks := by
  cases d with
  | zero => exact hu
  | succ d => exact List.Pairwise.sublist (weave_sub (by have := (ok_mk.1 ho).2.2.1; simp [BT.ts, BT.ks]; omega)) hu
theorem flat_at (ho : okK (d + 1) (P ++ Q) ts) : ∃ A c B, ts = A ++ c :: B ∧ A.length = P.length ∧ B.length = Q.length ∧ flatB (d + 1) (.mk h (P ++ Q) ts) = preW (A.map (flatB d)) P ++ flatB d c ++ sufW Q (B.map (flatB d)) := by
  have hl := ho.1
  simp only [List.length_append] at hl
  obtain ⟨A, c, B, rfl, hA⟩ := split_at (l := ts) (i := P.length) (by omega)
  have hB : B.length = Q.length := by simp at hl; omega
  exact ⟨A, c, B, rfl, hA, hB, flatB_mid hA hB⟩
theorem pre_low (hA : A.length = P.length) (hu : upT (preW (A.map (flatB d)) P ++ flatB d c ++ sufW Q (B.map (flatB d)))) {k : ByteArray} (hk : lowT P k) : lowT (preW (A.map (flatB d)) P) k :=
  preW_low (by simpa using hA) (upT_app.1 (upT_app.1 hu).1).1 hk
theorem suf_high (hB : B.length = Q.length) (hu : upT (preW (A.map (flatB d)) P ++ flatB d c ++ sufW Q (B.map (flatB d)))) {k : ByteArray} (hk : highT Q k) : highT (sufW Q (B.map (flatB d))) k :=
  sufW_high (by simpa using hB) (upT_app.1 hu).2.1 hk
theorem mid_up (hu : upT (P ++ Q ++ ks)) : upT Q := (upT_app.1 (upT_app.1 hu).1).2.1
theorem getD_mid {α : Type} {A B : List α} {c dflt : α} {i : Nat} (h : A.length = i) : (A ++ c :: B).getD i dflt = c := by subst h; simp [List.getD]
theorem hsK_mid : hsK (d + 1) (A ++ c :: B) = hsK (d + 1) A ++ (hsB d c ++ hsK (d + 1) B) := by simp [hsK]
theorem ins_up {up : Option (THit × Handle)} {row : List THit} (hA : A.length = P.length) (hB : B.length = Q.length)
    (H : HoldsB l (d + 1) (.mk h (P ++ Q) (A ++ c :: B))) (hn : (hsB (d + 1) (.mk h (P ++ Q) (A ++ c :: B))).Nodup) (ho : okB lo (d + 1) (.mk h (P ++ Q) (A ++ c :: B))) (hlo : lo ≤ 2) (hl1 : 1 ≤ lo)
    (hp : PutB l l1 2 d (hsB d c) c.h up row K) :
    ∃ l2 up2, (match up with | none => (l1, none) | some u => settleF l1 h (nodeB (d + 1) (.mk h (P ++ u.1 :: Q) (A ++ c :: ((.mk u.2 [] []) :: B))))) = (l2, up2) ∧
      PutB l l2 lo (d + 1) (hsB (d + 1) (.mk h (P ++ Q) (A ++ c :: B))) h up2 (preW (A.map (flatB d)) P ++ row ++ sufW Q (B.map (flatB d))) (K + 1) := by
  obtain ⟨c', hc1, hc2, hc3, hc4, hc5⟩ := hp.parts
  rw [hsB_mk, hsK_mid] at hn ⊢
  obtain ⟨o1, o2, o3, o4⟩ := ok_mk.1 ho
  have hL1 : (P ++ Q).length = P.length + Q.length := List.length_append
  have hL2 : (A ++ c :: B).length = A.length + (B.length + 1) := by simp
  have hL3 : ∀ u : THit, (P ++ u :: Q).length = P.length + (Q.length + 1) := fun u => by simp
  have hL4 : ∀ a b : BT, (A ++ a :: b :: B).length = A.length + (B.length + 2) := fun a b => by simp
  obtain ⟨n1, n2⟩ := List.nodup_cons.1 hn
  rw [List.mem_append, List.mem_append, not_or, not_or] at n1
  obtain ⟨nA, n3, nAX⟩ := List.nodup_append.1 n2
  obtain ⟨nc, nB, ncB⟩ := List.nodup_append.1 n3
  have hH := holds_mk.1 H
  have kA : ∀ s, s ∈ A → HoldsB l1 d s := fun s hs => (hH.2 s (List.mem_append_left _ hs)).same hp.same fun q hq hm => nAX q (List.mem_flatMap.2 ⟨s, hs, hq⟩) q (List.mem_append_left _ hm) rfl
  have kB : ∀ s, s ∈ B → HoldsB l1 d s := fun s hs => (hH.2 s (by simp [hs])).same hp.same fun q hq hm => ncB q hm q (List.mem_flatMap.2 ⟨s, hs, hq⟩) rfl
  have hat : atA l1 h = some (nodeB (d + 1) (.mk h (P ++ Q) (A ++ c :: B))) := hp.same _ _ n1.2.1 hH.1
  have eA : ∀ q, q ∈ hsK (d + 1) A → ∃ n, atA l q = some n := fun q hq => kidsH_each (l := l) (d := d + 1) (ts := A) (fun s hs => hH.2 s (List.mem_append_left _ hs)) q hq
  have eB : ∀ q, q ∈ hsK (d + 1) B → ∃ n, atA l q = some n := fun q hq => kidsH_each (l := l) (d := d + 1) (ts := B) (fun s hs => hH.2 s (by simp [hs])) q hq
  have out : ∀ {T : List Handle}, (∀ q, q ∈ T → q ∈ hsB d c ∨ atA l q = none) → h ∉ T ∧ (∀ q, q ∈ hsK (d + 1) A → q ∉ T) ∧ ∀ q, q ∈ hsK (d + 1) B → q ∉ T := fun hT => by
    refine ⟨fun hm => ?_, fun q hq hm => ?_, fun q hq hm => ?_⟩
    · rcases hT _ hm with h1 | h1
      · exact n1.2.1 h1
      · rw [hH.1] at h1; cases h1
    · rcases hT _ hm with h1 | h1
      · exact nAX q hq q (List.mem_append_left _ h1) rfl
      · obtain ⟨n, hn⟩ := eA q hq; rw [h1] at hn; cases hn
    · rcases hT _ hm with h1 | h1
      · exact ncB q h1 q hq rfl
      · obtain ⟨n, hn⟩ := eB q hq; rw [h1] at hn; cases hn
  obtain ⟨f1, f2, f3⟩ := out hc3
  rcases hc5 with ⟨rfl, g1, g2, g3⟩ | ⟨u, t2, rfl, g1, g2, g3, g4, g5, g6, g7, g8⟩
  · refine ⟨_, _, rfl, hp.same.mono (fun q hq => by simp [hq]), hp.big.mono (by omega), .mk h (P ++ Q) (A ++ c' :: B), rfl, ?_, ?_, ?_, .inl ⟨rfl, ?_, ?_, ?_⟩⟩
    · refine holds_mk.2 ⟨?_, fun s hs => ?_⟩
      · rw [hat]; simp [nodeB, BT.ks, BT.ts, hc1]
      · rcases List.mem_append.1 hs with hs | hs
        · exact kA s hs
        · rcases List.mem_cons.1 hs with rfl | hs
          · exact hc2
          · exact kB s hs
    · rw [hsB_mk, hsK_mid]
      intro q hq
      simp only [List.mem_cons, List.mem_append] at hq ⊢
      rcases hq with hq | hq | hq | hq
      · exact .inl (.inl hq)
      · exact .inl (.inr (.inl hq))
      · exact (hc3 q hq).imp (fun h => .inr (.inr (.inl h))) id
      · exact .inl (.inr (.inr (.inr hq)))
    · rw [hsB_mk, hsK_mid]
      refine List.nodup_cons.2 ⟨by simp only [List.mem_append, not_or]; exact ⟨n1.1, f1, n1.2.2⟩, List.nodup_append.2 ⟨nA, List.nodup_append.2 ⟨hc4, nB, fun q hq q' hq' e => f3 q' hq' (e ▸ hq)⟩, fun q hq q' hq' e => ?_⟩⟩
      subst e
      rcases List.mem_append.1 hq' with hq' | hq'
      · exact f2 q hq hq'
      · exact nAX q hq q (List.mem_append_right _ hq') rfl
    · exact ok_mk.2 ⟨o1, o2, by simpa using o3, fun s hs => by
        rcases List.mem_append.1 hs with hs | hs
        · exact o4 s (List.mem_append_left _ hs)
        · rcases List.mem_cons.1 hs with rfl | hs
          · exact g1
          · exact o4 s (by simp [hs])⟩
    · rw [flatB_mid hA hB, g2]
    · rw [hsB_mk, hsK_mid]; simp only [List.length_cons, List.length_append]; omega
  · -- two of them
    obtain ⟨f4, f5, f6⟩ := out g5
    have en : (nodeB (d + 1) (.mk h (P ++ (u, t2.h).1 :: Q) (A ++ c :: ((.mk (u, t2.h).2 [] []) :: B)))) = nodeB (d + 1) (.mk h (P ++ u :: Q) (A ++ c' :: t2 :: B)) := by
      have hm : (BT.mk t2.h [] []).h = t2.h := rfl
      simp [nodeB, BT.ks, BT.ts, hc1, hm]
    refine ⟨(settleF l1 h (nodeB (d + 1) (.mk h (P ++ u :: Q) (A ++ c' :: t2 :: B)))).1, (settleF l1 h (nodeB (d + 1) (.mk h (P ++ u :: Q) (A ++ c' :: t2 :: B)))).2, by simp only [en], ?_⟩
    have hsk : hsK (d + 1) (A ++ c' :: t2 :: B) = hsK (d + 1) A ++ (hsB d c' ++ (hsB d t2 ++ hsK (d + 1) B)) := by simp [hsK]
    have nn : (h :: hsK (d + 1) (A ++ c' :: t2 :: B)).Nodup := by
      rw [hsk]
      refine List.nodup_cons.2 ⟨by simp only [List.mem_append, not_or]; exact ⟨n1.1, f1, f4, n1.2.2⟩, List.nodup_append.2 ⟨nA, List.nodup_append.2 ⟨hc4, List.nodup_append.2 ⟨g6, nB, fun q hq q' hq' e => f6 q' hq' (e ▸ hq)⟩, fun q hq q' hq' e => ?_⟩, fun q hq q' hq' e => ?_⟩⟩
      · subst e
        rcases List.mem_append.1 hq' with hq' | hq'
        · exact g7 q hq hq'
        · exact f3 q hq' hq
      · subst e
        rcases List.mem_append.1 hq' with hq' | hq'
        · exact f2 q hq hq'
        · rcases List.mem_append.1 hq' with hq' | hq'
          · exact f5 q hq hq'
          · exact nAX q hq q (List.mem_append_right _ hq') rfl
    have hs := settle_ok (lo := lo) (d := d + 1) (ks := P ++ u :: Q) (ts := A ++ c' :: t2 :: B) hat (fun s hs => by
        rcases List.mem_append.1 hs with hs | hs
        · exact kA s hs
        · rcases List.mem_cons.1 hs with rfl | hs
          · exact hc2
          · rcases List.mem_cons.1 hs with rfl | hs
            · exact g3
            · exact kB s hs) nn
      ⟨by rw [hL3, hL4]; omega, fun s hs => by
        rcases List.mem_append.1 hs with hs | hs
        · exact o4 s (List.mem_append_left _ hs)
        · rcases List.mem_cons.1 hs with rfl | hs
          · exact g1
          · rcases List.mem_cons.1 hs with rfl | hs
            · exact g2
            · exact o4 s (by simp [hs])⟩ (by rw [hL3]; omega) hlo (by rw [hL3]; omega) hp.big
    have back : ∀ q, q ∈ h :: hsK (d + 1) (A ++ c' :: t2 :: B) ∨ atA l1 q = none → q ∈ h :: (hsK (d + 1) A ++ (hsB d c ++ hsK (d + 1) B)) ∨ atA l q = none := by
      intro q hq
      rcases hq with hq | hq
      · rw [hsk] at hq
        simp only [List.mem_cons, List.mem_append] at hq ⊢
        rcases hq with hq | hq | hq | hq | hq
        · exact .inl (.inl hq)
        · exact .inl (.inr (.inl hq))
        · exact (hc3 q hq).imp (fun h => .inr (.inr (.inl h))) id
        · exact (g5 q hq).imp (fun h => .inr (.inr (.inl h))) id
        · exact .inl (.inr (.inr (.inr hq)))
      · cases e : atA l q with
        | none => exact .inr rfl
        | some n =>
          rcases Decidable.em (q ∈ hsB d c) with hm | hm
          · exact .inl (by simp [hm])
          · have := hp.same q n hm e; rw [hq] at this; cases this
    obtain ⟨t', k1, k2, k3, k4, k5⟩ := hs.parts
    have hlen : (h :: hsK (d + 1) (A ++ c' :: t2 :: B)).length + (hsB d c).length = (h :: (hsK (d + 1) A ++ (hsB d c ++ hsK (d + 1) B))).length + (hsB d c').length + (hsB d t2).length := by
      rw [hsk]; simp only [List.length_cons, List.length_append]; omega
    have same2 : SameA l (settleF l1 h (nodeB (d + 1) (.mk h (P ++ u :: Q) (A ++ c' :: t2 :: B)))).1 (h :: (hsK (d + 1) A ++ (hsB d c ++ hsK (d + 1) B))) := by
      intro q n hq e
      have hqc : q ∉ hsB d c := fun hm => hq (by simp [hm])
      refine hs.same q n (fun hm => ?_) (hp.same q n hqc e)
      rcases back q (.inl hm) with h1 | h1
      · exact hq h1
      · rw [e] at h1; cases h1
    have row2 : flatB (d + 1) (.mk h (P ++ u :: Q) (A ++ c' :: t2 :: B)) = preW (A.map (flatB d)) P ++ row ++ sufW Q (B.map (flatB d)) := by rw [flatB_two hA hB, g4]
    refine ⟨same2, hs.big, t', k1, k2, fun q hq => back q (k3 q hq), k4, ?_⟩
    rcases k5 with ⟨r1, r2, r3, r4⟩ | ⟨u', t3, r1, r2, r3, r4, r5, r6, r7, r8, r9⟩
    · exact .inl ⟨r1, r2, by rw [← row2, r3], by omega⟩
    · exact .inr ⟨u', t3, r1, r2, r3, r4, by rw [← row2, r5], fun q hq => back q (r6 q hq), r7, r8, by omega⟩
theorem set_mid {α : Type} {A B : List α} {c c' : α} {i : Nat} (h : A.length = i) : (A ++ c :: B).set i c' = A ++ c' :: B := by subst h; simp
theorem ins_ok : ∀ (d : Nat) {l : List RPlace} {t : BT} {x : THit} {K lo : Nat}, HoldsB l d t → (hsB d t).Nodup → okB lo d t → (1 ≤ lo ∨ d = 0) → lo ≤ 2 → upT (flatB d t) → BigA l K →
    PutB l (insF d l t.h x).1 (max lo 1) d (hsB d t) t.h (insF d l t.h x).2.2 (putL (flatB d t) x) (K + d + 1) ∧ (insF d l t.h x).2.1 = getL (flatB d t) x.key := by
  intro d
  induction d with
  | zero =>
    intro l t x K lo H hn ho hl1 hlo hu hB
    obtain ⟨h, ks, ts⟩ := t
    have hg : (rget l h).1 = nodeB 0 (.mk h ks ts) := by rw [atA_get (holds_mk.1 H).1]
    obtain ⟨o1, o2, o3⟩ := ok_mk.1 ho
    unfold insF
    simp only [BT.h, hg, nodeB_keys, nodeB_vals, nodeB_leaf]
    have hu' : upT ks := hu
    cases hf : bsF (ks.map THit.key) x.key with
    | true =>
      obtain ⟨P, z, Q, rfl, hP, hz, lP, hQ⟩ := bs_hit hu' hf
      simp only [if_true]
      have en : (⟨(0 : Nat) == 0, (P ++ z :: Q).map THit.key, (nodeB 0 (.mk h (P ++ z :: Q) ts)).kids, ((P ++ z :: Q).map THit.val).set (bsI ((P ++ z :: Q).map THit.key) x.key) x.val⟩ : Nd) = nodeB 0 (.mk h (P ++ x :: Q) ts) := by
        rw [← hP]; simp [nodeB, BT.ks, BT.ts, hz]
      rw [en]
      have e := (holds_mk.1 H).1
      refine ⟨⟨(SameA.put (S := [h]) e (by simp)).mono (by simp [hsB, BT.h]), (hB.put e (node_tiny (d := 0) (ks := P ++ x :: Q) (ts := ts) (by simp at o2 ⊢; omega) trivial)).mono (by omega), .mk h (P ++ x :: Q) ts, rfl, ?_, ?_, ?_, .inl ⟨rfl, ?_, ?_, ?_⟩⟩, ?_⟩
      · exact holds_mk.2 ⟨by rw [put_at e, if_pos rfl], trivial⟩
      · simp [hsB, BT.h]
      · simp [hsB]
      · exact ok_mk.2 ⟨by simp at o1 ⊢; omega, by simp at o2 ⊢; omega, trivial⟩
      · exact putL_hit lP hQ hz
      · rw [put_used e]; simp [hsB]
      · have hv : ((P ++ z :: Q).map THit.val).getD P.length 0 = z.val := by simp
        rw [← hP, hv]; exact (getL_hit lP hz).symm
    | false =>
      obtain ⟨P, Q, rfl, hP, lP, hQ⟩ := bs_miss hu' hf
      simp only [Bool.false_eq_true, if_false, beq_self_eq_true, if_true]
      have en : (⟨(true : Bool), insAt ((P ++ Q).map THit.key) (bsI ((P ++ Q).map THit.key) x.key) x.key, (nodeB 0 (.mk h (P ++ Q) ts)).kids, insAt ((P ++ Q).map THit.val) (bsI ((P ++ Q).map THit.key) x.key) x.val⟩ : Nd) = nodeB 0 (.mk h (P ++ x :: Q) ts) := by
        rw [List.map_append, List.map_append, insAt_app (by rw [List.length_map, hP, List.map_append]), insAt_app (by rw [List.length_map, hP, List.map_append])]
        simp [nodeB, BT.ks]
      rw [en]
      have hs := settle_ok (lo := max lo 1) (d := 0) (ks := P ++ x :: Q) (ts := ts) (holds_mk.1 H).1 trivial (by simp [hsK]) trivial (by simp at o1 ⊢; omega) (by omega) (by simp at o2 ⊢; omega) hB
      refine ⟨?_, (getL_no lP hQ).symm⟩
      have : flatB 0 (.mk h (P ++ x :: Q) ts) = putL (flatB 0 (.mk h (P ++ Q) ts)) x := (putL_new lP hQ).symm
      rw [this] at hs
      exact hs
  | succ d ih =>
    intro l t x K lo H hn ho hl1 hlo hu hB
    have hl1 : 1 ≤ lo := hl1.resolve_right (by simp)
    have hmx : max lo 1 = lo := by omega
    rw [hmx]
    obtain ⟨h, ks, ts⟩ := t
    have hg : (rget l h).1 = nodeB (d + 1) (.mk h ks ts) := by rw [atA_get (holds_mk.1 H).1]
    obtain ⟨o1, o2, o3⟩ := ok_mk.1 ho
    have hu' : upT ks := ks_up ho hu
    unfold insF
    simp only [BT.h, hg, nodeB_keys, nodeB_vals, nodeB_leaf]
    cases hf : bsF (ks.map THit.key) x.key with
    | true =>
      obtain ⟨P, z, Q, rfl, hP, hz, lP, hQ⟩ := bs_hit hu' hf
      simp only [if_true]
      have en : (⟨d + 1 == 0, (P ++ z :: Q).map THit.key, (nodeB (d + 1) (.mk h (P ++ z :: Q) ts)).kids, ((P ++ z :: Q).map THit.val).set (bsI ((P ++ z :: Q).map THit.key) x.key) x.val⟩ : Nd) = nodeB (d + 1) (.mk h (P ++ x :: Q) ts) := by
        rw [← hP]; simp [nodeB, BT.ks, BT.ts, hz]
      rw [en]
      have e := (holds_mk.1 H).1
      have ok2 : okK (d + 1) (P ++ x :: Q) ts := ⟨by have := o3.1; simp at this ⊢; omega, o3.2⟩
      obtain ⟨A, B, hAB, hA⟩ := split2 (l := ts) (i := P.length + 1) (by have := o3.1; simp at this; omega)
      subst hAB
      rw [flatB_app hA] at hu ⊢
      obtain ⟨p1, p2⟩ := upT_parts hu
      rw [hz] at p1 p2
      rw [hsB_mk] at hn ⊢
      obtain ⟨n1, n2⟩ := List.nodup_cons.1 hn
      refine ⟨⟨(SameA.put e (by simp)), (hB.put e (node_tiny (by simp at o2 ⊢; omega) ok2)).mono (by omega), .mk h (P ++ x :: Q) (A ++ B), rfl, ?_, ?_, ?_, .inl ⟨rfl, ?_, ?_, ?_⟩⟩, ?_⟩
      · refine holds_mk.2 ⟨by rw [put_at e, if_pos rfl], kidsH_same (S := [h]) (SameA.put e (by simp)) (holds_mk.1 H).2 fun q hq hm => ?_⟩
        rw [List.mem_singleton.1 hm] at hq; exact n1 hq
      · rw [hsB_mk]; exact fun q hq => .inl hq
      · rw [hsB_mk]; exact hn
      · exact ok_mk.2 ⟨by simp at o1 ⊢; omega, by simp at o2 ⊢; omega, ok2⟩
      · rw [flatB_app hA]; exact putL_hit p1 p2 hz
      · rw [put_used e, hsB_mk]
      · have hv : ((P ++ z :: Q).map THit.val).getD P.length 0 = z.val := by simp
        rw [← hP, hv]; exact (getL_hit p1 hz).symm
    | false =>
      obtain ⟨P, Q, rfl, hP, lP, hQ⟩ := bs_miss hu' hf
      have hd0 : ((d + 1 == 0) = true) ↔ False := by simp
      simp only [Bool.false_eq_true, if_false, hd0]
      obtain ⟨A, c, B, rfl, hA, hBl, hfl⟩ := flat_at (h := h) o3
      rw [hfl] at hu ⊢
      have low := pre_low hA hu lP
      have high := suf_high hBl hu hQ
      rw [putL_mid low high, getL_mid low high]
      have hc : ((nodeB (d + 1) (.mk h (P ++ Q) (A ++ c :: B))).kids.getD (bsI ((P ++ Q).map THit.key) x.key) hdZero) = c.h := by
        rw [nodeB_kids, if_neg (by simp), List.map_append, List.map_cons]
        exact getD_mid (by rw [List.length_map, hA, hP])
      rw [hc]
      have hnc : (hsB d c).Nodup := by
        rw [hsB_mk, hsK_mid] at hn
        exact (List.nodup_append.1 (List.nodup_append.1 (List.nodup_cons.1 hn).2).2.1).1
      obtain ⟨r1, r2⟩ := ih (x := x) (lo := 2) ((holds_mk.1 H).2 c (by simp)) hnc (o3.2 c (by simp)) (.inl (by omega)) (by omega) (mid_up hu) hB
      rw [show max 2 1 = 2 from rfl] at r1
      obtain ⟨l2, up2, e1, e2⟩ := ins_up hA hBl H hn ho hlo hl1 r1
      generalize insF d l c.h x = r at *
      obtain ⟨l1, wt, up⟩ := r
      simp only at *
      rw [← r2]
      cases up with
      | none =>
        simp only [Prod.mk.injEq] at e1
        obtain ⟨rfl, rfl⟩ := e1
        exact ⟨e2, by first | trivial | rfl⟩
      | some u =>
        have en : (⟨d + 1 == 0, insAt ((P ++ Q).map THit.key) (bsI ((P ++ Q).map THit.key) x.key) u.1.key, insAt (nodeB (d + 1) (.mk h (P ++ Q) (A ++ c :: B))).kids (bsI ((P ++ Q).map THit.key) x.key + 1) u.2, insAt ((P ++ Q).map THit.val) (bsI ((P ++ Q).map THit.key) x.key) u.1.val⟩ : Nd)
            = nodeB (d + 1) (.mk h (P ++ u.1 :: Q) (A ++ c :: (.mk u.2 [] []) :: B)) := by
          have k1 : insAt ((P ++ Q).map THit.key) P.length u.1.key = (P ++ u.1 :: Q).map THit.key := by
            rw [List.map_append, insAt_app (by simp)]; simp
          have k2 : insAt ((P ++ Q).map THit.val) P.length u.1.val = (P ++ u.1 :: Q).map THit.val := by
            rw [List.map_append, insAt_app (by simp)]; simp
          have k3 : insAt ((A ++ c :: B).map BT.h) (P.length + 1) u.2 = (A ++ c :: (.mk u.2 [] []) :: B).map BT.h := by
            rw [List.map_append, List.map_cons, List.append_cons, insAt_app (by simp [hA])]; simp [BT.h]
          rw [nodeB_kids, if_neg (by simp), ← hP, k1, k2, k3]
          rfl
        simp only [en]
        simp only at e1
        rw [e1]
        exact ⟨e2, by first | trivial | rfl⟩
end
end Tp
namespace Tp
open Go
def turnA (l : List RPlace) (h : Handle) (i : Nat) (leftward : Bool) : Nat :=
  let a := (rget l ((rget l h).1.kids.getD i hdZero)).1
  if leftward then a.keys.length + 1 else a.keys.length - 1
def turnF (l : List RPlace) (h : Handle) (i : Nat) (leftward : Bool) : List RPlace :=
  let n := (rget l h).1
  let a := (rget l (n.kids.getD i hdZero)).1
  let b := (rget l (n.kids.getD (i + 1) hdZero)).1
  let keys := a.keys ++ ((n.keys.drop i).take 1 ++ b.keys)
  let vals := a.vals ++ ((n.vals.drop i).take 1 ++ b.vals)
  let kids := a.kids ++ b.kids
  let at_ := turnA l h i leftward
  let l1 := (rput l (n.kids.getD i hdZero) ⟨a.leaf, keys.take at_, if a.leaf then a.kids else kids.take (at_ + 1), vals.take at_⟩).1
  let l2 := (rput l1 (n.kids.getD (i + 1) hdZero) ⟨b.leaf, keys.drop (at_ + 1), if a.leaf then b.kids else kids.drop (at_ + 1), vals.drop (at_ + 1)⟩).1
  (rput l2 h ⟨n.leaf, n.keys.set i (keys.getD at_ default), n.kids, n.vals.set i (vals.getD at_ 0)⟩).1
def joinF (l : List RPlace) (h : Handle) (i : Nat) : List RPlace :=
  let n := (rget l h).1
  let a := (rget l (n.kids.getD i hdZero)).1
  let b := (rget l (n.kids.getD (i + 1) hdZero)).1
  let l1 := (rput l (n.kids.getD i hdZero) ⟨a.leaf, a.keys ++ ((n.keys.drop i).take 1 ++ b.keys), a.kids ++ b.kids, a.vals ++ ((n.vals.drop i).take 1 ++ b.vals)⟩).1
  let l2 := (rfree l1 [n.kids.getD (i + 1) hdZero]).1
  (rput l2 h ⟨n.leaf, n.keys.eraseIdx i, n.kids.eraseIdx (i + 1), n.vals.eraseIdx i⟩).1
def richF (l : List RPlace) (n : Nd) (i : Int) : Bool := decide (0 ≤ i) && decide (i < n.kids.length) && decide (2 < (rget l (n.kids.getD i.toNat hdZero)).1.keys.length)
def mendF (l : List RPlace) (h : Handle) (i : Nat) : List RPlace :=
  let n := (rget l h).1
  if 2 ≤ (rget l (n.kids.getD i hdZero)).1.keys.length then l
  else if richF l n ((i : Int) - 1) then turnF l h (i - 1) false
  else if richF l n ((i : Int) + 1) then turnF l h i true
  else if 0 < i then joinF l h (i - 1)
  else joinF l h i
structure RemB (l l' : List RPlace) (lo d : Nat) (S : List Handle) (h : Handle) (row : List THit) (K : Nat) : Prop where
  same : SameA l l' S
  big : BigA l' K
  parts : ∃ t', t'.h = h ∧ HoldsB l' d t' ∧ (∀ h, h ∈ hsB d t' → h ∈ S) ∧ (hsB d t').Nodup ∧ okB lo d t' ∧ row = flatB d t' ∧ usedN l' + S.length = usedN l + (hsB d t').length
theorem okB_low {lo lo' d : Nat} {t : BT} (h : okB lo d t) (hl : lo' ≤ lo) : okB lo' d t := by
  cases d with
  | zero => exact ⟨Nat.le_trans hl h.1, h.2⟩
  | succ d => exact ⟨Nat.le_trans hl h.1, h.2⟩
theorem RemB.low {l l' : List RPlace} {lo lo' d : Nat} {S : List Handle} {h : Handle} {row : List THit} {K : Nat} (H : RemB l l' lo d S h row K) (hl : lo' ≤ lo) : RemB l l' lo' d S h row K :=
  ⟨H.same, H.big, let ⟨t, h1, h2, h3, h4, h5, h6⟩ := H.parts; ⟨t, h1, h2, h3, h4, okB_low h5 hl, h6⟩⟩
section
variable {l l' l1 : List RPlace} {d lo : Nat} {h : Handle} {ks P Q : List THit} {ts A B : List BT} {a b c t : BT} {u x z : THit} {K : Nat} {S : List Handle}
theorem bt_eta (t : BT) : BT.mk t.h t.ks t.ts = t := by cases t; rfl
theorem hsB_eta (d : Nat) (t : BT) : hsB d t = t.h :: hsK d t.ts := by rw [← bt_eta t, hsB_mk]; rfl
theorem two_flat (ha : okB 1 d a) (hb : okB 1 d b) : flatB d a ++ u :: flatB d b = flatB d (.mk h (a.ks ++ u :: b.ks) (a.ts ++ b.ts)) := by
  cases d with
  | zero => rfl
  | succ d =>
    have h1 := flatB_app (d := d) (h := h) (K1 := a.ks) (K2 := b.ks) (u := u) (A := a.ts) (B := b.ts) ha.2.2.1
    exact h1.symm
theorem parts_flat {at_ : Nat} (hk : okK d ks ts) (hat : at_ < ks.length) : flatB d (.mk h ks ts) = flatB d (.mk c.h (ks.take at_) (ts.take (at_ + 1))) ++ (ks.getD at_ default) :: flatB d (.mk b.h (ks.drop (at_ + 1)) (ts.drop (at_ + 1))) := by
  have hks : ks = ks.take at_ ++ ks.getD at_ default :: ks.drop (at_ + 1) := by
    rw [List.getD_eq_getElem?_getD, List.getElem?_eq_getElem hat, Option.getD_some, ← List.drop_eq_getElem_cons hat, List.take_append_drop]
  cases d with
  | zero => exact hks
  | succ d =>
    have h1 := flatB_app (d := d) (h := h) (K1 := ks.take at_) (K2 := ks.drop (at_ + 1)) (u := ks.getD at_ default) (A := ts.take (at_ + 1)) (B := ts.drop (at_ + 1)) (by rw [List.length_take, List.length_take]; have := hk.1; omega)
    rw [← hks, List.take_append_drop] at h1
    exact h1
theorem hsK_app : hsK d (A ++ B) = hsK d A ++ hsK d B := by
  cases d with
  | zero => rfl
  | succ d => exact List.flatMap_append
theorem kidsH_app : kidsH l d (A ++ B) ↔ kidsH l d A ∧ kidsH l d B := by
  cases d with
  | zero => simp [kidsH]
  | succ d => simp only [kidsH, List.mem_append]; exact ⟨fun h => ⟨fun s hs => h s (.inl hs), fun s hs => h s (.inr hs)⟩, fun h s hs => hs.elim (h.1 s) (h.2 s)⟩
theorem okK_two (ha : okB 1 d a) (hb : okB 1 d b) : okK d (a.ks ++ u :: b.ks) (a.ts ++ b.ts) := by
  cases d with
  | zero => trivial
  | succ d =>
    obtain ⟨_, _, h1, h2⟩ := ha
    obtain ⟨_, _, h3, h4⟩ := hb
    refine ⟨by simp [h1, h3]; omega, fun s hs => ?_⟩
    rcases List.mem_append.1 hs with hs | hs
    · exact h2 s hs
    · exact h4 s hs
theorem okK_take {at_ : Nat} (hk : okK d ks ts) (hat : at_ < ks.length) : okK d (ks.take at_) (ts.take (at_ + 1)) ∧ okK d (ks.drop (at_ + 1)) (ts.drop (at_ + 1)) := by
  cases d with
  | zero => exact ⟨trivial, trivial⟩
  | succ d =>
    obtain ⟨h1, h2⟩ := hk
    refine ⟨⟨by rw [List.length_take, List.length_take]; omega, fun s hs => h2 s (List.mem_of_mem_take hs)⟩, ⟨by rw [List.length_drop, List.length_drop]; omega, fun s hs => h2 s (List.mem_of_mem_drop hs)⟩⟩
theorem hsB_pair : hsK (d + 1) (A ++ a :: b :: B) = hsK (d + 1) A ++ (hsB d a ++ (hsB d b ++ hsK (d + 1) B)) := by simp [hsK]
theorem drop_one {α : Type} {P Q : List α} {u : α} : ((P ++ u :: Q).drop P.length).take 1 = [u] := by simp
structure PairB (l : List RPlace) (d : Nat) (h : Handle) (P Q : List THit) (u : THit) (A B : List BT) (a b : BT) : Prop where
  at_ : atA l h = some (nodeB (d + 1) (.mk h (P ++ u :: Q) (A ++ a :: b :: B)))
  kids : kidsH l (d + 1) (A ++ a :: b :: B)
  nodup : (h :: hsK (d + 1) (A ++ a :: b :: B)).Nodup
  lenA : A.length = P.length
  lenB : B.length = Q.length
  okA : ∀ s, s ∈ A → okB 2 d s
  okB_ : ∀ s, s ∈ B → okB 2 d s
  oka : okB 1 d a
  okb : okB 1 d b
theorem PairB.get (H : PairB l d h P Q u A B a b) : (rget l h).1 = nodeB (d + 1) (.mk h (P ++ u :: Q) (A ++ a :: b :: B)) := by rw [atA_get H.at_]
theorem PairB.kid (H : PairB l d h P Q u A B a b) : (rget l h).1.kids.getD P.length hdZero = a.h ∧ (rget l h).1.kids.getD (P.length + 1) hdZero = b.h := by
  rw [H.get, nodeB_kids, if_neg (by simp), List.map_append, List.map_cons, List.map_cons]
  exact ⟨getD_mid (by rw [List.length_map, H.lenA]), by rw [List.append_cons]; exact getD_mid (by simp [H.lenA])⟩
theorem PairB.ha (H : PairB l d h P Q u A B a b) : HoldsB l d a := H.kids a (by simp)
theorem PairB.hb (H : PairB l d h P Q u A B a b) : HoldsB l d b := H.kids b (by simp)
structure NodB (d : Nat) (h : Handle) (A B : List BT) (a b : BT) : Prop where
  hA : h ∉ hsK (d + 1) A
  ha : h ∉ hsB d a
  hb : h ∉ hsB d b
  hB : h ∉ hsK (d + 1) B
  nA : (hsK (d + 1) A).Nodup
  na : (hsB d a).Nodup
  nb : (hsB d b).Nodup
  nB : (hsK (d + 1) B).Nodup
  Aa : ∀ q, q ∈ hsK (d + 1) A → q ∉ hsB d a
  Ab : ∀ q, q ∈ hsK (d + 1) A → q ∉ hsB d b
  AB : ∀ q, q ∈ hsK (d + 1) A → q ∉ hsK (d + 1) B
  ab : ∀ q, q ∈ hsB d a → q ∉ hsB d b
  aB : ∀ q, q ∈ hsB d a → q ∉ hsK (d + 1) B
  bB : ∀ q, q ∈ hsB d b → q ∉ hsK (d + 1) B
theorem nodB_iff : (h :: hsK (d + 1) (A ++ a :: b :: B)).Nodup ↔ NodB d h A B a b := by
  rw [hsB_pair]
  simp only [List.nodup_cons, List.nodup_append, List.mem_append, not_or]
  constructor
  · rintro ⟨⟨h1, h2, h3, h4⟩, h5, ⟨h6, ⟨h7, h8, h9⟩, h10⟩, h11⟩
    exact ⟨h1, h2, h3, h4, h5, h6, h7, h8, fun q hq hm => h11 q hq q (.inl hm) rfl, fun q hq hm => h11 q hq q (.inr (.inl hm)) rfl, fun q hq hm => h11 q hq q (.inr (.inr hm)) rfl,
      fun q hq hm => h10 q hq q (.inl hm) rfl, fun q hq hm => h10 q hq q (.inr hm) rfl, fun q hq hm => h9 q hq q hm rfl⟩
  · intro H
    refine ⟨⟨H.hA, H.ha, H.hb, H.hB⟩, H.nA, ⟨H.na, ⟨H.nb, H.nB, fun q hq q' hq' e => H.bB q hq (e ▸ hq')⟩, fun q hq q' hq' e => ?_⟩, fun q hq q' hq' e => ?_⟩
    · subst e
      exact hq'.elim (H.ab q hq) (H.aB q hq)
    · subst e
      rcases hq' with hq' | hq' | hq'
      · exact H.Aa q hq hq'
      · exact H.Ab q hq hq'
      · exact H.AB q hq hq'
end
end Tp
namespace Tp
open Go
section
variable {l l' l1 l2 l3 : List RPlace} {d lo : Nat} {h : Handle} {ks P Q : List THit} {ts A B : List BT} {a b c t a' b' : BT} {u x z : THit} {K : Nat} {S : List Handle} {n m : Nd}
theorem hs_ne (h1 : h ∉ hsB d a) : h ≠ a.h := fun e => h1 (e ▸ hsB_self d a)
theorem nodB_ab (N : NodB d h A B a b) : a.h ≠ b.h := fun e => N.ab a.h (hsB_self d a) (e ▸ hsB_self d b)
theorem turn_ok {lw : Bool} (H : PairB l d h P Q u A B a b) (h1 : lo ≤ (P ++ u :: Q).length) (h4 : (P ++ u :: Q).length ≤ 4) (hB : BigA l K)
    (h2 : 2 ≤ turnA l h P.length lw) (h3 : turnA l h P.length lw ≤ 4) (h5 : turnA l h P.length lw + 3 ≤ (a.ks ++ u :: b.ks).length) (h6 : (a.ks ++ u :: b.ks).length ≤ turnA l h P.length lw + 5) :
    RemB l (turnF l h P.length lw) lo (d + 1) (h :: hsK (d + 1) (A ++ a :: b :: B)) h (flatB (d + 1) (.mk h (P ++ u :: Q) (A ++ a :: b :: B))) K := by
  obtain ⟨k1, k2⟩ := H.kid
  have ga : (rget l a.h).1 = nodeB d a := by rw [atA_get H.ha.self]
  have gb : (rget l b.h).1 = nodeB d b := by rw [atA_get H.hb.self]
  have gn := H.get
  generalize hat : turnA l h P.length lw = at_ at h2 h3 h5 h6
  have N := nodB_iff.1 H.nodup
  have okw := okK_two (u := u) H.oka H.okb
  obtain ⟨ok1, ok2⟩ := okK_take okw (at_ := at_) (by omega)
  -- what the three become
  let W := a.ks ++ u :: b.ks
  let TT := a.ts ++ b.ts
  have hW : W = a.ks ++ u :: b.ks := rfl
  have hWl : W.length = (a.ks ++ u :: b.ks).length := rfl
  have hTT : TT = a.ts ++ b.ts := rfl
  obtain ⟨a', ha'⟩ : ∃ a', a' = BT.mk a.h (W.take at_) (TT.take (at_ + 1)) := ⟨_, rfl⟩
  obtain ⟨b', hb'⟩ : ∃ b', b' = BT.mk b.h (W.drop (at_ + 1)) (TT.drop (at_ + 1)) := ⟨_, rfl⟩
  have ek : (nodeB d a).keys ++ (((nodeB (d + 1) (.mk h (P ++ u :: Q) (A ++ a :: b :: B))).keys.drop P.length).take 1 ++ (nodeB d b).keys) = W.map THit.key := by
    have : ((nodeB (d + 1) (.mk h (P ++ u :: Q) (A ++ a :: b :: B))).keys.drop P.length).take 1 = [u.key] := by
      rw [nodeB_keys, List.map_append, List.map_cons]
      have := drop_one (P := P.map THit.key) (Q := Q.map THit.key) (u := u.key)
      rwa [List.length_map] at this
    rw [this]; simp [hW, nodeB]
  have ev : (nodeB d a).vals ++ (((nodeB (d + 1) (.mk h (P ++ u :: Q) (A ++ a :: b :: B))).vals.drop P.length).take 1 ++ (nodeB d b).vals) = W.map THit.val := by
    have : ((nodeB (d + 1) (.mk h (P ++ u :: Q) (A ++ a :: b :: B))).vals.drop P.length).take 1 = [u.val] := by
      rw [nodeB_vals, List.map_append, List.map_cons]
      have := drop_one (P := P.map THit.val) (Q := Q.map THit.val) (u := u.val)
      rwa [List.length_map] at this
    rw [this]; simp [hW, nodeB]
  have ea : (⟨(nodeB d a).leaf, (W.map THit.key).take at_, if (nodeB d a).leaf then (nodeB d a).kids else ((nodeB d a).kids ++ (nodeB d b).kids).take (at_ + 1), (W.map THit.val).take at_⟩ : Nd) = nodeB d a' := by
    subst ha'
    cases d with
    | zero => simp [nodeB, BT.ks]
    | succ d => simp [nodeB, BT.ks, BT.ts, hTT]
  have eb : (⟨(nodeB d b).leaf, (W.map THit.key).drop (at_ + 1), if (nodeB d a).leaf then (nodeB d b).kids else ((nodeB d a).kids ++ (nodeB d b).kids).drop (at_ + 1), (W.map THit.val).drop (at_ + 1)⟩ : Nd) = nodeB d b' := by
    subst hb'
    cases d with
    | zero => simp [nodeB, BT.ks]
    | succ d => simp [nodeB, BT.ks, BT.ts, hTT]
  have hatW : at_ < W.length := by omega
  have en : (⟨(nodeB (d + 1) (.mk h (P ++ u :: Q) (A ++ a :: b :: B))).leaf, (nodeB (d + 1) (.mk h (P ++ u :: Q) (A ++ a :: b :: B))).keys.set P.length ((W.map THit.key).getD at_ default), (nodeB (d + 1) (.mk h (P ++ u :: Q) (A ++ a :: b :: B))).kids, (nodeB (d + 1) (.mk h (P ++ u :: Q) (A ++ a :: b :: B))).vals.set P.length ((W.map THit.val).getD at_ 0)⟩ : Nd)
      = nodeB (d + 1) (.mk h (P ++ W.getD at_ default :: Q) (A ++ a' :: b' :: B)) := by
    have g1 : (W.map THit.key).getD at_ default = (W.getD at_ default).key := by simp [List.getD, List.getElem?_eq_getElem hatW]
    have g2 : (W.map THit.val).getD at_ 0 = (W.getD at_ default).val := by simp [List.getD, List.getElem?_eq_getElem hatW]
    rw [g1, g2]
    subst ha'; subst hb'
    simp [nodeB, BT.ks, BT.ts, BT.h]
  have hF : turnF l h P.length lw = (rput (rput (rput l a.h (nodeB d a')).1 b.h (nodeB d b')).1 h (nodeB (d + 1) (.mk h (P ++ W.getD at_ default :: Q) (A ++ a' :: b' :: B)))).1 := by
    unfold turnF
    simp only [hat]
    rw [k1, k2, ga, gb, gn]
    rw [ek, ev, ea, eb, en]
  rw [hF]
  have e1 : atA l a.h = some (nodeB d a) := H.ha.self
  have e2 : atA (rput l a.h (nodeB d a')).1 b.h = some (nodeB d b) := by rw [put_at e1, if_neg (nodB_ab N).symm]; exact H.hb.self
  have e3 : atA (rput (rput l a.h (nodeB d a')).1 b.h (nodeB d b')).1 h = some (nodeB (d + 1) (.mk h (P ++ u :: Q) (A ++ a :: b :: B))) := by
    rw [put_at e2, if_neg (hs_ne N.hb), put_at e1, if_neg (hs_ne N.ha)]; exact H.at_
  have hs : SameA l (rput (rput (rput l a.h (nodeB d a')).1 b.h (nodeB d b')).1 h (nodeB (d + 1) (.mk h (P ++ W.getD at_ default :: Q) (A ++ a' :: b' :: B)))).1 [h, a.h, b.h] :=
    ((SameA.put e1 (by simp)).trans (SameA.put e2 (by simp))).trans (SameA.put e3 (by simp))
  have t1 : tinyN (nodeB d a') := by subst ha'; exact node_tiny (by rw [List.length_take]; omega) ok1
  have t2 : tinyN (nodeB d b') := by subst hb'; exact node_tiny (by rw [List.length_drop]; omega) ok2
  have t3 : tinyN (nodeB (d + 1) (.mk h (P ++ W.getD at_ default :: Q) (A ++ a' :: b' :: B))) := by
    have := hB.at H.at_
    simp only [tinyN, nodeB_keys, nodeB_vals, nodeB_kids, List.length_map, List.length_append, List.length_cons] at this ⊢
    simpa using this
  have hb1 := (((hB.put e1 t1).put e2 t2).put e3 t3)
  have hu : usedN (rput (rput (rput l a.h (nodeB d a')).1 b.h (nodeB d b')).1 h (nodeB (d + 1) (.mk h (P ++ W.getD at_ default :: Q) (A ++ a' :: b' :: B)))).1 = usedN l := by rw [put_used e3, put_used e2, put_used e1]
  have f1 : atA (rput (rput (rput l a.h (nodeB d a')).1 b.h (nodeB d b')).1 h (nodeB (d + 1) (.mk h (P ++ W.getD at_ default :: Q) (A ++ a' :: b' :: B)))).1 h = some (nodeB (d + 1) (.mk h (P ++ W.getD at_ default :: Q) (A ++ a' :: b' :: B))) := by rw [put_at e3, if_pos rfl]
  have f2 : atA (rput (rput (rput l a.h (nodeB d a')).1 b.h (nodeB d b')).1 h (nodeB (d + 1) (.mk h (P ++ W.getD at_ default :: Q) (A ++ a' :: b' :: B)))).1 a.h = some (nodeB d a') := by
    rw [put_at e3, if_neg (hs_ne N.ha).symm, put_at e2, if_neg (nodB_ab N), put_at e1, if_pos rfl]
  have f3 : atA (rput (rput (rput l a.h (nodeB d a')).1 b.h (nodeB d b')).1 h (nodeB (d + 1) (.mk h (P ++ W.getD at_ default :: Q) (A ++ a' :: b' :: B)))).1 b.h = some (nodeB d b') := by
    rw [put_at e3, if_neg (hs_ne N.hb).symm, put_at e2, if_pos rfl]
  generalize (rput (rput (rput l a.h (nodeB d a')).1 b.h (nodeB d b')).1 h (nodeB (d + 1) (.mk h (P ++ W.getD at_ default :: Q) (A ++ a' :: b' :: B)))).1 = l3 at hs hb1 hu f1 f2 f3
  -- the handles
  have na := N.na; have nb := N.nb; have nab := N.ab
  rw [hsB_eta] at na nb
  obtain ⟨na1, na2⟩ := List.nodup_cons.1 na
  obtain ⟨nb1, nb2⟩ := List.nodup_cons.1 nb
  have hsplit : hsK d (TT.take (at_ + 1)) ++ hsK d (TT.drop (at_ + 1)) = hsK d a.ts ++ hsK d b.ts := by rw [← hsK_app, List.take_append_drop, hTT, hsK_app]
  have hsa : hsB d a' = a.h :: hsK d (TT.take (at_ + 1)) := by subst ha'; exact hsB_mk
  have hsb : hsB d b' = b.h :: hsK d (TT.drop (at_ + 1)) := by subst hb'; exact hsB_mk
  have memT : ∀ q, (q ∈ hsK d (TT.take (at_ + 1)) ∨ q ∈ hsK d (TT.drop (at_ + 1))) ↔ (q ∈ hsK d a.ts ∨ q ∈ hsK d b.ts) := fun q => by rw [← List.mem_append, hsplit, List.mem_append]
  have ndT : (hsK d (TT.take (at_ + 1)) ++ hsK d (TT.drop (at_ + 1))).Nodup := by
    rw [hsplit]
    exact List.nodup_append.2 ⟨na2, nb2, fun q hq q' hq' e => nab q (by rw [hsB_eta]; simp [hq]) (by rw [hsB_eta, e]; simp [hq'])⟩
  obtain ⟨nd1, nd2, nd3⟩ := List.nodup_append.1 ndT
  have ina : ∀ q, q ∈ hsK d a.ts → q ∈ hsB d a := fun q hq => by rw [hsB_eta]; simp [hq]
  have inb : ∀ q, q ∈ hsK d b.ts → q ∈ hsB d b := fun q hq => by rw [hsB_eta]; simp [hq]
  have avoid : ∀ q, (q ∈ hsK d a.ts ∨ q ∈ hsK d b.ts) → q ≠ h ∧ q ≠ a.h ∧ q ≠ b.h := fun q hq => by
    rcases hq with hq | hq
    · exact ⟨fun e => N.ha (e ▸ ina q hq), fun e => na1 (e ▸ hq), fun e => nab q (ina q hq) (e ▸ hsB_self d b)⟩
    · exact ⟨fun e => N.hb (e ▸ inb q hq), fun e => nab q (e ▸ hsB_self d a) (inb q hq), fun e => nb1 (e ▸ hq)⟩
  have kab : kidsH l d TT := kidsH_app.2 ⟨by have := H.ha; rw [← bt_eta a, holds_mk] at this; exact this.2, by have := H.hb; rw [← bt_eta b, holds_mk] at this; exact this.2⟩
  rw [← List.take_append_drop (at_ + 1) TT] at kab
  obtain ⟨kab1, kab2⟩ := kidsH_app.1 kab
  have hold1 : HoldsB l3 d a' := by
    have := kidsH_same hs kab1 fun q hq => by
      have := avoid q ((memT q).1 (.inl hq)); simp [this.1, this.2.1, this.2.2]
    rw [ha'] at f2 ⊢
    exact holds_mk.2 ⟨f2, this⟩
  have hold2 : HoldsB l3 d b' := by
    have := kidsH_same hs kab2 fun q hq => by
      have := avoid q ((memT q).1 (.inr hq)); simp [this.1, this.2.1, this.2.2]
    rw [hb'] at f3 ⊢
    exact holds_mk.2 ⟨f3, this⟩
  have oth : ∀ s, s ∈ A ∨ s ∈ B → ∀ q, q ∈ hsB d s → q ∉ [h, a.h, b.h] := by
    intro s hs q hq hm
    simp only [List.mem_cons, List.not_mem_nil, or_false] at hm
    rcases hs with hs | hs
    · have hqA : q ∈ hsK (d + 1) A := List.mem_flatMap.2 ⟨s, hs, hq⟩
      rcases hm with rfl | rfl | rfl
      · exact N.hA hqA
      · exact N.Aa _ hqA (hsB_self d a)
      · exact N.Ab _ hqA (hsB_self d b)
    · have hqB : q ∈ hsK (d + 1) B := List.mem_flatMap.2 ⟨s, hs, hq⟩
      rcases hm with rfl | rfl | rfl
      · exact N.hB hqB
      · exact N.aB _ (hsB_self d a) hqB
      · exact N.bB _ (hsB_self d b) hqB
  have mem_ab : ∀ q, (q ∈ hsB d a' ∨ q ∈ hsB d b') → (q ∈ hsB d a ∨ q ∈ hsB d b) := fun q hq => by
    rw [hsa, hsb, List.mem_cons, List.mem_cons] at hq
    rcases hq with (rfl | hq) | (rfl | hq)
    · exact .inl (hsB_self d a)
    · exact ((memT q).1 (.inl hq)).imp (ina q) (inb q)
    · exact .inr (hsB_self d b)
    · exact ((memT q).1 (.inr hq)).imp (ina q) (inb q)
  have N' : NodB d h A B a' b' := by
    refine ⟨N.hA, fun q => (mem_ab h (.inl q)).elim N.ha N.hb, fun q => (mem_ab h (.inr q)).elim N.ha N.hb, N.hB, N.nA, ?_, ?_, N.nB, fun q hq hm => (mem_ab q (.inl hm)).elim (N.Aa q hq) (N.Ab q hq), fun q hq hm => (mem_ab q (.inr hm)).elim (N.Aa q hq) (N.Ab q hq), N.AB, ?_,
      fun q hq hm => (mem_ab q (.inl hq)).elim (fun h => N.aB q h hm) fun h => N.bB q h hm, fun q hq hm => (mem_ab q (.inr hq)).elim (fun h => N.aB q h hm) fun h => N.bB q h hm⟩
    · rw [hsa]; exact List.nodup_cons.2 ⟨fun q => (avoid _ ((memT _).1 (.inl q))).2.1 rfl, nd1⟩
    · rw [hsb]; exact List.nodup_cons.2 ⟨fun q => (avoid _ ((memT _).1 (.inr q))).2.2 rfl, nd2⟩
    · intro q hq hq2
      rw [hsa] at hq; rw [hsb] at hq2
      rcases List.mem_cons.1 hq with rfl | hq
      · rcases List.mem_cons.1 hq2 with e | hq2
        · exact nodB_ab N e
        · exact (avoid _ ((memT _).1 (.inr hq2))).2.1 rfl
      · rcases List.mem_cons.1 hq2 with rfl | hq2
        · exact (avoid _ ((memT _).1 (.inl hq))).2.2 rfl
        · exact nd3 q hq q hq2 rfl
  have hlen : (hsB d a').length + (hsB d b').length = (hsB d a).length + (hsB d b).length := by
    have := congrArg List.length hsplit
    simp only [List.length_append] at this
    rw [hsa, hsb, hsB_eta d a, hsB_eta d b]; simp only [List.length_cons]; omega
  refine ⟨hs.mono fun q hq => ?_, hb1, .mk h (P ++ W.getD at_ default :: Q) (A ++ a' :: b' :: B), rfl, ?_, ?_, ?_, ?_, ?_, ?_⟩
  · rw [hsB_pair]
    simp only [List.mem_cons, List.not_mem_nil, or_false, List.mem_append] at hq ⊢
    rcases hq with rfl | rfl | rfl
    · exact .inl rfl
    · exact .inr (.inr (.inl (hsB_self d a)))
    · exact .inr (.inr (.inr (.inl (hsB_self d b))))
  · refine holds_mk.2 ⟨f1, fun s hs' => ?_⟩
    rcases List.mem_append.1 hs' with hs' | hs'
    · exact (H.kids s (by simp [hs'])).same hs (oth s (.inl hs'))
    · rcases List.mem_cons.1 hs' with rfl | hs'
      · exact hold1
      · rcases List.mem_cons.1 hs' with rfl | hs'
        · exact hold2
        · exact (H.kids s (by simp [hs'])).same hs (oth s (.inr hs'))
  · rw [hsB_mk, hsB_pair, hsB_pair]
    intro q hq
    simp only [List.mem_cons, List.mem_append] at hq ⊢
    rcases hq with hq | hq | hq | hq | hq
    · exact .inl hq
    · exact .inr (.inl hq)
    · exact (mem_ab q (.inl hq)).elim (fun h => .inr (.inr (.inl h))) fun h => .inr (.inr (.inr (.inl h)))
    · exact (mem_ab q (.inr hq)).elim (fun h => .inr (.inr (.inl h))) fun h => .inr (.inr (.inr (.inl h)))
    · exact .inr (.inr (.inr (.inr hq)))
  · rw [hsB_mk]; exact nodB_iff.2 N'
  · refine ok_mk.2 ⟨by simpa using h1, by simpa using h4, by simp [H.lenA, H.lenB]; omega, fun s hs' => ?_⟩
    rcases List.mem_append.1 hs' with hs' | hs'
    · exact H.okA s hs'
    · rcases List.mem_cons.1 hs' with rfl | hs'
      · rw [ha']; exact ok_mk.2 ⟨by rw [List.length_take]; omega, by rw [List.length_take]; omega, ok1⟩
      · rcases List.mem_cons.1 hs' with rfl | hs'
        · rw [hb']; exact ok_mk.2 ⟨by rw [List.length_drop]; omega, by rw [List.length_drop]; omega, ok2⟩
        · exact H.okB_ s hs'
  · rw [flatB_two H.lenA H.lenB, flatB_two H.lenA H.lenB, two_flat (h := h) H.oka H.okb, parts_flat (c := a) (b := b) okw (at_ := at_) (by omega), ha', hb']
  · rw [hu, hsB_mk, hsB_pair, hsB_pair]; simp only [List.length_cons, List.length_append]; omega
theorem join_ok (H : PairB l d h P Q u A B a b) (h1 : lo + 1 ≤ (P ++ u :: Q).length) (h4 : (P ++ u :: Q).length ≤ 4) (hB : BigA l K) (h5 : 2 ≤ (a.ks ++ u :: b.ks).length) (h6 : (a.ks ++ u :: b.ks).length ≤ 4) :
    RemB l (joinF l h P.length) lo (d + 1) (h :: hsK (d + 1) (A ++ a :: b :: B)) h (flatB (d + 1) (.mk h (P ++ u :: Q) (A ++ a :: b :: B))) K := by
  obtain ⟨k1, k2⟩ := H.kid
  have ga : (rget l a.h).1 = nodeB d a := by rw [atA_get H.ha.self]
  have gb : (rget l b.h).1 = nodeB d b := by rw [atA_get H.hb.self]
  have gn := H.get
  have N := nodB_iff.1 H.nodup
  have okw := okK_two (u := u) H.oka H.okb
  obtain ⟨a', ha'⟩ : ∃ a', a' = BT.mk a.h (a.ks ++ u :: b.ks) (a.ts ++ b.ts) := ⟨_, rfl⟩
  have ek : (nodeB d a).keys ++ (((nodeB (d + 1) (.mk h (P ++ u :: Q) (A ++ a :: b :: B))).keys.drop P.length).take 1 ++ (nodeB d b).keys) = (a.ks ++ u :: b.ks).map THit.key := by
    have : ((nodeB (d + 1) (.mk h (P ++ u :: Q) (A ++ a :: b :: B))).keys.drop P.length).take 1 = [u.key] := by
      rw [nodeB_keys, List.map_append, List.map_cons]
      have := drop_one (P := P.map THit.key) (Q := Q.map THit.key) (u := u.key)
      rwa [List.length_map] at this
    rw [this]; simp [nodeB]
  have ev : (nodeB d a).vals ++ (((nodeB (d + 1) (.mk h (P ++ u :: Q) (A ++ a :: b :: B))).vals.drop P.length).take 1 ++ (nodeB d b).vals) = (a.ks ++ u :: b.ks).map THit.val := by
    have : ((nodeB (d + 1) (.mk h (P ++ u :: Q) (A ++ a :: b :: B))).vals.drop P.length).take 1 = [u.val] := by
      rw [nodeB_vals, List.map_append, List.map_cons]
      have := drop_one (P := P.map THit.val) (Q := Q.map THit.val) (u := u.val)
      rwa [List.length_map] at this
    rw [this]; simp [nodeB]
  have ea : (⟨(nodeB d a).leaf, (a.ks ++ u :: b.ks).map THit.key, (nodeB d a).kids ++ (nodeB d b).kids, (a.ks ++ u :: b.ks).map THit.val⟩ : Nd) = nodeB d a' := by
    subst ha'
    cases d with
    | zero => simp [nodeB, BT.ks]
    | succ d => simp [nodeB, BT.ks, BT.ts]
  have en : (⟨(nodeB (d + 1) (.mk h (P ++ u :: Q) (A ++ a :: b :: B))).leaf, (nodeB (d + 1) (.mk h (P ++ u :: Q) (A ++ a :: b :: B))).keys.eraseIdx P.length, (nodeB (d + 1) (.mk h (P ++ u :: Q) (A ++ a :: b :: B))).kids.eraseIdx (P.length + 1), (nodeB (d + 1) (.mk h (P ++ u :: Q) (A ++ a :: b :: B))).vals.eraseIdx P.length⟩ : Nd)
      = nodeB (d + 1) (.mk h (P ++ Q) (A ++ a' :: B)) := by
    have q1 : ((P ++ u :: Q).map THit.key).eraseIdx P.length = (P ++ Q).map THit.key := by
      rw [List.map_append, List.map_cons, List.eraseIdx_append_of_length_le (by simp)]; simp
    have q2 : ((P ++ u :: Q).map THit.val).eraseIdx P.length = (P ++ Q).map THit.val := by
      rw [List.map_append, List.map_cons, List.eraseIdx_append_of_length_le (by simp)]; simp
    have q3 : ((A ++ a :: b :: B).map BT.h).eraseIdx (P.length + 1) = (A ++ a' :: B).map BT.h := by
      rw [List.map_append, List.eraseIdx_append_of_length_le (by simp [H.lenA])]
      subst ha'; simp [H.lenA, BT.h]
    rw [nodeB_keys, nodeB_vals, nodeB_kids, if_neg (by simp), q1, q2, q3]; rfl
  have hF : joinF l h P.length = (rput (rfree (rput l a.h (nodeB d a')).1 [b.h]).1 h (nodeB (d + 1) (.mk h (P ++ Q) (A ++ a' :: B)))).1 := by
    unfold joinF
    simp only
    rw [k1, k2, ga, gb, gn]
    rw [ek, ev, ea, en]
  rw [hF]
  have e1 : atA l a.h = some (nodeB d a) := H.ha.self
  have e2 : atA (rput l a.h (nodeB d a')).1 b.h = some (nodeB d b) := by rw [put_at e1, if_neg (nodB_ab N).symm]; exact H.hb.self
  have e3 : atA (rfree (rput l a.h (nodeB d a')).1 [b.h]).1 h = some (nodeB (d + 1) (.mk h (P ++ u :: Q) (A ++ a :: b :: B))) := by
    rw [free_at e2, if_neg (hs_ne N.hb), put_at e1, if_neg (hs_ne N.ha)]; exact H.at_
  have hs : SameA l (rput (rfree (rput l a.h (nodeB d a')).1 [b.h]).1 h (nodeB (d + 1) (.mk h (P ++ Q) (A ++ a' :: B)))).1 [h, a.h, b.h] :=
    ((SameA.put e1 (by simp)).trans (SameA.free e2 (by simp))).trans (SameA.put e3 (by simp))
  have t1 : tinyN (nodeB d a') := by subst ha'; exact node_tiny (by omega) okw
  have t3 : tinyN (nodeB (d + 1) (.mk h (P ++ Q) (A ++ a' :: B))) := by
    have := hB.at H.at_
    simp only [tinyN, nodeB_keys, nodeB_vals, nodeB_kids, List.length_map, List.length_append, List.length_cons] at this ⊢
    obtain ⟨w1, w2, w3⟩ := this
    simp at w2 ⊢
    omega
  have hb1 := (((hB.put e1 t1).free e2).put e3 t3)
  have hu : usedN (rput (rfree (rput l a.h (nodeB d a')).1 [b.h]).1 h (nodeB (d + 1) (.mk h (P ++ Q) (A ++ a' :: B)))).1 + 1 = usedN l := by rw [put_used e3, free_used e2, put_used e1]
  have f1 : atA (rput (rfree (rput l a.h (nodeB d a')).1 [b.h]).1 h (nodeB (d + 1) (.mk h (P ++ Q) (A ++ a' :: B)))).1 h = some (nodeB (d + 1) (.mk h (P ++ Q) (A ++ a' :: B))) := by rw [put_at e3, if_pos rfl]
  have f2 : atA (rput (rfree (rput l a.h (nodeB d a')).1 [b.h]).1 h (nodeB (d + 1) (.mk h (P ++ Q) (A ++ a' :: B)))).1 a.h = some (nodeB d a') := by
    rw [put_at e3, if_neg (hs_ne N.ha).symm, free_at e2, if_neg (nodB_ab N), put_at e1, if_pos rfl]
  generalize (rput (rfree (rput l a.h (nodeB d a')).1 [b.h]).1 h (nodeB (d + 1) (.mk h (P ++ Q) (A ++ a' :: B)))).1 = l3 at hs hb1 hu f1 f2
  have na := N.na; have nb := N.nb; have nab := N.ab
  rw [hsB_eta] at na nb
  obtain ⟨na1, na2⟩ := List.nodup_cons.1 na
  obtain ⟨nb1, nb2⟩ := List.nodup_cons.1 nb
  have hsa : hsB d a' = a.h :: (hsK d a.ts ++ hsK d b.ts) := by subst ha'; rw [hsB_mk, hsK_app]
  have ina : ∀ q, q ∈ hsK d a.ts → q ∈ hsB d a := fun q hq => by rw [hsB_eta]; simp [hq]
  have inb : ∀ q, q ∈ hsK d b.ts → q ∈ hsB d b := fun q hq => by rw [hsB_eta]; simp [hq]
  have avoid : ∀ q, (q ∈ hsK d a.ts ∨ q ∈ hsK d b.ts) → q ≠ h ∧ q ≠ a.h ∧ q ≠ b.h := fun q hq => by
    rcases hq with hq | hq
    · exact ⟨fun e => N.ha (e ▸ ina q hq), fun e => na1 (e ▸ hq), fun e => nab q (ina q hq) (e ▸ hsB_self d b)⟩
    · exact ⟨fun e => N.hb (e ▸ inb q hq), fun e => nab q (e ▸ hsB_self d a) (inb q hq), fun e => nb1 (e ▸ hq)⟩
  have kab : kidsH l d (a.ts ++ b.ts) := kidsH_app.2 ⟨by have := H.ha; rw [← bt_eta a, holds_mk] at this; exact this.2, by have := H.hb; rw [← bt_eta b, holds_mk] at this; exact this.2⟩
  have hold1 : HoldsB l3 d a' := by
    have := kidsH_same hs kab fun q hq => by
      rw [hsK_app] at hq
      have := avoid q (List.mem_append.1 hq); simp [this.1, this.2.1, this.2.2]
    rw [ha'] at f2 ⊢
    exact holds_mk.2 ⟨f2, this⟩
  have oth : ∀ s, s ∈ A ∨ s ∈ B → ∀ q, q ∈ hsB d s → q ∉ [h, a.h, b.h] := by
    intro s hs q hq hm
    simp only [List.mem_cons, List.not_mem_nil, or_false] at hm
    rcases hs with hs | hs
    · have hqA : q ∈ hsK (d + 1) A := List.mem_flatMap.2 ⟨s, hs, hq⟩
      rcases hm with rfl | rfl | rfl
      · exact N.hA hqA
      · exact N.Aa _ hqA (hsB_self d a)
      · exact N.Ab _ hqA (hsB_self d b)
    · have hqB : q ∈ hsK (d + 1) B := List.mem_flatMap.2 ⟨s, hs, hq⟩
      rcases hm with rfl | rfl | rfl
      · exact N.hB hqB
      · exact N.aB _ (hsB_self d a) hqB
      · exact N.bB _ (hsB_self d b) hqB
  have mem_ab : ∀ q, q ∈ hsB d a' → (q ∈ hsB d a ∨ q ∈ hsB d b) := fun q hq => by
    rw [hsa, List.mem_cons, List.mem_append] at hq
    rcases hq with rfl | hq | hq
    · exact .inl (hsB_self d a)
    · exact .inl (ina q hq)
    · exact .inr (inb q hq)
  have na' : (hsB d a').Nodup := by
    rw [hsa]
    refine List.nodup_cons.2 ⟨fun q => ?_, List.nodup_append.2 ⟨na2, nb2, fun q hq q' hq' e => nab q (ina q hq) (e ▸ inb q' hq')⟩⟩
    exact (avoid _ (List.mem_append.1 q)).2.1 rfl
  have hsp : hsK (d + 1) (A ++ a' :: B) = hsK (d + 1) A ++ (hsB d a' ++ hsK (d + 1) B) := hsK_mid
  refine ⟨hs.mono fun q hq => ?_, hb1, .mk h (P ++ Q) (A ++ a' :: B), rfl, ?_, ?_, ?_, ?_, ?_, ?_⟩
  · rw [hsB_pair]
    simp only [List.mem_cons, List.not_mem_nil, or_false, List.mem_append] at hq ⊢
    rcases hq with rfl | rfl | rfl
    · exact .inl rfl
    · exact .inr (.inr (.inl (hsB_self d a)))
    · exact .inr (.inr (.inr (.inl (hsB_self d b))))
  · refine holds_mk.2 ⟨f1, fun s hs' => ?_⟩
    rcases List.mem_append.1 hs' with hs' | hs'
    · exact (H.kids s (by simp [hs'])).same hs (oth s (.inl hs'))
    · rcases List.mem_cons.1 hs' with rfl | hs'
      · exact hold1
      · exact (H.kids s (by simp [hs'])).same hs (oth s (.inr hs'))
  · rw [hsB_mk, hsB_pair, hsp]
    intro q hq
    simp only [List.mem_cons, List.mem_append] at hq ⊢
    rcases hq with hq | hq | hq | hq
    · exact .inl hq
    · exact .inr (.inl hq)
    · exact (mem_ab q hq).elim (fun h => .inr (.inr (.inl h))) fun h => .inr (.inr (.inr (.inl h)))
    · exact .inr (.inr (.inr (.inr hq)))
  · rw [hsB_mk, hsp]
    refine List.nodup_cons.2 ⟨?_, List.nodup_append.2 ⟨N.nA, List.nodup_append.2 ⟨na', N.nB, fun q hq q' hq' e => ?_⟩, fun q hq q' hq' e => ?_⟩⟩
    · simp only [List.mem_append, not_or]
      exact ⟨N.hA, fun q => (mem_ab h q).elim N.ha N.hb, N.hB⟩
    · subst e; exact (mem_ab q hq).elim (fun h => N.aB q h hq') fun h => N.bB q h hq'
    · subst e
      rcases List.mem_append.1 hq' with hq' | hq'
      · exact (mem_ab q hq').elim (N.Aa q hq) (N.Ab q hq)
      · exact N.AB q hq hq'
  · refine ok_mk.2 ⟨by simp at h1 ⊢; omega, by simp at h4 ⊢; omega, by simp [H.lenA, H.lenB]; omega, fun s hs' => ?_⟩
    rcases List.mem_append.1 hs' with hs' | hs'
    · exact H.okA s hs'
    · rcases List.mem_cons.1 hs' with rfl | hs'
      · rw [ha']; exact ok_mk.2 ⟨h5, h6, okw⟩
      · exact H.okB_ s hs'
  · rw [flatB_two H.lenA H.lenB, flatB_mid H.lenA H.lenB, two_flat (h := a.h) H.oka H.okb, ha']
  · have l1 : (hsB d a').length + 1 = (hsB d a).length + (hsB d b).length := by rw [hsa, hsB_eta d a, hsB_eta d b]; simp only [List.length_cons, List.length_append]; omega
    rw [hsB_mk, hsB_pair, hsp]; simp only [List.length_cons, List.length_append]; omega
end
end Tp
namespace Tp
open Go
def lastF : Nat → List RPlace → Handle → THit
  | d, l, h =>
    let n := (rget l h).1
    if n.leaf then ⟨n.keys.getD (n.keys.length - 1) default, n.vals.getD (n.vals.length - 1) 0⟩
    else match d with
      | 0 => default
      | d + 1 => lastF d l (n.kids.getD (n.kids.length - 1) hdZero)
def remF : Nat → List RPlace → Handle → ByteArray → List RPlace
  | d, l, h, k =>
    let n := (rget l h).1
    let i := bsI n.keys k
    if bsF n.keys k then
      if n.leaf then (rput l h ⟨n.leaf, n.keys.eraseIdx i, n.kids, n.vals.eraseIdx i⟩).1
      else match d with
        | 0 => l
        | d + 1 =>
          let x := lastF d l (n.kids.getD i hdZero)
          let l1 := (rput l h ⟨n.leaf, n.keys.set i x.key, n.kids, n.vals.set i x.val⟩).1
          mendF (remF d l1 (n.kids.getD i hdZero) x.key) h i
    else match d with
      | 0 => l
      | d + 1 => mendF (remF d l (n.kids.getD i hdZero) k) h i
section
variable {l l' l1 l2 l3 : List RPlace} {d lo : Nat} {h : Handle} {ks P Q : List THit} {ts A B : List BT} {a b c t a' b' : BT} {u x z : THit} {K : Nat} {S : List Handle} {n m : Nd}
theorem okB_up (h1 : okB 1 d c) (h2 : 2 ≤ c.ks.length) : okB 2 d c := by
  cases d with
  | zero => exact ⟨h2, h1.2⟩
  | succ d => exact ⟨h2, h1.2⟩
theorem okB_len (h1 : okB lo d c) : lo ≤ c.ks.length ∧ c.ks.length ≤ 4 := by
  cases d with
  | zero => exact h1
  | succ d => exact ⟨h1.1, h1.2.1⟩
theorem kid_at (e : atA l h = some (nodeB (d + 1) (.mk h ks (A ++ c :: B)))) {i : Nat} (hi : A.length = i) : (rget l h).1.kids.getD i hdZero = c.h := by
  rw [atA_get e]; simp only
  rw [nodeB_kids, if_neg (by simp), List.map_append, List.map_cons]
  exact getD_mid (by rw [List.length_map, hi])
theorem mend_ok (e : atA l h = some (nodeB (d + 1) (.mk h ks (A ++ c :: B)))) (hk : kidsH l (d + 1) (A ++ c :: B)) (hn : (h :: hsK (d + 1) (A ++ c :: B)).Nodup) (hl : (A ++ c :: B).length = ks.length + 1)
    (h1 : lo ≤ ks.length) (h1' : 1 ≤ ks.length) (h4 : ks.length ≤ 4) (hA : ∀ s, s ∈ A → okB 2 d s) (hc : okB 1 d c) (hB : ∀ s, s ∈ B → okB 2 d s) (hb : BigA l K) (hlo : 1 ≤ lo) :
    RemB l (mendF l h A.length) (lo - 1) (d + 1) (h :: hsK (d + 1) (A ++ c :: B)) h (flatB (d + 1) (.mk h ks (A ++ c :: B))) K := by
  have kc := kid_at e rfl
  have gc : (rget l c.h).1 = nodeB d c := by rw [atA_get (hk c (by simp)).self]
  have gn : (rget l h).1 = nodeB (d + 1) (.mk h ks (A ++ c :: B)) := by rw [atA_get e]
  have kl : (rget l h).1.kids.length = A.length + B.length + 1 := by rw [gn, nodeB_kids, if_neg (by simp), List.length_map, List.length_append, List.length_cons]; omega
  have hlen : A.length + B.length = ks.length := by simp at hl; omega
  have hck : (nodeB d c).keys.length = c.ks.length := by simp [nodeB]
  unfold mendF
  simp only [kc, gc, hck]
  by_cases h2 : 2 ≤ c.ks.length
  · rw [if_pos h2]
    refine ⟨SameA.refl, hb, .mk h ks (A ++ c :: B), rfl, holds_mk.2 ⟨e, hk⟩, by rw [hsB_mk]; exact fun _ h => h, by rw [hsB_mk]; exact hn, ok_mk.2 ⟨by omega, h4, hl, fun s hs => ?_⟩, rfl, by rw [hsB_mk]⟩
    rcases List.mem_append.1 hs with hs | hs
    · exact hA s hs
    · rcases List.mem_cons.1 hs with rfl | hs
      · exact okB_up hc h2
      · exact hB s hs
  · rw [if_neg h2]
    have c1 : c.ks.length = 1 := by have := (okB_len hc).1; omega
    -- the left neighbour
    have left : ∀ A' a, A = A' ++ [a] → ∃ P u Q, ks = P ++ u :: Q ∧ P.length = A.length - 1 ∧ PairB l d h P Q u A' B a c ∧ A' ++ a :: c :: B = A ++ c :: B ∧ richF l (rget l h).1 ((A.length : Int) - 1) = decide (2 < a.ks.length) ∧ 2 ≤ a.ks.length ∧ a.ks.length ≤ 4 := by
      rintro A' a rfl
      obtain ⟨P, u, Q, rfl, hP⟩ := split_at (l := ks) (i := A'.length) (by simp at hlen; omega)
      have hQ : B.length = Q.length := by simp at hlen; omega
      have ee : (A' ++ [a]) ++ c :: B = A' ++ a :: c :: B := by simp
      have oa := hA a (by simp)
      have ga : (rget l a.h).1 = nodeB d a := by rw [atA_get (hk a (by simp)).self]
      rw [ee] at e hk hn
      refine ⟨P, u, Q, rfl, by simp [hP], ⟨e, hk, hn, hP.symm, hQ, fun s hs => hA s (by simp [hs]), hB, okB_low oa (by omega), hc⟩, by simp, ?_, okB_len oa⟩
      have ka := kid_at e rfl
      unfold richF
      rw [kl]
      have ej : (((A' ++ [a]).length : Int) - 1) = (A'.length : Int) := by simp
      have hak : (nodeB d a).keys.length = a.ks.length := by simp [nodeB]
      rw [ej, Int.toNat_natCast, ka, ga, hak]
      have : (decide (0 ≤ (A'.length : Int)) && decide ((A'.length : Int) < (((A' ++ [a]).length + B.length + 1 : Nat) : Int))) = true := by simp; omega
      rw [this, Bool.true_and]
    have right : ∀ b B', B = b :: B' → ∃ P u Q, ks = P ++ u :: Q ∧ P.length = A.length ∧ PairB l d h P Q u A B' c b ∧ richF l (rget l h).1 ((A.length : Int) + 1) = decide (2 < b.ks.length) ∧ 2 ≤ b.ks.length ∧ b.ks.length ≤ 4 := by
      rintro b B' rfl
      obtain ⟨P, u, Q, rfl, hP⟩ := split_at (l := ks) (i := A.length) (by simp at hlen; omega)
      have hQ : B'.length = Q.length := by simp at hlen; omega
      have ob := hB b (by simp)
      have gb : (rget l b.h).1 = nodeB d b := by rw [atA_get (hk b (by simp)).self]
      refine ⟨P, u, Q, rfl, hP, ⟨e, hk, hn, hP.symm, hQ, hA, fun s hs => hB s (by simp [hs]), hc, okB_low ob (by omega)⟩, ?_, okB_len ob⟩
      have kb : (rget l h).1.kids.getD (A.length + 1) hdZero = b.h := by
        exact kid_at (A := A ++ [c]) (c := b) (B := B') (by rw [List.append_assoc]; exact e) (by simp)
      unfold richF
      rw [kl]
      have ej : ((A.length : Int) + 1).toNat = A.length + 1 := by omega
      have hbk : (nodeB d b).keys.length = b.ks.length := by simp [nodeB]
      rw [ej, kb, gb, hbk]
      have : (decide (0 ≤ (A.length : Int) + 1) && decide ((A.length : Int) + 1 < ((A.length + (b :: B').length + 1 : Nat) : Int))) = true := by simp; omega
      rw [this, Bool.true_and]
    by_cases hr1 : richF l (rget l h).1 ((A.length : Int) - 1) = true
    · rw [if_pos hr1]
      rcases List.eq_nil_or_concat A with rfl | ⟨A', a, hAe⟩
      · simp [richF] at hr1
      · rw [List.concat_eq_append] at hAe
        obtain ⟨P, u, Q, rfl, hP, H, ee, hr, a2, a4⟩ := left A' a hAe
        rw [hr, decide_eq_true_eq] at hr1
        have ga : (rget l a.h).1 = nodeB d a := by rw [atA_get H.ha.self]
        have hT : turnA l h P.length false = a.ks.length - 1 := by
          unfold turnA; rw [H.kid.1, ga]; simp [nodeB]
        have := turn_ok (lo := lo) (lw := false) H h1 h4 hb (by rw [hT]; omega) (by rw [hT]; omega) (by rw [hT]; simp [c1]; omega) (by rw [hT]; simp [c1]; omega)
        rw [ee, hP] at this
        exact this.low (by omega)
    · rw [if_neg hr1]
      by_cases hr2 : richF l (rget l h).1 ((A.length : Int) + 1) = true
      · rw [if_pos hr2]
        cases B with
        | nil =>
          exfalso
          have : richF l (rget l h).1 ((A.length : Int) + 1) = false := by
            unfold richF; rw [kl]; simp
          rw [this] at hr2; cases hr2
        | cons b B' =>
          obtain ⟨P, u, Q, rfl, hP, H, hr, b2, b4⟩ := right b B' rfl
          rw [hr, decide_eq_true_eq] at hr2
          have hT : turnA l h P.length true = 2 := by
            unfold turnA; rw [H.kid.1, gc]; simp [nodeB, c1]
          have := turn_ok (lo := lo) (lw := true) H h1 h4 hb (by rw [hT]; omega) (by rw [hT]; omega) (by rw [hT]; simp [c1]; omega) (by rw [hT]; simp [c1]; omega)
          rw [hP] at this
          exact this.low (by omega)
      · rw [if_neg hr2]
        rcases List.eq_nil_or_concat A with rfl | ⟨A', a, hAe⟩
        · simp only [List.length_nil, Nat.lt_irrefl, if_false]
          cases B with
          | nil => simp at hlen; omega
          | cons b B' =>
            obtain ⟨P, u, Q, rfl, hP, H, hr, b2, b4⟩ := right b B' rfl
            rw [hr, decide_eq_true_eq] at hr2
            have := join_ok (lo := lo - 1) H (by omega) h4 hb (by simp [c1]; omega) (by simp [c1]; omega)
            rw [hP] at this
            exact this
        · rw [List.concat_eq_append] at hAe
          obtain ⟨P, u, Q, rfl, hP, H, ee, hr, a2, a4⟩ := left A' a hAe
          rw [hr, decide_eq_true_eq] at hr1
          rw [if_pos (by rw [hAe]; simp)]
          have := join_ok (lo := lo - 1) H (by omega) h4 hb (by simp [c1]) (by simp [c1]; omega)
          rw [ee, hP] at this
          exact this
theorem last_ok : ∀ {d : Nat} {t : BT}, HoldsB l d t → okB 1 d t → ∃ F, flatB d t = F ++ [lastF d l t.h] := by
  intro d
  induction d with
  | zero =>
    intro t H ho
    obtain ⟨h, ks, ts⟩ := t
    have hg : (rget l h).1 = nodeB 0 (.mk h ks ts) := by rw [atA_get (holds_mk.1 H).1]
    have hl := (ok_mk.1 ho).1
    obtain ⟨F, z, rfl⟩ : ∃ F z, ks = F ++ [z] := ⟨ks.dropLast, ks.getLast (by rintro rfl; simp at hl), (List.dropLast_concat_getLast _).symm⟩
    refine ⟨F, ?_⟩
    unfold lastF
    simp [BT.h, hg, nodeB, BT.ks, flatB]
  | succ d ih =>
    intro t H ho
    obtain ⟨h, ks, ts⟩ := t
    have hg : (rget l h).1 = nodeB (d + 1) (.mk h ks ts) := by rw [atA_get (holds_mk.1 H).1]
    obtain ⟨o1, o2, o3, o4⟩ := ok_mk.1 ho
    obtain ⟨A, c, rfl⟩ : ∃ A c, ts = A ++ [c] := ⟨ts.dropLast, ts.getLast (by rintro rfl; simp at o3), (List.dropLast_concat_getLast _).symm⟩
    have hA : A.length = ks.length := by simpa using o3
    obtain ⟨F, hF⟩ := ih ((holds_mk.1 H).2 c (by simp)) (okB_low (o4 c (by simp)) (by omega))
    have hfl := flatB_mid (d := d) (h := h) (K1 := ks) (K2 := []) (A := A) (B := []) (c := c) hA rfl
    rw [List.append_nil] at hfl
    refine ⟨preW (A.map (flatB d)) ks ++ F, ?_⟩
    have hl : lastF (d + 1) l (BT.mk h ks (A ++ [c])).h = lastF d l c.h := by
      conv => lhs; unfold lastF
      simp [BT.h, hg, nodeB, BT.ks, BT.ts]
    rw [hl, hfl, hF]; simp [sufW]
theorem sub_rem {row : List THit} (e : atA l h = some (nodeB (d + 1) (.mk h (P ++ Q) (A ++ c :: B)))) (hk : kidsH l (d + 1) (A ++ c :: B)) (hn : (h :: hsK (d + 1) (A ++ c :: B)).Nodup) (hA : A.length = P.length) (hB : B.length = Q.length)
    (h1 : lo ≤ (P ++ Q).length) (hlo : 1 ≤ lo) (h4 : (P ++ Q).length ≤ 4) (oA : ∀ s, s ∈ A → okB 2 d s) (oB : ∀ s, s ∈ B → okB 2 d s) (R : RemB l l2 1 d (hsB d c) c.h row K) :
    RemB l (mendF l2 h P.length) (lo - 1) (d + 1) (h :: hsK (d + 1) (A ++ c :: B)) h (preW (A.map (flatB d)) P ++ row ++ sufW Q (B.map (flatB d))) K := by
  obtain ⟨c', hc1, hc2, hc3, hc4, hc5, hc6, hc7⟩ := R.parts
  have hn' := hn
  rw [hsK_mid] at hn'
  obtain ⟨n1, n2⟩ := List.nodup_cons.1 hn'
  rw [List.mem_append, List.mem_append, not_or, not_or] at n1
  obtain ⟨nA, n3, nAX⟩ := List.nodup_append.1 n2
  obtain ⟨nc, nB, ncB⟩ := List.nodup_append.1 n3
  have e2 : atA l2 h = some (nodeB (d + 1) (.mk h (P ++ Q) (A ++ c' :: B))) := by
    rw [R.same _ _ n1.2.1 e]; simp [nodeB, BT.ks, BT.ts, hc1]
  have k2 : kidsH l2 (d + 1) (A ++ c' :: B) := fun s hs => by
    rcases List.mem_append.1 hs with hs | hs
    · exact (hk s (by simp [hs])).same R.same fun q hq hm => nAX q (List.mem_flatMap.2 ⟨s, hs, hq⟩) q (List.mem_append_left _ hm) rfl
    · rcases List.mem_cons.1 hs with rfl | hs
      · exact hc2
      · exact (hk s (by simp [hs])).same R.same fun q hq hm => ncB q hm q (List.mem_flatMap.2 ⟨s, hs, hq⟩) rfl
  have nn : (h :: hsK (d + 1) (A ++ c' :: B)).Nodup := by
    rw [hsK_mid]
    refine List.nodup_cons.2 ⟨?_, List.nodup_append.2 ⟨nA, List.nodup_append.2 ⟨hc4, nB, fun q hq q' hq' e => ncB q (hc3 q hq) q' hq' e⟩, fun q hq q' hq' e => ?_⟩⟩
    · simp only [List.mem_append, not_or]; exact ⟨n1.1, fun q => n1.2.1 (hc3 h q), n1.2.2⟩
    · rcases List.mem_append.1 hq' with hq' | hq'
      · exact nAX q hq q' (List.mem_append_left _ (hc3 _ hq')) e
      · exact nAX q hq q' (List.mem_append_right _ hq') e
  have M := mend_ok (lo := lo) e2 k2 nn (by simp [hA, hB]; omega) h1 (by omega) h4 oA hc5 oB R.big hlo
  rw [hA] at M
  have hlen : (h :: hsK (d + 1) (A ++ c' :: B)).length + (hsB d c).length = (h :: hsK (d + 1) (A ++ c :: B)).length + (hsB d c').length := by
    rw [hsK_mid, hsK_mid]; simp only [List.length_cons, List.length_append]; omega
  have sub : ∀ q, q ∈ h :: hsK (d + 1) (A ++ c' :: B) → q ∈ h :: hsK (d + 1) (A ++ c :: B) := fun q hq => by
    rw [hsK_mid] at hq ⊢
    simp only [List.mem_cons, List.mem_append] at hq ⊢
    rcases hq with hq | hq | hq | hq
    · exact .inl hq
    · exact .inr (.inl hq)
    · exact .inr (.inr (.inl (hc3 q hq)))
    · exact .inr (.inr (.inr hq))
  obtain ⟨t', m1, m2, m3, m4, m5, m6, m7⟩ := M.parts
  refine ⟨(R.same.mono fun q hq => ?_).trans (M.same.mono sub), M.big, t', m1, m2, fun q hq => sub q (m3 q hq), m4, m5, ?_, by omega⟩
  · rw [hsK_mid]; simp [hq]
  · rw [← m6, flatB_mid hA hB, hc6]
theorem mem_of_bs {k : ByteArray} (lP : lowT P k) (hQ : highT Q k) (hm : ∃ a, a ∈ P ++ ks ++ Q ∧ a.key = k) : ∃ a, a ∈ ks ∧ a.key = k := by
  obtain ⟨a, ha, e⟩ := hm
  simp only [List.mem_append] at ha
  rcases ha with (ha | ha) | ha
  · exact absurd e (low_ne lP a ha)
  · exact ⟨a, ha, e⟩
  · exact absurd e (high_ne hQ a ha)
theorem rem_ok : ∀ (d : Nat) {l : List RPlace} {t : BT} {k : ByteArray} {K lo : Nat}, HoldsB l d t → (hsB d t).Nodup → okB lo d t → 1 ≤ lo → upT (flatB d t) → BigA l K → (∃ a, a ∈ flatB d t ∧ a.key = k) →
    RemB l (remF d l t.h k) (lo - 1) d (hsB d t) t.h (delL (flatB d t) k) K := by
  intro d
  induction d with
  | zero =>
    intro l t k K lo H hn ho hlo hu hB hm
    obtain ⟨h, ks, ts⟩ := t
    have hg : (rget l h).1 = nodeB 0 (.mk h ks ts) := by rw [atA_get (holds_mk.1 H).1]
    obtain ⟨o1, o2, o3⟩ := ok_mk.1 ho
    have hu' : upT ks := hu
    have hf : bsF (ks.map THit.key) k = true := by
      cases hf : bsF (ks.map THit.key) k with
      | true => rfl
      | false =>
        obtain ⟨P, Q, rfl, hP, lP, hQ⟩ := bs_miss hu' hf
        obtain ⟨a, ha, _⟩ := mem_of_bs (ks := []) lP hQ (by simpa using (show ∃ a, a ∈ P ++ Q ∧ a.key = k from hm))
        cases ha
    obtain ⟨P, z, Q, rfl, hP, hz, lP, hQ⟩ := bs_hit hu' hf
    unfold remF
    simp only [BT.h, hg, nodeB_keys, nodeB_vals, nodeB_leaf, hf, if_true, beq_self_eq_true]
    have e := (holds_mk.1 H).1
    have en : (⟨true, ((P ++ z :: Q).map THit.key).eraseIdx (bsI ((P ++ z :: Q).map THit.key) k), (nodeB 0 (.mk h (P ++ z :: Q) ts)).kids, ((P ++ z :: Q).map THit.val).eraseIdx (bsI ((P ++ z :: Q).map THit.key) k)⟩ : Nd) = nodeB 0 (.mk h (P ++ Q) ts) := by
      rw [← hP, List.map_append, List.map_append, List.eraseIdx_append_of_length_le (by simp), List.eraseIdx_append_of_length_le (by simp)]
      simp [nodeB, BT.ks]
    rw [en]
    refine ⟨(SameA.put (S := [h]) e (by simp)).mono (by simp [hsB, BT.h]), hB.put e (node_tiny (d := 0) (ks := P ++ Q) (ts := ts) (by simp at o2 ⊢; omega) trivial), .mk h (P ++ Q) ts, rfl, holds_mk.2 ⟨by rw [put_at e, if_pos rfl], trivial⟩, by simp [hsB, BT.h], by simp [hsB], ?_, ?_, ?_⟩
    · exact ok_mk.2 ⟨by simp at o1 ⊢; omega, by simp at o2 ⊢; omega, trivial⟩
    · exact delL_hit lP hQ hz
    · rw [put_used e]; simp [hsB]
  | succ d ih =>
    intro l t k K lo H hn ho hlo hu hB hm
    obtain ⟨h, ks, ts⟩ := t
    have hg : (rget l h).1 = nodeB (d + 1) (.mk h ks ts) := by rw [atA_get (holds_mk.1 H).1]
    obtain ⟨o1, o2, o3⟩ := ok_mk.1 ho
    have hu' : upT ks := ks_up ho hu
    have e := (holds_mk.1 H).1
    have hk := (holds_mk.1 H).2
    rw [hsB_mk] at hn ⊢
    unfold remF
    simp only [BT.h, hg, nodeB_keys, nodeB_vals, nodeB_leaf]
    have hd0 : ((d + 1 == 0) = true) ↔ False := by simp
    cases hf : bsF (ks.map THit.key) k with
    | true =>
      obtain ⟨P, z, Q, rfl, hP, hz, lP, hQ⟩ := bs_hit hu' hf
      simp only [if_true, hd0, if_false]
      obtain ⟨A, c, B, rfl, hA, hBl, hfl⟩ := flat_at (h := h) (P := P) (Q := z :: Q) o3
      have hAk := kid_at e (i := P.length) hA
      rw [hg] at hAk
      rw [← hP, hAk]
      rw [hfl] at hu hm ⊢
      have oc := o3.2 c (by simp)
      obtain ⟨F, hF⟩ := last_ok (hk c (by simp)) (okB_low oc (by omega))
      generalize lastF d l c.h = x at *
      have nhc : h ∉ hsB d c := by rw [hsK_mid] at hn; have := (List.nodup_cons.1 hn).1; simp only [List.mem_append, not_or] at this; exact this.2.1
      have en : (⟨d + 1 == 0, ((P ++ z :: Q).map THit.key).set P.length x.key, (nodeB (d + 1) (.mk h (P ++ z :: Q) (A ++ c :: B))).kids, ((P ++ z :: Q).map THit.val).set P.length x.val⟩ : Nd) = nodeB (d + 1) (.mk h (P ++ x :: Q) (A ++ c :: B)) := by
        rw [List.map_append, List.map_append, List.map_cons, List.map_cons, set_mid (by simp), set_mid (by simp)]
        simp [nodeB, BT.ks, BT.ts]
      rw [en]
      have s1 : SameA l (rput l h (nodeB (d + 1) (.mk h (P ++ x :: Q) (A ++ c :: B)))).1 [h] := SameA.put e (by simp)
      have e1 : atA (rput l h (nodeB (d + 1) (.mk h (P ++ x :: Q) (A ++ c :: B)))).1 h = some (nodeB (d + 1) (.mk h (P ++ x :: Q) (A ++ c :: B))) := by rw [put_at e, if_pos rfl]
      have u1 : usedN (rput l h (nodeB (d + 1) (.mk h (P ++ x :: Q) (A ++ c :: B)))).1 = usedN l := put_used e
      have b1 : BigA (rput l h (nodeB (d + 1) (.mk h (P ++ x :: Q) (A ++ c :: B)))).1 K := hB.put e (node_tiny (by simp at o2 ⊢; omega) ⟨by have := o3.1; simp at this ⊢; omega, o3.2⟩)
      generalize (rput l h (nodeB (d + 1) (.mk h (P ++ x :: Q) (A ++ c :: B)))).1 = l1 at s1 e1 u1 b1
      have k1 : kidsH l1 (d + 1) (A ++ c :: B) := kidsH_same s1 hk fun q hq hm => by rw [List.mem_singleton.1 hm] at hq; exact (List.nodup_cons.1 hn).1 hq
      have hnc : (hsB d c).Nodup := by
        rw [hsK_mid] at hn
        exact (List.nodup_append.1 (List.nodup_append.1 (List.nodup_cons.1 hn).2).2.1).1
      have hcu : upT (flatB d c) := mid_up hu
      have R := ih (k := x.key) (lo := 2) (k1 c (by simp)) hnc oc (by omega) hcu b1 ⟨x, by rw [hF]; simp, rfl⟩
      have hFx : delL (flatB d c) x.key = F := by
        rw [hF] at hcu ⊢
        have := delL_hit (P := F) (Q := []) (z := x) (k := x.key) (upT_parts hcu).1 highT_nil rfl
        simpa using this
      rw [hFx] at R
      have M := sub_rem (P := P) (Q := x :: Q) e1 k1 hn hA (by simpa using hBl) (lo := lo) (by simp at o1 ⊢; omega) hlo (by simp at o2 ⊢; omega) (fun s hs => o3.2 s (by simp [hs])) (fun s hs => o3.2 s (by simp [hs])) R
      obtain ⟨t', m1, m2, m3, m4, m5, m6, m7⟩ := M.parts
      refine ⟨(s1.mono fun q hq => by simp at hq; simp [hq]).trans M.same, M.big, t', m1, m2, m3, m4, m5, ?_, by omega⟩
      rw [← m6]
      -- the rows
      obtain ⟨b, B', rfl⟩ : ∃ b B', B = b :: B' := by cases B with | nil => simp at hBl | cons b B' => exact ⟨b, B', rfl⟩
      rw [List.map_cons, sufW_cons] at hu ⊢
      rw [sufW_cons]
      have hp := upT_parts hu
      rw [hz] at hp
      rw [delL_hit hp.1 hp.2 hz, hF]
      simp
    | false =>
      obtain ⟨P, Q, rfl, hP, lP, hQ⟩ := bs_miss hu' hf
      simp only [Bool.false_eq_true, if_false]
      obtain ⟨A, c, B, rfl, hA, hBl, hfl⟩ := flat_at (h := h) o3
      have hAk := kid_at e (i := P.length) hA
      rw [hg] at hAk
      rw [← hP, hAk]
      rw [hfl] at hu hm ⊢
      have low := pre_low hA hu lP
      have high := suf_high hBl hu hQ
      rw [delL_mid low high]
      have oc := o3.2 c (by simp)
      have hnc : (hsB d c).Nodup := by
        rw [hsK_mid] at hn
        exact (List.nodup_append.1 (List.nodup_append.1 (List.nodup_cons.1 hn).2).2.1).1
      have R := ih (k := k) (lo := 2) (hk c (by simp)) hnc oc (by omega) (mid_up hu) hB (mem_of_bs low high hm)
      exact sub_rem (P := P) (Q := Q) e hk hn hA hBl (lo := lo) o1 hlo o2 (fun s hs => o3.2 s (by simp [hs])) (fun s hs => o3.2 s (by simp [hs])) R
end
end Tp
namespace Tp
open Go
def upS (ks : List ByteArray) : Prop := ks.Pairwise fun a b => sLt a b = true
section
variable {ks : List ByteArray} {k s : ByteArray} {i : Nat}
theorem bsI_eq (hi : i ≤ ks.length) (h1 : ∀ j s, j < i → ks[j]? = some s → sLt s k = true) (h2 : ∀ s, ks[i]? = some s → sLt s k = false) : bsI ks k = i := by
  unfold bsI
  rcases Nat.lt_or_ge i ks.length with h | h
  · refine List.findIdx_eq h |>.2 ⟨by simp [h2 ks[i] (List.getElem?_eq_getElem h)], fun j hj => ?_⟩
    simp [h1 j _ hj (List.getElem?_eq_getElem (by omega))]
  · have : i = ks.length := by omega
    subst this
    refine List.findIdx_eq_length.2 fun x hx => ?_
    obtain ⟨j, hj, rfl⟩ := List.mem_iff_getElem.1 hx
    simp [h1 j _ hj (List.getElem?_eq_getElem hj)]
theorem up_below' (hs : upS ks) {m : Nat} (hm : ks[m]? = some s) (h : sLt s k = true) : ∀ j r, j < m + 1 → ks[j]? = some r → sLt r k = true := by
  intro j r hj hr
  rcases Nat.lt_or_ge j m with hjm | hjm
  · obtain ⟨h1, rfl⟩ := List.getElem?_eq_some_iff.1 hr
    obtain ⟨h2, rfl⟩ := List.getElem?_eq_some_iff.1 hm
    exact sLt_trans (List.pairwise_iff_getElem.1 hs j m h1 h2 hjm) h
  · have : j = m := by omega
    subst this
    rw [hm] at hr; cases hr; exact h
theorem up_above' (hs : upS ks) {m : Nat} (hm : ks[m]? = some s) (h : sLt s k = false) : ∀ j r, m ≤ j → ks[j]? = some r → sLt r k = false := by
  intro j r hj hr
  rcases Nat.lt_or_ge m j with hjm | hjm
  · obtain ⟨h1, rfl⟩ := List.getElem?_eq_some_iff.1 hr
    obtain ⟨h2, rfl⟩ := List.getElem?_eq_some_iff.1 hm
    cases e : sLt ks[j] k with
    | false => rfl
    | true => rw [sLt_trans (List.pairwise_iff_getElem.1 hs m j h2 h1 hjm) e] at h; cases h
  · have : j = m := by omega
    subst this
    rw [hm] at hr; cases hr; exact h
theorem bsF_lt (h : bsF ks k = true) : bsI ks k < ks.length := by
  rcases Nat.lt_or_ge (bsI ks k) ks.length with h1 | h1
  · exact h1
  · rw [bsF, List.getElem?_eq_none h1] at h; simp at h
theorem bsF_at (hx : ks[bsI ks k]? = some s) : bsF ks k = (s.toList == k.toList) := by
  unfold bsF; rw [hx, sEq_dec, Bool.eq_iff_iff]; simp
theorem bsF_end (hx : ks.length ≤ bsI ks k) : bsF ks k = false := by
  unfold bsF; rw [List.getElem?_eq_none hx]; simp
end
end Tp
set_option maxRecDepth 100000
namespace Go.Proofs
open Go Tp
theorem Try.un170 : Und Try.prog 170 (.int .u64) := by unfold Und; kernel_rfl
theorem Try.en109 : Enters Try.prog 109 := fun _ _ => by kernel_rfl
theorem Try.en110 : Enters Try.prog 110 := fun _ _ => by kernel_rfl
theorem Try.en123 : Enters Try.prog 123 := fun _ _ => by kernel_rfl
theorem Try.sc9 : Scal Try.prog 9 := fun _ => by kernel_rfl
theorem nan_str {G : Nat → Prop} {w : World} (x : ByteArray)   (M : Mem G (fun _ => False) w [] [] w) : Rets Try.prog 123 #[(vS x)] w fun r w' => r = (vB false) ∧ Mem G (fun _ => False) w [] [] w' := by
 refine Rets.enter 6 _ Try.func123 rfl Try.ntmps123 Try.results123 (by simp) ?_
 refine wR (wA (vB false) (WL.nil (wR (wM (vS x) (wM (vS x) (wS (vB false) rfl (Step.cast (congrArg Value.bool (show (!(x.toList == x.toList)) = false by simp)) sP) (wA (vB false) (WL.nil ?_))))))))
 refine W.ret ?_
 refine ⟨.inl rfl, (vB false), ?_, ?_⟩
 · exact ⟨rfl, (Res.r1 (show RV _ _ _ (.tmp 2) (vB false) from by exact rfl))⟩
 refine ⟨?_, M.close [] rfl (by decide) trivial⟩
 rfl
theorem less_str {G : Nat → Prop} {w : World} (x : ByteArray) (y : ByteArray)   (M : Mem G (fun _ => False) w [] [] w) : Rets Try.prog 109 #[(vS x), (vS y)] w fun r w' => r = (vB (sLt x y)) ∧ Mem G (fun _ => False) w [] [] w' := by
 refine Rets.enter 17 _ Try.func109 rfl Try.ntmps109 Try.results109 (by simp) ?_
 refine wR (wA (vB false) (WL.nil (wR (wM (vS x) ?_))))
 refine WL.callX rfl (nan_str x (M.enterW0 trivial)) (CallsF.func Try.en123 rfl) ?_
 rintro _ w1 ⟨rfl, m⟩
 replace M := M.leaveW0 m
 clear m
 refine wM (vB false) (WL.pass rfl (WL.pass rfl (WL.pass rfl (wS (vB false) rfl (Step.pick (t := false) rfl rfl) (wM (vB false) (wM (vS x) (wM (vS y) (wP (vB (sLt x y)) (wS (vB (sLt x y)) rfl (Step.pick (t := false) rfl rfl) (wA (vB (sLt x y)) (WL.nil ?_)))))))))))
 refine W.ret ?_
 refine ⟨.inl rfl, (vB (sLt x y)), ?_, ?_⟩
 · exact ⟨rfl, (Res.r1 (show RV _ _ _ (.tmp 4) (vB (sLt x y)) from by exact rfl))⟩
 refine ⟨?_, M.close [] rfl (by decide) trivial⟩
 rfl
theorem nans_str {G : Nat → Prop} {w : World} (x : ByteArray)   (M : Mem G (fun _ => False) w [] [] w) : Rets Try.prog 110 #[(vS x)] w fun r w' => r = (vB false) ∧ Mem G (fun _ => False) w [] [] w' := by
 refine Rets.enter 6 _ Try.func110 rfl Try.ntmps110 Try.results110 (by simp) ?_
 refine wR (wA (vB false) (WL.nil (wR (wM (vS x) (wM (vS x) (wS (vB false) rfl (Step.cast (congrArg Value.bool (show (!(x.toList == x.toList)) = false by simp)) sP) (wA (vB false) (WL.nil ?_))))))))
 refine W.ret ?_
 refine ⟨.inl rfl, (vB false), ?_, ?_⟩
 · exact ⟨rfl, (Res.r1 (show RV _ _ _ (.tmp 2) (vB false) from by exact rfl))⟩
 refine ⟨?_, M.close [] rfl (by decide) trivial⟩
 rfl
theorem bs_str {G : Nat → Prop} {w : World} (v : Value) (xs : List ByteArray) (x : ByteArray)  (hb : xs.length ≤ 1000000) (hs : upS xs) (M : Mem G (fun _ => False) w [] [fS v xs] w) : Rets Try.prog 83 #[v, (vS x)] w fun r w' => r = (Value.tuple #[(vI (↑(bsI xs x))), (vB (bsF xs x))]) ∧ Mem G (fun _ => False) w [] [] w' := by
 refine Rets.enter 54 _ Try.func83 rfl Try.ntmps83 Try.results83 (by simp) ?_
 have hle1 := SlAt.le' (M.rep 0 rfl)
 have sl2 : IsSl v := SlAt.isSl (Mem.rep M 0 rfl)
 refine wR (wA (vI 0) (wA (vB false) (WL.nil (wR (wM v (wS (vI ↑xs.length) rfl (Step.lenSl Try.un22 rfl (M.rep 0 rfl)) (wA (vI ↑xs.length) (WL.nil (wR (wM (vI ↑xs.length) (wA (vI 0) (wA (vI ↑xs.length) (WL.nil (W.seq' (W.block ?_)))))))))))))))
 refine W.loop (fun kk ρ w' => ∃ (i_ : Nat) (j_ : Nat), ((i_ ≤ j_) ∧ (j_ ≤ xs.length) ∧ (∀ k s, k < i_ → xs[k]? = some s → sLt s x = true) ∧ (∀ k s, j_ ≤ k → xs[k]? = some s → sLt s x = false) ∧ kk = j_ - i_) ∧ ρ.has [(0, v), (1, (vS x)), (4, (vI 0)), (5, (vB false)), (6, (vI ↑xs.length)), (7, (vI ↑i_)), (8, (vI ↑j_))] ∧ Mem G (fun _ => False) w [] [fS v xs]  w') _ ⟨0, xs.length, ⟨(Nat.zero_le _), (Nat.le_refl _), (fun _ _ h => absurd h (Nat.not_lt_zero _)), (fun k s h hs => absurd (List.getElem?_eq_some_iff.1 hs).1 (by omega)), rfl⟩, ⟨rfl, rfl, rfl, rfl, rfl, rfl, rfl, rfl, rfl⟩, M⟩ ?_
 rintro _ ρ4 w3 ⟨i_, j_, ⟨hi5, hi6, hi7, hi8, rfl⟩, hρ, M⟩
 obtain ⟨ρ4, rfl⟩ := hρ.know
 clear hρ
 obtain ⟨hI1, hI2, hI3, hI4⟩ : i_ ≤ j_ ∧ j_ ≤ xs.length ∧ (∀ k s, k < i_ → xs[k]? = some s → sLt s x = true) ∧ (∀ k s, j_ ≤ k → xs[k]? = some s → sLt s x = false) := ⟨hi5, hi6, hi7, hi8⟩
 refine W.seq' (wR (wM (vI ↑i_) (wM (vI ↑j_) (wP (vB (decide ((↑i_ : Int) < (↑j_ : Int)))) (WL.nil ?_)))))
 refine W.cond (t := decide ((↑i_ : Int) < (↑j_ : Int))) rfl (fun h9 => ?_) (fun h9 => ?_)
 ·
  have h9p := dT h9
  refine W.skip (W.block (wR (wM (vI ↑i_) (wM (vI ↑j_) (wS (vI (↑i_ + ↑j_)) rfl (Step.add rfl rfl (wrap_i64 (by omega))) (wS (vU (↑i_ + ↑j_)) rfl (Step.conv Try.un3 Try.un170 rfl (wrap_u64 (by omega))) ?_))))))
  have hshr10 := shrI_nonneg (k := .u64) (a := (↑i_ + ↑j_ : Int)) (b := (1 : Int)) (by omega)
  refine wS (vU (↑((i_ + j_) / 2))) rfl (Step.cast (congrArg (Value.int .u64) (show (shrI .u64 (↑i_ + ↑j_ : Int) (1 : Int) : Int) = ↑((i_ + j_) / 2) by simp only [shrI, IntKind.bits]; simp)) (Step.shr rfl rfl (by omega))) (wS (vI (↑((i_ + j_) / 2))) rfl (Step.conv Try.un170 Try.un3 rfl (wrap_i64 (by omega))) (wA (vI (↑((i_ + j_) / 2))) (WL.nil (wR (wM v (wM (vI (↑((i_ + j_) / 2))) ?_))))))
  obtain ⟨cap12, hb11⟩ := SlAt.base (M.rep 0 rfl) (by omega)
  obtain ⟨x13, hx13⟩ := elem_of_lt (xs := xs) (i := (i_ + j_) / 2) (by omega)
  refine wS (vQ v ((i_ + j_) / 2) 1) rfl (sX ((i_ + j_) / 2) Try.un22 Try.el9 rfl rfl hb11) (wS (vS x13) rfl (Step.loadE (k := 0) Try.sc9 (flat_ec (M.rep 0 rfl) hx13 strE_len) (by decide) rfl rfl) (wM (vS x) ?_))
  refine WL.callX rfl (less_str x13 x (M.enterW0 trivial)) (CallsF.func Try.en109 rfl) ?_
  rintro _ w14 ⟨rfl, m⟩
  replace M := M.leaveW0 m
  clear m
  refine WL.nil ?_
  refine W.cond (t := sLt x13 x) rfl (fun h15 => ?_) (fun h15 => ?_)
  ·
   refine W.region rfl (wM (vI (↑((i_ + j_) / 2))) (wS (vI (↑((i_ + j_) / 2) + 1)) rfl (Step.add rfl rfl (wrap_i64 (by omega))) (wA (vI (↑((i_ + j_) / 2) + 1)) (WL.nil ?_))))
   exact ⟨_, (by omega), (i_ + j_) / 2 + 1, j_, ⟨(by omega), hI2, (up_below' hs hx13 h15), hI4, rfl⟩, ⟨rfl, rfl, rfl, rfl, rfl, rfl, rfl, rfl, rfl⟩, M⟩
  ·
   refine W.region rfl (wM (vI (↑((i_ + j_) / 2))) (wA (vI (↑((i_ + j_) / 2))) (WL.nil ?_)))
   exact ⟨_, (by omega), i_, (i_ + j_) / 2, ⟨(by omega), (by omega), hI3, (up_above' hs hx13 h15), rfl⟩, ⟨rfl, rfl, rfl, rfl, rfl, rfl, rfl, rfl, rfl⟩, M⟩
 ·
  have h9p := dF h9
  refine W.exit (thn_exit (thn_exit ?_))
  refine inBlk_hit ?_
  refine wR (wM (vI ↑i_) (wM (vI ↑i_) (wM (vI ↑xs.length) (wP (vB (decide ((↑i_ : Int) < (↑xs.length : Int)))) (wM (vB (decide ((↑i_ : Int) < (↑xs.length : Int)))) ?_)))))
  rcases Bool.eq_false_or_eq_true (decide ((↑i_ : Int) < (↑xs.length : Int))) with h16 | h16
  ·
   have h16p := dT h16
   rw [h16]
   refine wM v (wM (vI ↑i_) ?_)
   obtain ⟨cap18, hb17⟩ := SlAt.base (M.rep 0 rfl) (by omega)
   obtain ⟨x19, hx19⟩ := elem_of_lt (xs := xs) (i := i_) (by omega)
   refine wS (vQ v i_ 1) rfl (sX i_ Try.un22 Try.el9 rfl rfl hb17) (wS (vS x19) rfl (Step.loadE (k := 0) Try.sc9 (flat_ec (M.rep 0 rfl) hx19 strE_len) (by decide) rfl rfl) (wM (vS x) (wP (vB (x19.toList == x.toList)) (wM (vB (x19.toList == x.toList)) ?_))))
   rcases Bool.eq_false_or_eq_true (x19.toList == x.toList) with h20 | h20
   ·
    rw [h20]
    refine WL.pass rfl (WL.pass rfl (WL.pass rfl (WL.pass rfl (WL.pass rfl (WL.pass rfl (WL.pass rfl (WL.pass rfl (WL.pass rfl (wS (vB true) rfl (Step.pick (t := true) rfl rfl) (wS (vB true) rfl (Step.pick (t := true) rfl rfl) (wA (vI ↑i_) (wA (vB true) (WL.nil ?_)))))))))))))
    refine W.ret ?_
    refine ⟨.inl rfl, (Value.tuple #[(vI ↑i_), (vB true)]), ?_, ?_⟩
    · exact ⟨rfl, (Res.r2 (show RV _ _ _ (.tmp 4) (vI ↑i_) from by exact rfl) (show RV _ _ _ (.tmp 5) (vB true) from by exact rfl))⟩
    refine ⟨?_, M.close [] rfl (by decide) trivial⟩
    have hbs_ : bsI xs x = i_ := bsI_eq (by omega) hI3 (fun s_ hs_ => hI4 _ s_ (by omega) hs_)
    rw [bsF_at (by rw [hbs_]; exact hx19), hbs_]
    try simp [h9p, h16p, hx19, h20]
   ·
    rw [h20]
    refine wM v (wM (vI ↑i_) (wS (vQ v i_ 1) rfl (sX i_ Try.un22 Try.el9 rfl rfl hb17) (wS (vS x19) rfl (Step.loadE (k := 0) Try.sc9 (flat_ec (M.rep 0 rfl) hx19 strE_len) (by decide) rfl rfl) ?_)))
    refine WL.callX rfl (nans_str x19 (M.enterW0 trivial)) (CallsF.func Try.en110 rfl) ?_
    rintro _ w21 ⟨rfl, m⟩
    replace M := M.leaveW0 m
    clear m
    refine wM (vB false) (WL.pass rfl (WL.pass rfl (wS (vB false) rfl (Step.pick (t := false) rfl rfl) (wS (vB false) rfl (Step.pick (t := false) rfl rfl) (wS (vB false) rfl (Step.pick (t := true) rfl rfl) (wA (vI ↑i_) (wA (vB false) (WL.nil ?_))))))))
    refine W.ret ?_
    refine ⟨.inl rfl, (Value.tuple #[(vI ↑i_), (vB false)]), ?_, ?_⟩
    · exact ⟨rfl, (Res.r2 (show RV _ _ _ (.tmp 4) (vI ↑i_) from by exact rfl) (show RV _ _ _ (.tmp 5) (vB false) from by exact rfl))⟩
    refine ⟨?_, M.close [] rfl (by decide) trivial⟩
    have hbs_ : bsI xs x = i_ := bsI_eq (by omega) hI3 (fun s_ hs_ => hI4 _ s_ (by omega) hs_)
    rw [bsF_at (by rw [hbs_]; exact hx19), hbs_]
    try simp [h9p, h16p, hx19, h20]
  ·
   have h16p := dF h16
   rw [h16]
   refine WL.pass rfl (WL.pass rfl (WL.pass rfl (WL.pass rfl (WL.pass rfl (WL.pass rfl (WL.pass rfl (WL.pass rfl (WL.pass rfl (WL.pass rfl (WL.pass rfl (WL.pass rfl (WL.pass rfl (WL.pass rfl (WL.pass rfl (WL.pass rfl (WL.pass rfl (wS (vB false) rfl (Step.pick (t := false) rfl rfl) (wA (vI ↑i_) (wA (vB false) (WL.nil ?_))))))))))))))))))))
   refine W.ret ?_
   refine ⟨.inl rfl, (Value.tuple #[(vI ↑i_), (vB false)]), ?_, ?_⟩
   · exact ⟨rfl, (Res.r2 (show RV _ _ _ (.tmp 4) (vI ↑i_) from by exact rfl) (show RV _ _ _ (.tmp 5) (vB false) from by exact rfl))⟩
   refine ⟨?_, M.close [] rfl (by decide) trivial⟩
   have hbs_ : bsI xs x = i_ := bsI_eq (by omega) hI3 (fun s_ hs_ => hI4 _ s_ (by omega) hs_)
   rw [bsF_end (by omega), hbs_]
   try simp [h9p, h16p]
end Go.Proofs
set_option maxRecDepth 100000
namespace Go.Proofs
open Go Tp
theorem Try.un191 : Und Try.prog 191 (.slice 22) := by unfold Und; kernel_rfl
theorem Try.un193 : Und Try.prog 193 (.slice 97) := by unfold Und; kernel_rfl
theorem Try.un195 : Und Try.prog 195 (.slice 96) := by unfold Und; kernel_rfl
theorem Try.el22 : Elem Try.prog 22 vZ 1 24 := Elem.mk (by kernel_rfl)
theorem Try.el96 : Elem Try.prog 96 vZ 1 24 := Elem.mk (by kernel_rfl)
theorem Try.el97 : Elem Try.prog 97 vZ 1 24 := Elem.mk (by kernel_rfl)
theorem Try.en134 : Enters Try.prog 134 := fun _ _ => by kernel_rfl
theorem Try.en135 : Enters Try.prog 135 := fun _ _ => by kernel_rfl
theorem Try.en136 : Enters Try.prog 136 := fun _ _ => by kernel_rfl
theorem grow_str {G : Nat → Prop} {w : World} (n : Nat)  (hn : n ≤ 1000000) (M : Mem G (fun _ => False) w [] [] w) : Rets Try.prog 134 #[vZ, (vI ↑n)] w fun r w' => ∃ (v' : Value), r = v' ∧ Mem G (fun _ => False) w [oS v' ([] : List ByteArray)] [] w' := by
 refine Rets.enter 27 _ Try.func134 rfl Try.ntmps134 Try.results134 (by simp) ?_
 refine wR (wA vZ (WL.nil (W.seq' (wR (wM (vI ↑n) (wP (vB (decide ((↑n : Int) < (0 : Int)))) (WL.nil ?_)))))))
 refine W.cond (t := decide ((↑n : Int) < (0 : Int))) rfl (fun h1 => ?_) (fun h1 => ?_)
 ·
  have h1p := dT h1
  omega
 ·
  have h1p := dF h1
  refine W.skip (W.seq' (wR (wM (vI ↑n) (wM vZ (wS (vI 0) rfl (Step.capS Try.un22 rfl shp_nil) (wM vZ (wS (vI 0) rfl (Step.lenS Try.un22 rfl rfl) (wP (vI 0) (wS (vI ↑n) rfl (Step.cast (congrArg (Value.int .i64) (show ((↑n : Int) - 0 : Int) = ↑n by omega)) (Step.sub rfl rfl (wrap_i64 (by omega)))) (wA (vI ↑n) (WL.nil (wR (wM (vI ↑n) (wP (vB (decide ((↑n : Int) > (0 : Int)))) (WL.nil ?_)))))))))))))))
  refine W.cond (t := decide ((↑n : Int) > (0 : Int))) rfl (fun h2 => ?_) (fun h2 => ?_)
  ·
   have h2p := dT h2
   refine W.region rfl (wM vZ (wM vZ (wS (vI 0) rfl (Step.capS Try.un22 rfl shp_nil) (wS vZ rfl (Step.sliceToP (h := 0) Try.un22 Try.el9.sized rfl rfl rfl shp_nil (Nat.zero_le _)) (wM (vI ↑n) ?_)))))
   refine WL.does rfl (M.nilZeros (k := n) Try.un22 Try.un3 Try.el9 rfl (by decide) rfl rfl (by omega) (by simp only [maxLen]; omega) (by omega)) ?_
   rintro v3 w4 ⟨junk5, hjunk5, -, M⟩
   have sl6 : IsSl v3 := SlAt.isSl (oW (M.chunk 0 rfl).inv)
   have hsh7 := (oW (M.chunk 0 rfl).inv).shp
   refine wM vZ (wS (vI 0) rfl (Step.lenS Try.un22 rfl rfl) (wS (vTake 0 v3) rfl (Step.sliceToP (h := 0) Try.un22 Try.el9.sized rfl rfl rfl hsh7 (by obtain ⟨_, _, _, _⟩ := hsh7; omega)) (wA (vTake 0 v3) (WL.nil (wR (wM (vTake 0 v3) (wA (vTake 0 v3) (WL.nil ?_))))))))
   refine W.ret ?_
   refine ⟨.inl rfl, (vTake 0 v3), ?_, ?_⟩
   · exact ⟨rfl, (Res.r1 (show RV _ _ _ (.tmp 4) (vTake 0 v3) from by exact rfl))⟩
   replace M := M.ownTake 0 0 rfl (Nat.zero_le _)
   replace M := M.rechunk 0 (c' := oS (vTake 0 v3) ([] : List ByteArray)) rfl (by simp <;> rfl)
   refine ⟨(vTake 0 v3), ?_, M.close [0] rfl (by decide) trivial⟩
   rfl
  ·
   have h2p := dF h2
   refine W.skip (wR (wM vZ (wA vZ (WL.nil ?_))))
   refine W.ret ?_
   refine ⟨.inl rfl, vZ, ?_, ?_⟩
   · exact ⟨rfl, (Res.r1 (show RV _ _ _ (.tmp 4) vZ from by exact rfl))⟩
   replace M := M.ownNil 9 1
   refine ⟨vZ, ?_, M.close [0] rfl (by decide) trivial⟩
   rfl
theorem concat_str {G : Nat → Prop} {w : World} (v : Value) (xss : List (List ByteArray))  (hb : sumL xss ≤ 100000) (hbl : xss.length ≤ 100) (M : Mem G (fun _ => False) w [] [RepS (SlsT 1 strE) v xss] w) : Rets Try.prog 127 #[v] w fun r w' => ∃ (v' : Value), r = v' ∧ Mem G (fun _ => False) w [oS v' xss.flatten] [] w' := by
 refine Rets.enter 36 _ Try.func127 rfl Try.ntmps127 Try.results127 (by simp) ?_
 have hle1 := RepS.le' (M.rep 0 rfl)
 have sl2 : IsSl v := RepS.isSl (Mem.rep M 0 rfl)
 obtain ⟨cs3, M⟩ := M.openS 0 rfl
 refine wR (wA vZ (WL.nil (wR (wA (vI 0) (WL.nil (W.seq' (wR (wM v (wS (vI ↑xss.length) rfl (Step.lenSl Try.un191 rfl (M.rep 0 rfl)) (wM (vI 0) (WL.nil (W.block ?_))))))))))))
 refine W.loop (fun kk ρ w' => ∃ (i_ : Nat) (s_ : Nat), ((i_ ≤ xss.length) ∧ (s_ = sumL (xss.take i_)) ∧ kk = xss.length - i_) ∧ ρ.has [(0, v), (2, vZ), (3, (vI ↑s_)), (9, v), (10, (vI ↑xss.length)), (11, (vI ↑i_))] ∧ Mem G (fun _ => False) w [] [SlAt 1 v xss.length cs3, RepL (SlsT 1 strE) cs3 xss, RepS (SlsT 1 strE) v xss]  w') _ ⟨0, 0, ⟨(Nat.zero_le _), rfl, rfl⟩, ⟨rfl, rfl, rfl, rfl, rfl, rfl, rfl, rfl⟩, M⟩ ?_
 rintro _ ρ5 w4 ⟨i_, s_, ⟨hi6, hi7, rfl⟩, hρ, M⟩
 obtain ⟨ρ5, rfl⟩ := hρ.know
 clear hρ
 have hsl_ := sumL_le xss i_
 refine wR (wP (vB (decide ((↑i_ : Int) < (↑xss.length : Int)))) (WL.nil (W.seq' ?_)))
 refine W.cond (t := decide ((↑i_ : Int) < (↑xss.length : Int))) rfl (fun h8 => ?_) (fun h8 => ?_)
 ·
  have h8p := dT h8
  refine W.skip (W.seq' (W.block (wR ?_)))
  obtain ⟨cap10, hb9⟩ := SlAt.base (M.rep 0 rfl) (by omega)
  obtain ⟨a11, ha11⟩ := elem_of_lt (xs := xss) (i := i_) (by omega)
  obtain ⟨lv12, M⟩ := sls_open M 0 1 rfl rfl rfl ha11
  have sl13 : IsSl lv12 := SlAt.isSl (Mem.rep M 1 rfl)
  have hsn_ := sumL_snoc ha11
  have hsm_ := sumL_le xss (i_ + 1)
  refine wS (vQ v i_ 1) rfl (sX i_ Try.un191 Try.el22 rfl rfl hb9) (wS lv12 rfl (Step.loadE (k := 0) Try.sc22 (M.rep 0 rfl : EC _ _ _ _ _) (by decide) rfl rfl) (wA lv12 (WL.nil (wR (wM (vI ↑s_) (wM lv12 (wS (vI ↑a11.length) rfl (Step.lenSl Try.un22 rfl (M.rep 1 rfl)) (wS (vI (↑s_ + ↑a11.length)) rfl (Step.add rfl rfl (wrap_i64 (by omega))) (wA (vI (↑s_ + ↑a11.length)) (WL.nil (wR (wM (vI (↑s_ + ↑a11.length)) (wP (vB (decide ((↑s_ + ↑a11.length : Int) < (0 : Int)))) (WL.nil ?_))))))))))))))
  refine W.cond (t := decide ((↑s_ + ↑a11.length : Int) < (0 : Int))) rfl (fun h14 => ?_) (fun h14 => ?_)
  ·
   have h14p := dT h14
   omega
  ·
   have h14p := dF h14
   refine W.skip (W.region rfl (wS (vI (↑i_ + 1)) rfl (Step.add rfl rfl (wrap_i64 (by omega))) (wM (vI (↑i_ + 1)) (WL.nil ?_))))
   replace M := M.sub (List.Sublist.refl _) (R' := [SlAt 1 v xss.length cs3, RepL (SlsT 1 strE) cs3 xss, RepS (SlsT 1 strE) v xss]) (fun r h => (List.mem_cons_of_mem _ (List.mem_cons_of_mem _ h)))
   exact ⟨_, (by omega), i_ + 1, s_ + a11.length, ⟨(by omega), (by rw [sumL_snoc ha11]; omega), rfl⟩, ⟨rfl, rfl, rfl, rfl, rfl, rfl, rfl, rfl⟩, M⟩
 ·
  have h8p := dF h8
  refine W.exit (thn_exit (thn_exit ?_))
  refine inBlk_hit ?_
  refine wR (wM (vI ↑s_) ?_)
  refine WL.callX rfl (grow_str s_ (by omega) (M.enterW0 trivial)) (CallsF.func Try.en134 rfl) ?_
  rintro v15 w16 ⟨_, rfl, m⟩
  replace M := M.leaveW0 m
  clear m
  have sl17 : IsSl v15 := SlAt.isSl (oW (Mem.chunk M 0 rfl).inv)
  have hle18 := SlAt.le' (oW (Mem.chunk M 0 rfl).inv)
  refine wA v15 (WL.nil (W.seq' (wR (wM v (wS (vI ↑xss.length) rfl (Step.lenSl Try.un191 rfl (M.rep 0 rfl)) (wM (vI 0) (WL.nil (W.block ?_))))))))
  replace M := M.rechunk 0 (c' := oS v15 ((xss.take 0).flatten)) rfl rfl
  replace M := M.sel (L' := [oS v15 ((xss.take 0).flatten)]) [0] rfl (by decide)
  refine W.loop (fun kk ρ w' => ∃ (j_ : Nat) (acc : Value), ((j_ ≤ xss.length) ∧ kk = xss.length - j_) ∧ ρ.has [(2, vZ), (6, acc), (25, v), (26, (vI ↑xss.length)), (27, (vI ↑j_))] ∧ Mem G (fun _ => False) w [oS acc ((xss.take j_).flatten)] [SlAt 1 v xss.length cs3, RepL (SlsT 1 strE) cs3 xss, RepS (SlsT 1 strE) v xss]  w') _ ⟨0, _, ⟨(Nat.zero_le _), rfl⟩, ⟨rfl, rfl, rfl, rfl, rfl, rfl, rfl⟩, M⟩ ?_
  rintro _ ρ20 w19 ⟨j_, acc, ⟨hi21, rfl⟩, hρ, M⟩
  obtain ⟨ρ20, rfl⟩ := hρ.know
  clear hρ
  have sl22 : IsSl acc := SlAt.isSl (oW (M.chunk 0 rfl).inv)
  have hcl_ : (xss.take j_).flatten.length ≤ xss.flatten.length := sumL_le xss j_
  refine wR (wP (vB (decide ((↑j_ : Int) < (↑xss.length : Int)))) (WL.nil (W.seq' ?_)))
  refine W.cond (t := decide ((↑j_ : Int) < (↑xss.length : Int))) rfl (fun h23 => ?_) (fun h23 => ?_)
  ·
   have h23p := dT h23
   refine W.skip (W.seq' (W.block (wR ?_)))
   obtain ⟨cap25, hb24⟩ := SlAt.base (M.rep 0 rfl) (by omega)
   obtain ⟨a26, ha26⟩ := elem_of_lt (xs := xss) (i := j_) (by omega)
   obtain ⟨lv27, M⟩ := sls_open M 0 1 rfl rfl rfl ha26
   have sl28 : IsSl lv27 := SlAt.isSl (Mem.rep M 1 rfl)
   have hsn_ := sumL_snoc ha26
   have hsm_ := sumL_le xss (j_ + 1)
   refine wS (vQ v j_ 1) rfl (sX j_ Try.un191 Try.el22 rfl rfl hb24) (wS lv27 rfl (Step.loadE (k := 0) Try.sc22 (M.rep 0 rfl : EC _ _ _ _ _) (by decide) rfl rfl) (wA lv27 (WL.nil (W.region rfl (wM acc (wM lv27 ?_))))))
   refine WL.does rfl (M.appendF ((xss.take j_).flatten) a26 (sv := lv27) 0 Try.un22 Try.el9 rfl (by decide) rfl rfl rfl (M.rep 1 rfl) strE_cel (by have := (show (xss.take j_).flatten.length + a26.length ≤ 100000 by unfold sumL at hsn_ hsm_ hb; omega); simp only [maxLen, List.length_nil, List.length_cons, List.length_append]; omega) (by have := (show (xss.take j_).flatten.length + a26.length ≤ 100000 by unfold sumL at hsn_ hsm_ hb; omega); (try simp only [List.length_nil, List.length_cons, List.length_append]); omega)) ?_
   rintro v29 w30 M
   have sl31 : IsSl v29 := SlAt.isSl (oW (M.chunk 0 rfl).inv)
   refine wA v29 (WL.nil (W.region rfl (wS (vI (↑j_ + 1)) rfl (Step.add rfl rfl (wrap_i64 (by omega))) (wM (vI (↑j_ + 1)) (WL.nil ?_)))))
   replace M := M.rechunk 0 (c' := oS v29 ((xss.take (j_ + 1)).flatten)) rfl (by rw [flat_snoc ha26])
   replace M := M.sub (List.Sublist.refl _) (R' := [SlAt 1 v xss.length cs3, RepL (SlsT 1 strE) cs3 xss, RepS (SlsT 1 strE) v xss]) (fun r h => (List.mem_cons_of_mem _ (List.mem_cons_of_mem _ h)))
   exact ⟨_, (by omega), j_ + 1, v29, ⟨(by omega), rfl⟩, ⟨rfl, rfl, rfl, rfl, rfl, rfl, rfl⟩, M⟩
  ·
   have h23p := dF h23
   refine W.exit (thn_exit (thn_exit ?_))
   refine inBlk_hit ?_
   refine wR (wM acc (wA acc (WL.nil ?_)))
   refine W.ret ?_
   refine ⟨.inl rfl, acc, ?_, ?_⟩
   · exact ⟨rfl, (Res.r1 (show RV _ _ _ (.tmp 2) acc from by exact rfl))⟩
   have e32 : xss.flatten = (xss.take j_).flatten := by
    rw [show j_ = xss.length by omega, List.take_length]
   replace M := M.rechunk 0 (c' := oS acc xss.flatten) rfl (congrArg (fun z => own 9 1 acc z.length (z.flatMap strE)) e32.symm)
   refine ⟨acc, ?_, M.close [0] rfl (by decide) trivial⟩
   rfl
theorem grow_int {G : Nat → Prop} {w : World} (n : Nat)  (hn : n ≤ 1000000) (M : Mem G (fun _ => False) w [] [] w) : Rets Try.prog 135 #[vZ, (vI ↑n)] w fun r w' => ∃ (v' : Value), r = v' ∧ Mem G (fun _ => False) w [oI v' ([] : List Int)] [] w' := by
 refine Rets.enter 27 _ Try.func135 rfl Try.ntmps135 Try.results135 (by simp) ?_
 refine wR (wA vZ (WL.nil (W.seq' (wR (wM (vI ↑n) (wP (vB (decide ((↑n : Int) < (0 : Int)))) (WL.nil ?_)))))))
 refine W.cond (t := decide ((↑n : Int) < (0 : Int))) rfl (fun h1 => ?_) (fun h1 => ?_)
 ·
  have h1p := dT h1
  omega
 ·
  have h1p := dF h1
  refine W.skip (W.seq' (wR (wM (vI ↑n) (wM vZ (wS (vI 0) rfl (Step.capS Try.un97 rfl shp_nil) (wM vZ (wS (vI 0) rfl (Step.lenS Try.un97 rfl rfl) (wP (vI 0) (wS (vI ↑n) rfl (Step.cast (congrArg (Value.int .i64) (show ((↑n : Int) - 0 : Int) = ↑n by omega)) (Step.sub rfl rfl (wrap_i64 (by omega)))) (wA (vI ↑n) (WL.nil (wR (wM (vI ↑n) (wP (vB (decide ((↑n : Int) > (0 : Int)))) (WL.nil ?_)))))))))))))))
  refine W.cond (t := decide ((↑n : Int) > (0 : Int))) rfl (fun h2 => ?_) (fun h2 => ?_)
  ·
   have h2p := dT h2
   refine W.region rfl (wM vZ (wM vZ (wS (vI 0) rfl (Step.capS Try.un97 rfl shp_nil) (wS vZ rfl (Step.sliceToP (h := 0) Try.un97 Try.el3.sized rfl rfl rfl shp_nil (Nat.zero_le _)) (wM (vI ↑n) ?_)))))
   refine WL.does rfl (M.nilZeros (k := n) Try.un97 Try.un3 Try.el3 rfl (by decide) rfl rfl (by omega) (by simp only [maxLen]; omega) (by omega)) ?_
   rintro v3 w4 ⟨junk5, hjunk5, -, M⟩
   have sl6 : IsSl v3 := SlAt.isSl (oW (M.chunk 0 rfl).inv)
   have hsh7 := (oW (M.chunk 0 rfl).inv).shp
   refine wM vZ (wS (vI 0) rfl (Step.lenS Try.un97 rfl rfl) (wS (vTake 0 v3) rfl (Step.sliceToP (h := 0) Try.un97 Try.el3.sized rfl rfl rfl hsh7 (by obtain ⟨_, _, _, _⟩ := hsh7; omega)) (wA (vTake 0 v3) (WL.nil (wR (wM (vTake 0 v3) (wA (vTake 0 v3) (WL.nil ?_))))))))
   refine W.ret ?_
   refine ⟨.inl rfl, (vTake 0 v3), ?_, ?_⟩
   · exact ⟨rfl, (Res.r1 (show RV _ _ _ (.tmp 4) (vTake 0 v3) from by exact rfl))⟩
   replace M := M.ownTake 0 0 rfl (Nat.zero_le _)
   replace M := M.rechunk 0 (c' := oI (vTake 0 v3) ([] : List Int)) rfl (by simp <;> rfl)
   refine ⟨(vTake 0 v3), ?_, M.close [0] rfl (by decide) trivial⟩
   rfl
  ·
   have h2p := dF h2
   refine W.skip (wR (wM vZ (wA vZ (WL.nil ?_))))
   refine W.ret ?_
   refine ⟨.inl rfl, vZ, ?_, ?_⟩
   · exact ⟨rfl, (Res.r1 (show RV _ _ _ (.tmp 4) vZ from by exact rfl))⟩
   replace M := M.ownNil 3 1
   refine ⟨vZ, ?_, M.close [0] rfl (by decide) trivial⟩
   rfl
theorem concat_int {G : Nat → Prop} {w : World} (v : Value) (xss : List (List Int))  (hb : sumL xss ≤ 100000) (hbl : xss.length ≤ 100) (M : Mem G (fun _ => False) w [] [RepS (SlsT 1 intE) v xss] w) : Rets Try.prog 128 #[v] w fun r w' => ∃ (v' : Value), r = v' ∧ Mem G (fun _ => False) w [oI v' xss.flatten] [] w' := by
 refine Rets.enter 36 _ Try.func128 rfl Try.ntmps128 Try.results128 (by simp) ?_
 have hle1 := RepS.le' (M.rep 0 rfl)
 have sl2 : IsSl v := RepS.isSl (Mem.rep M 0 rfl)
 obtain ⟨cs3, M⟩ := M.openS 0 rfl
 refine wR (wA vZ (WL.nil (wR (wA (vI 0) (WL.nil (W.seq' (wR (wM v (wS (vI ↑xss.length) rfl (Step.lenSl Try.un193 rfl (M.rep 0 rfl)) (wM (vI 0) (WL.nil (W.block ?_))))))))))))
 refine W.loop (fun kk ρ w' => ∃ (i_ : Nat) (s_ : Nat), ((i_ ≤ xss.length) ∧ (s_ = sumL (xss.take i_)) ∧ kk = xss.length - i_) ∧ ρ.has [(0, v), (2, vZ), (3, (vI ↑s_)), (9, v), (10, (vI ↑xss.length)), (11, (vI ↑i_))] ∧ Mem G (fun _ => False) w [] [SlAt 1 v xss.length cs3, RepL (SlsT 1 intE) cs3 xss, RepS (SlsT 1 intE) v xss]  w') _ ⟨0, 0, ⟨(Nat.zero_le _), rfl, rfl⟩, ⟨rfl, rfl, rfl, rfl, rfl, rfl, rfl, rfl⟩, M⟩ ?_
 rintro _ ρ5 w4 ⟨i_, s_, ⟨hi6, hi7, rfl⟩, hρ, M⟩
 obtain ⟨ρ5, rfl⟩ := hρ.know
 clear hρ
 have hsl_ := sumL_le xss i_
 refine wR (wP (vB (decide ((↑i_ : Int) < (↑xss.length : Int)))) (WL.nil (W.seq' ?_)))
 refine W.cond (t := decide ((↑i_ : Int) < (↑xss.length : Int))) rfl (fun h8 => ?_) (fun h8 => ?_)
 ·
  have h8p := dT h8
  refine W.skip (W.seq' (W.block (wR ?_)))
  obtain ⟨cap10, hb9⟩ := SlAt.base (M.rep 0 rfl) (by omega)
  obtain ⟨a11, ha11⟩ := elem_of_lt (xs := xss) (i := i_) (by omega)
  obtain ⟨lv12, M⟩ := sls_open M 0 1 rfl rfl rfl ha11
  have sl13 : IsSl lv12 := SlAt.isSl (Mem.rep M 1 rfl)
  have hsn_ := sumL_snoc ha11
  have hsm_ := sumL_le xss (i_ + 1)
  refine wS (vQ v i_ 1) rfl (sX i_ Try.un193 Try.el97 rfl rfl hb9) (wS lv12 rfl (Step.loadE (k := 0) Try.sc97 (M.rep 0 rfl : EC _ _ _ _ _) (by decide) rfl rfl) (wA lv12 (WL.nil (wR (wM (vI ↑s_) (wM lv12 (wS (vI ↑a11.length) rfl (Step.lenSl Try.un97 rfl (M.rep 1 rfl)) (wS (vI (↑s_ + ↑a11.length)) rfl (Step.add rfl rfl (wrap_i64 (by omega))) (wA (vI (↑s_ + ↑a11.length)) (WL.nil (wR (wM (vI (↑s_ + ↑a11.length)) (wP (vB (decide ((↑s_ + ↑a11.length : Int) < (0 : Int)))) (WL.nil ?_))))))))))))))
  refine W.cond (t := decide ((↑s_ + ↑a11.length : Int) < (0 : Int))) rfl (fun h14 => ?_) (fun h14 => ?_)
  ·
   have h14p := dT h14
   omega
  ·
   have h14p := dF h14
   refine W.skip (W.region rfl (wS (vI (↑i_ + 1)) rfl (Step.add rfl rfl (wrap_i64 (by omega))) (wM (vI (↑i_ + 1)) (WL.nil ?_))))
   replace M := M.sub (List.Sublist.refl _) (R' := [SlAt 1 v xss.length cs3, RepL (SlsT 1 intE) cs3 xss, RepS (SlsT 1 intE) v xss]) (fun r h => (List.mem_cons_of_mem _ (List.mem_cons_of_mem _ h)))
   exact ⟨_, (by omega), i_ + 1, s_ + a11.length, ⟨(by omega), (by rw [sumL_snoc ha11]; omega), rfl⟩, ⟨rfl, rfl, rfl, rfl, rfl, rfl, rfl, rfl⟩, M⟩
 ·
  have h8p := dF h8
  refine W.exit (thn_exit (thn_exit ?_))
  refine inBlk_hit ?_
  refine wR (wM (vI ↑s_) ?_)
  refine WL.callX rfl (grow_int s_ (by omega) (M.enterW0 trivial)) (CallsF.func Try.en135 rfl) ?_
  rintro v15 w16 ⟨_, rfl, m⟩
  replace M := M.leaveW0 m
  clear m
  have sl17 : IsSl v15 := SlAt.isSl (oW (Mem.chunk M 0 rfl).inv)
  have hle18 := SlAt.le' (oW (Mem.chunk M 0 rfl).inv)
  refine wA v15 (WL.nil (W.seq' (wR (wM v (wS (vI ↑xss.length) rfl (Step.lenSl Try.un193 rfl (M.rep 0 rfl)) (wM (vI 0) (WL.nil (W.block ?_))))))))
  replace M := M.rechunk 0 (c' := oI v15 ((xss.take 0).flatten)) rfl rfl
  replace M := M.sel (L' := [oI v15 ((xss.take 0).flatten)]) [0] rfl (by decide)
  refine W.loop (fun kk ρ w' => ∃ (j_ : Nat) (acc : Value), ((j_ ≤ xss.length) ∧ kk = xss.length - j_) ∧ ρ.has [(2, vZ), (6, acc), (25, v), (26, (vI ↑xss.length)), (27, (vI ↑j_))] ∧ Mem G (fun _ => False) w [oI acc ((xss.take j_).flatten)] [SlAt 1 v xss.length cs3, RepL (SlsT 1 intE) cs3 xss, RepS (SlsT 1 intE) v xss]  w') _ ⟨0, _, ⟨(Nat.zero_le _), rfl⟩, ⟨rfl, rfl, rfl, rfl, rfl, rfl, rfl⟩, M⟩ ?_
  rintro _ ρ20 w19 ⟨j_, acc, ⟨hi21, rfl⟩, hρ, M⟩
  obtain ⟨ρ20, rfl⟩ := hρ.know
  clear hρ
  have sl22 : IsSl acc := SlAt.isSl (oW (M.chunk 0 rfl).inv)
  have hcl_ : (xss.take j_).flatten.length ≤ xss.flatten.length := sumL_le xss j_
  refine wR (wP (vB (decide ((↑j_ : Int) < (↑xss.length : Int)))) (WL.nil (W.seq' ?_)))
  refine W.cond (t := decide ((↑j_ : Int) < (↑xss.length : Int))) rfl (fun h23 => ?_) (fun h23 => ?_)
  ·
   have h23p := dT h23
   refine W.skip (W.seq' (W.block (wR ?_)))
   obtain ⟨cap25, hb24⟩ := SlAt.base (M.rep 0 rfl) (by omega)
   obtain ⟨a26, ha26⟩ := elem_of_lt (xs := xss) (i := j_) (by omega)
   obtain ⟨lv27, M⟩ := sls_open M 0 1 rfl rfl rfl ha26
   have sl28 : IsSl lv27 := SlAt.isSl (Mem.rep M 1 rfl)
   have hsn_ := sumL_snoc ha26
   have hsm_ := sumL_le xss (j_ + 1)
   refine wS (vQ v j_ 1) rfl (sX j_ Try.un193 Try.el97 rfl rfl hb24) (wS lv27 rfl (Step.loadE (k := 0) Try.sc97 (M.rep 0 rfl : EC _ _ _ _ _) (by decide) rfl rfl) (wA lv27 (WL.nil (W.region rfl (wM acc (wM lv27 ?_))))))
   refine WL.does rfl (M.appendF ((xss.take j_).flatten) a26 (sv := lv27) 0 Try.un97 Try.el3 rfl (by decide) rfl rfl rfl (M.rep 1 rfl) intE_cel (by have := (show (xss.take j_).flatten.length + a26.length ≤ 100000 by unfold sumL at hsn_ hsm_ hb; omega); simp only [maxLen, List.length_nil, List.length_cons, List.length_append]; omega) (by have := (show (xss.take j_).flatten.length + a26.length ≤ 100000 by unfold sumL at hsn_ hsm_ hb; omega); (try simp only [List.length_nil, List.length_cons, List.length_append]); omega)) ?_
   rintro v29 w30 M
   have sl31 : IsSl v29 := SlAt.isSl (oW (M.chunk 0 rfl).inv)
   refine wA v29 (WL.nil (W.region rfl (wS (vI (↑j_ + 1)) rfl (Step.add rfl rfl (wrap_i64 (by omega))) (wM (vI (↑j_ + 1)) (WL.nil ?_)))))
   replace M := M.rechunk 0 (c' := oI v29 ((xss.take (j_ + 1)).flatten)) rfl (by rw [flat_snoc ha26])
   replace M := M.sub (List.Sublist.refl _) (R' := [SlAt 1 v xss.length cs3, RepL (SlsT 1 intE) cs3 xss, RepS (SlsT 1 intE) v xss]) (fun r h => (List.mem_cons_of_mem _ (List.mem_cons_of_mem _ h)))
   exact ⟨_, (by omega), j_ + 1, v29, ⟨(by omega), rfl⟩, ⟨rfl, rfl, rfl, rfl, rfl, rfl, rfl⟩, M⟩
  ·
   have h23p := dF h23
   refine W.exit (thn_exit (thn_exit ?_))
   refine inBlk_hit ?_
   refine wR (wM acc (wA acc (WL.nil ?_)))
   refine W.ret ?_
   refine ⟨.inl rfl, acc, ?_, ?_⟩
   · exact ⟨rfl, (Res.r1 (show RV _ _ _ (.tmp 2) acc from by exact rfl))⟩
   have e32 : xss.flatten = (xss.take j_).flatten := by
    rw [show j_ = xss.length by omega, List.take_length]
   replace M := M.rechunk 0 (c' := oI acc xss.flatten) rfl (congrArg (fun z => own 3 1 acc z.length (z.flatMap intE)) e32.symm)
   refine ⟨acc, ?_, M.close [0] rfl (by decide) trivial⟩
   rfl
theorem grow_hdl {G : Nat → Prop} {w : World} (n : Nat)  (hn : n ≤ 1000000) (M : Mem G (fun _ => False) w [] [] w) : Rets Try.prog 136 #[vZ, (vI ↑n)] w fun r w' => ∃ (v' : Value), r = v' ∧ Mem G (fun _ => False) w [oH v' ([] : List Handle)] [] w' := by
 refine Rets.enter 27 _ Try.func136 rfl Try.ntmps136 Try.results136 (by simp) ?_
 refine wR (wA vZ (WL.nil (W.seq' (wR (wM (vI ↑n) (wP (vB (decide ((↑n : Int) < (0 : Int)))) (WL.nil ?_)))))))
 refine W.cond (t := decide ((↑n : Int) < (0 : Int))) rfl (fun h1 => ?_) (fun h1 => ?_)
 ·
  have h1p := dT h1
  omega
 ·
  have h1p := dF h1
  refine W.skip (W.seq' (wR (wM (vI ↑n) (wM vZ (wS (vI 0) rfl (Step.capS Try.un96 rfl shp_nil) (wM vZ (wS (vI 0) rfl (Step.lenS Try.un96 rfl rfl) (wP (vI 0) (wS (vI ↑n) rfl (Step.cast (congrArg (Value.int .i64) (show ((↑n : Int) - 0 : Int) = ↑n by omega)) (Step.sub rfl rfl (wrap_i64 (by omega)))) (wA (vI ↑n) (WL.nil (wR (wM (vI ↑n) (wP (vB (decide ((↑n : Int) > (0 : Int)))) (WL.nil ?_)))))))))))))))
  refine W.cond (t := decide ((↑n : Int) > (0 : Int))) rfl (fun h2 => ?_) (fun h2 => ?_)
  ·
   have h2p := dT h2
   refine W.region rfl (wM vZ (wM vZ (wS (vI 0) rfl (Step.capS Try.un96 rfl shp_nil) (wS vZ rfl (Step.sliceToP (h := 0) Try.un96 Try.el92.sized rfl rfl rfl shp_nil (Nat.zero_le _)) (wM (vI ↑n) ?_)))))
   refine WL.does rfl (M.nilZeros (k := n) Try.un96 Try.un3 Try.el92 rfl (by decide) rfl rfl (by omega) (by simp only [maxLen]; omega) (by omega)) ?_
   rintro v3 w4 ⟨junk5, hjunk5, -, M⟩
   have sl6 : IsSl v3 := SlAt.isSl (oW (M.chunk 0 rfl).inv)
   have hsh7 := (oW (M.chunk 0 rfl).inv).shp
   refine wM vZ (wS (vI 0) rfl (Step.lenS Try.un96 rfl rfl) (wS (vTake 0 v3) rfl (Step.sliceToP (h := 0) Try.un96 Try.el92.sized rfl rfl rfl hsh7 (by obtain ⟨_, _, _, _⟩ := hsh7; omega)) (wA (vTake 0 v3) (WL.nil (wR (wM (vTake 0 v3) (wA (vTake 0 v3) (WL.nil ?_))))))))
   refine W.ret ?_
   refine ⟨.inl rfl, (vTake 0 v3), ?_, ?_⟩
   · exact ⟨rfl, (Res.r1 (show RV _ _ _ (.tmp 4) (vTake 0 v3) from by exact rfl))⟩
   replace M := M.ownTake 0 0 rfl (Nat.zero_le _)
   replace M := M.rechunk 0 (c' := oH (vTake 0 v3) ([] : List Handle)) rfl (by simp <;> rfl)
   refine ⟨(vTake 0 v3), ?_, M.close [0] rfl (by decide) trivial⟩
   rfl
  ·
   have h2p := dF h2
   refine W.skip (wR (wM vZ (wA vZ (WL.nil ?_))))
   refine W.ret ?_
   refine ⟨.inl rfl, vZ, ?_, ?_⟩
   · exact ⟨rfl, (Res.r1 (show RV _ _ _ (.tmp 4) vZ from by exact rfl))⟩
   replace M := M.ownNil 92 2
   refine ⟨vZ, ?_, M.close [0] rfl (by decide) trivial⟩
   rfl
theorem concat_hdl {G : Nat → Prop} {w : World} (v : Value) (xss : List (List Handle))  (hb : sumL xss ≤ 100000) (hbl : xss.length ≤ 100) (M : Mem G (fun _ => False) w [] [RepS (SlsT 2 handleE) v xss] w) : Rets Try.prog 129 #[v] w fun r w' => ∃ (v' : Value), r = v' ∧ Mem G (fun _ => False) w [oH v' xss.flatten] [] w' := by
 refine Rets.enter 36 _ Try.func129 rfl Try.ntmps129 Try.results129 (by simp) ?_
 have hle1 := RepS.le' (M.rep 0 rfl)
 have sl2 : IsSl v := RepS.isSl (Mem.rep M 0 rfl)
 obtain ⟨cs3, M⟩ := M.openS 0 rfl
 refine wR (wA vZ (WL.nil (wR (wA (vI 0) (WL.nil (W.seq' (wR (wM v (wS (vI ↑xss.length) rfl (Step.lenSl Try.un195 rfl (M.rep 0 rfl)) (wM (vI 0) (WL.nil (W.block ?_))))))))))))
 refine W.loop (fun kk ρ w' => ∃ (i_ : Nat) (s_ : Nat), ((i_ ≤ xss.length) ∧ (s_ = sumL (xss.take i_)) ∧ kk = xss.length - i_) ∧ ρ.has [(0, v), (2, vZ), (3, (vI ↑s_)), (9, v), (10, (vI ↑xss.length)), (11, (vI ↑i_))] ∧ Mem G (fun _ => False) w [] [SlAt 1 v xss.length cs3, RepL (SlsT 2 handleE) cs3 xss, RepS (SlsT 2 handleE) v xss]  w') _ ⟨0, 0, ⟨(Nat.zero_le _), rfl, rfl⟩, ⟨rfl, rfl, rfl, rfl, rfl, rfl, rfl, rfl⟩, M⟩ ?_
 rintro _ ρ5 w4 ⟨i_, s_, ⟨hi6, hi7, rfl⟩, hρ, M⟩
 obtain ⟨ρ5, rfl⟩ := hρ.know
 clear hρ
 have hsl_ := sumL_le xss i_
 refine wR (wP (vB (decide ((↑i_ : Int) < (↑xss.length : Int)))) (WL.nil (W.seq' ?_)))
 refine W.cond (t := decide ((↑i_ : Int) < (↑xss.length : Int))) rfl (fun h8 => ?_) (fun h8 => ?_)
 ·
  have h8p := dT h8
  refine W.skip (W.seq' (W.block (wR ?_)))
  obtain ⟨cap10, hb9⟩ := SlAt.base (M.rep 0 rfl) (by omega)
  obtain ⟨a11, ha11⟩ := elem_of_lt (xs := xss) (i := i_) (by omega)
  obtain ⟨lv12, M⟩ := sls_open M 0 1 rfl rfl rfl ha11
  have sl13 : IsSl lv12 := SlAt.isSl (Mem.rep M 1 rfl)
  have hsn_ := sumL_snoc ha11
  have hsm_ := sumL_le xss (i_ + 1)
  refine wS (vQ v i_ 1) rfl (sX i_ Try.un195 Try.el96 rfl rfl hb9) (wS lv12 rfl (Step.loadE (k := 0) Try.sc96 (M.rep 0 rfl : EC _ _ _ _ _) (by decide) rfl rfl) (wA lv12 (WL.nil (wR (wM (vI ↑s_) (wM lv12 (wS (vI ↑a11.length) rfl (Step.lenSl Try.un96 rfl (M.rep 1 rfl)) (wS (vI (↑s_ + ↑a11.length)) rfl (Step.add rfl rfl (wrap_i64 (by omega))) (wA (vI (↑s_ + ↑a11.length)) (WL.nil (wR (wM (vI (↑s_ + ↑a11.length)) (wP (vB (decide ((↑s_ + ↑a11.length : Int) < (0 : Int)))) (WL.nil ?_))))))))))))))
  refine W.cond (t := decide ((↑s_ + ↑a11.length : Int) < (0 : Int))) rfl (fun h14 => ?_) (fun h14 => ?_)
  ·
   have h14p := dT h14
   omega
  ·
   have h14p := dF h14
   refine W.skip (W.region rfl (wS (vI (↑i_ + 1)) rfl (Step.add rfl rfl (wrap_i64 (by omega))) (wM (vI (↑i_ + 1)) (WL.nil ?_))))
   replace M := M.sub (List.Sublist.refl _) (R' := [SlAt 1 v xss.length cs3, RepL (SlsT 2 handleE) cs3 xss, RepS (SlsT 2 handleE) v xss]) (fun r h => (List.mem_cons_of_mem _ (List.mem_cons_of_mem _ h)))
   exact ⟨_, (by omega), i_ + 1, s_ + a11.length, ⟨(by omega), (by rw [sumL_snoc ha11]; omega), rfl⟩, ⟨rfl, rfl, rfl, rfl, rfl, rfl, rfl, rfl⟩, M⟩
 ·
  have h8p := dF h8
  refine W.exit (thn_exit (thn_exit ?_))
  refine inBlk_hit ?_
  refine wR (wM (vI ↑s_) ?_)
  refine WL.callX rfl (grow_hdl s_ (by omega) (M.enterW0 trivial)) (CallsF.func Try.en136 rfl) ?_
  rintro v15 w16 ⟨_, rfl, m⟩
  replace M := M.leaveW0 m
  clear m
  have sl17 : IsSl v15 := SlAt.isSl (oW (Mem.chunk M 0 rfl).inv)
  have hle18 := SlAt.le' (oW (Mem.chunk M 0 rfl).inv)
  refine wA v15 (WL.nil (W.seq' (wR (wM v (wS (vI ↑xss.length) rfl (Step.lenSl Try.un195 rfl (M.rep 0 rfl)) (wM (vI 0) (WL.nil (W.block ?_))))))))
  replace M := M.rechunk 0 (c' := oH v15 ((xss.take 0).flatten)) rfl rfl
  replace M := M.sel (L' := [oH v15 ((xss.take 0).flatten)]) [0] rfl (by decide)
  refine W.loop (fun kk ρ w' => ∃ (j_ : Nat) (acc : Value), ((j_ ≤ xss.length) ∧ kk = xss.length - j_) ∧ ρ.has [(2, vZ), (6, acc), (25, v), (26, (vI ↑xss.length)), (27, (vI ↑j_))] ∧ Mem G (fun _ => False) w [oH acc ((xss.take j_).flatten)] [SlAt 1 v xss.length cs3, RepL (SlsT 2 handleE) cs3 xss, RepS (SlsT 2 handleE) v xss]  w') _ ⟨0, _, ⟨(Nat.zero_le _), rfl⟩, ⟨rfl, rfl, rfl, rfl, rfl, rfl, rfl⟩, M⟩ ?_
  rintro _ ρ20 w19 ⟨j_, acc, ⟨hi21, rfl⟩, hρ, M⟩
  obtain ⟨ρ20, rfl⟩ := hρ.know
  clear hρ
  have sl22 : IsSl acc := SlAt.isSl (oW (M.chunk 0 rfl).inv)
  have hcl_ : (xss.take j_).flatten.length ≤ xss.flatten.length := sumL_le xss j_
  refine wR (wP (vB (decide ((↑j_ : Int) < (↑xss.length : Int)))) (WL.nil (W.seq' ?_)))
  refine W.cond (t := decide ((↑j_ : Int) < (↑xss.length : Int))) rfl (fun h23 => ?_) (fun h23 => ?_)
  ·
   have h23p := dT h23
   refine W.skip (W.seq' (W.block (wR ?_)))
   obtain ⟨cap25, hb24⟩ := SlAt.base (M.rep 0 rfl) (by omega)
   obtain ⟨a26, ha26⟩ := elem_of_lt (xs := xss) (i := j_) (by omega)
   obtain ⟨lv27, M⟩ := sls_open M 0 1 rfl rfl rfl ha26
   have sl28 : IsSl lv27 := SlAt.isSl (Mem.rep M 1 rfl)
   have hsn_ := sumL_snoc ha26
   have hsm_ := sumL_le xss (j_ + 1)
   refine wS (vQ v j_ 1) rfl (sX j_ Try.un195 Try.el96 rfl rfl hb24) (wS lv27 rfl (Step.loadE (k := 0) Try.sc96 (M.rep 0 rfl : EC _ _ _ _ _) (by decide) rfl rfl) (wA lv27 (WL.nil (W.region rfl (wM acc (wM lv27 ?_))))))
   refine WL.does rfl (M.appendF ((xss.take j_).flatten) a26 (sv := lv27) 0 Try.un96 Try.el92 rfl (by decide) rfl rfl rfl (M.rep 1 rfl) handleE_cel (by have := (show (xss.take j_).flatten.length + a26.length ≤ 100000 by unfold sumL at hsn_ hsm_ hb; omega); simp only [maxLen, List.length_nil, List.length_cons, List.length_append]; omega) (by have := (show (xss.take j_).flatten.length + a26.length ≤ 100000 by unfold sumL at hsn_ hsm_ hb; omega); (try simp only [List.length_nil, List.length_cons, List.length_append]); omega)) ?_
   rintro v29 w30 M
   have sl31 : IsSl v29 := SlAt.isSl (oW (M.chunk 0 rfl).inv)
   refine wA v29 (WL.nil (W.region rfl (wS (vI (↑j_ + 1)) rfl (Step.add rfl rfl (wrap_i64 (by omega))) (wM (vI (↑j_ + 1)) (WL.nil ?_)))))
   replace M := M.rechunk 0 (c' := oH v29 ((xss.take (j_ + 1)).flatten)) rfl (by rw [flat_snoc ha26])
   replace M := M.sub (List.Sublist.refl _) (R' := [SlAt 1 v xss.length cs3, RepL (SlsT 2 handleE) cs3 xss, RepS (SlsT 2 handleE) v xss]) (fun r h => (List.mem_cons_of_mem _ (List.mem_cons_of_mem _ h)))
   exact ⟨_, (by omega), j_ + 1, v29, ⟨(by omega), rfl⟩, ⟨rfl, rfl, rfl, rfl, rfl, rfl, rfl⟩, M⟩
  ·
   have h23p := dF h23
   refine W.exit (thn_exit (thn_exit ?_))
   refine inBlk_hit ?_
   refine wR (wM acc (wA acc (WL.nil ?_)))
   refine W.ret ?_
   refine ⟨.inl rfl, acc, ?_, ?_⟩
   · exact ⟨rfl, (Res.r1 (show RV _ _ _ (.tmp 2) acc from by exact rfl))⟩
   have e32 : xss.flatten = (xss.take j_).flatten := by
    rw [show j_ = xss.length by omega, List.take_length]
   replace M := M.rechunk 0 (c' := oH acc xss.flatten) rfl (congrArg (fun z => own 92 2 acc z.length (z.flatMap handleE)) e32.symm)
   refine ⟨acc, ?_, M.close [0] rfl (by decide) trivial⟩
   rfl
end Go.Proofs
set_option maxRecDepth 100000
namespace Go.Proofs
open Go Tp
theorem Try.en93 : Enters Try.prog 93 := fun _ _ => by kernel_rfl
theorem Try.en111 : Enters Try.prog 111 := fun _ _ => by kernel_rfl
theorem Try.sc90 : Scal Try.prog 90 := fun _ => by kernel_rfl
theorem tr_node {G X : Nat → Prop} {w : World} (tb ab : Nat) (r : Handle) (fu : Bool) (ln : Int) (l : List RPlace) (S : Nat → Prop) (h : Handle)  (hA : SmallA l) (n : Nd) (hn : (rget l h).1 = n) (M : Mem G X w [arenaC 143 145 S ab l] [bF tb #[(vP ab), (vI r.at_), (vI r.turn), (vB fu), (vI ln)] 94] w) : Rets Try.prog 49 #[(vP tb), (Value.agg #[(vI h.at_), (vI h.turn)])] w fun r w' => ∃ (kv' : Value) (dv' : Value) (vv' : Value), r = (Value.agg #[(vB n.leaf), kv', dv', vv']) ∧ Mem G X w [arenaC 143 145 S ab l, oS kv' n.keys, oH dv' n.kids, oI vv' n.vals] [] w' := by
 refine Rets.enter 17 _ Try.func49 rfl Try.ntmps49 Try.results49 (by simp) ?_
 refine wR ?_
 refine WL.box (v := (Value.agg #[(vI h.at_), (vI h.turn)])) (c := #[(vI h.at_), (vI h.turn)]) M rfl rfl rfl (fun b1 w2 hb1 M => ?_)
 refine WL.alloc (c := #[(vB false), vZ, vZ, vZ]) M rfl Try.el99.zero rfl (fun b3 w4 hb3 M => ?_)
 refine WL.nil (W.seq' ?_)
 refine W.drawn M [0, 1, 2, 3, 4, 5, 6, 7, 8, 9, 10, 11] [5, 10] [9] _ _ (sY (sY (sY sE))) (fun _ h => h) Try.mixed (by kernel_rfl) ?_
 refine tM (vP tb) rfl (tQ (vP tb) rfl (tQ (vP tb) rfl (tR (vP ab) rfl (fun A w M => (Step.load1 Try.sc90 rfl ((cell_blk (M.rep 0 rfl) 0).trans rfl))) (tR (Value.agg #[(vI h.at_), (vI h.turn)]) rfl (fun A w M => (Step.loadN Try.ag92 rfl (M.blk 2 rfl) (nL rfl) rfl)) ?_))))
 let Q : List Chunk := [bk b3 #[(vB false), vZ, vZ, vZ] 99, bk b1 #[(vI h.at_), (vI h.turn)] 92]
 refine TW.callX (ι := Value × Value × Value) (fun jx v_ => v_ = (Value.tuple #[(Value.agg #[(vB (((rget l h).1).leaf)), jx.1, jx.2.1, jx.2.2]), (vI ((rget l h).2))])) (fun jx => [oS jx.1 (((rget l h).1).keys), oH jx.2.1 (((rget l h).1).kids), oI jx.2.2 (((rget l h).1).vals), bk b3 #[(vB false), vZ, vZ, vZ] 99, bk b1 #[(vI h.at_), (vI h.turn)] 92, arenaC 143 145 S ab l]) (fun jx => [bF tb #[(vP ab), (vI r.at_), (vI r.turn), (vB fu), (vI ln)] 94]) rfl (by decide) rfl (fun jx => (sN (sN (sN (sY (sY (sY sE))))))) (fun jx r h => h) (fun A w M => have fq := M.frm [arenaC 143 145 S ab l] (fl A :: Q) [3, 0, 1, 2] rfl; Rets.mono (ar_get ab l S h (by assumption) (M.eF fq trivial)) (fun v_ w_ ⟨kv17, dv18, vv19, e_, m⟩ => ⟨(kv17, dv18, vv19), e_, (M.lF fq m).sel [4, 1, 2, 3, 5, 6, 0] rfl (by decide), fun b hb => M.kF fq m b hb⟩)) (fun w => CallsF.func Try.en93 rfl) (fun jx v hp hin => ?_)
 obtain ⟨kv17, dv18, vv19⟩ := jx
 replace hp := hp.symm; subst hp
 obtain ⟨_, _, hin⟩ := hin
 have sl20 : IsSl kv17 := SlAt.isSl (oW (Mem.chunk hin 1 rfl).inv)
 have hle21 := SlAt.le' (oW (Mem.chunk hin 1 rfl).inv)
 have sl22 : IsSl dv18 := SlAt.isSl (oW (Mem.chunk hin 2 rfl).inv)
 have hle23 := SlAt.le' (oW (Mem.chunk hin 2 rfl).inv)
 have sl24 : IsSl vv19 := SlAt.isSl (oW (Mem.chunk hin 3 rfl).inv)
 have hle25 := SlAt.le' (oW (Mem.chunk hin 3 rfl).inv)
 clear hin
 refine tM (Value.tuple #[(Value.agg #[(vB (((rget l h).1).leaf)), kv17, dv18, vv19]), (vI ((rget l h).2))]) rfl (tQ (Value.agg #[(vB (((rget l h).1).leaf)), kv17, dv18, vv19]) rfl (tQ (vI ((rget l h).2)) rfl ?_))
 refine TW.new (obj := .cells #[(vB false), vZ, vZ, vZ] 99) (fun b => .pointer (some ⟨b, 0, none⟩)) rfl (by decide) (by decide) rfl (fun w => Step.alloc Try.el99.zero) (fun b26 => ?_)
 refine TW.store (v := (Value.agg #[(vB (((rget l h).1).leaf)), kv17, dv18, vv19])) (cs := [(vB (((rget l h).1).leaf)), kv17, dv18, vv19]) (c' := #[(vB (((rget l h).1).leaf)), kv17, dv18, vv19]) 0 rfl rfl (by decide) rfl Try.el99.sized rfl rfl rfl rfl (nL rfl) (cC rfl (cC (IsSl.cel sl20) (cC (IsSl.cel sl22) (cC (IsSl.cel sl24) cel_nil)))) rfl rfl (sN (sN (sN (sN (sY (sY (sY sE))))))) (fun r h => h) ?_
 refine tP (vI ((rget l h).2)) rfl (fun w => (Step.assign rfl)) ?_
 refine TW.done (fun w27 M => ?_)
 refine wR (wS (Value.agg #[(vB (((rget l h).1).leaf)), kv17, dv18, vv19]) rfl (Step.loadN Try.ag99 rfl (M.blk 0 rfl) (nL rfl) rfl) ?_)
 refine WL.store (v := (Value.agg #[(vB (((rget l h).1).leaf)), kv17, dv18, vv19])) (cs := [(vB (((rget l h).1).leaf)), kv17, dv18, vv19]) (c' := #[(vB (((rget l h).1).leaf)), kv17, dv18, vv19]) M 4 rfl rfl Try.el99.sized rfl rfl rfl rfl (nL rfl) (cC rfl (cC (IsSl.cel sl20) (cC (IsSl.cel sl22) (cC (IsSl.cel sl24) cel_nil)))) rfl rfl (fun w28 M => ?_)
 refine WL.nil ?_
 refine W.ret ?_
 refine ⟨.inl rfl, (Value.agg #[(vB (((rget l h).1).leaf)), kv17, dv18, vv19]), ?_, ?_⟩
 · exact ⟨rfl, (Res.r1 (RV.cellN Try.ag99 rfl (M.blk 4 rfl) rfl))⟩
 have e29 : n.keys = ((rget l h).1).keys := by
  rw [hn]
 replace M := M.rechunk 1 (c' := oS kv17 n.keys) rfl (congrArg (fun z => own 9 1 kv17 z.length (z.flatMap strE)) e29.symm)
 have e30 : n.kids = ((rget l h).1).kids := by
  rw [hn]
 replace M := M.rechunk 2 (c' := oH dv18 n.kids) rfl (congrArg (fun z => own 92 2 dv18 z.length (z.flatMap handleE)) e30.symm)
 have e31 : n.vals = ((rget l h).1).vals := by
  rw [hn]
 replace M := M.rechunk 3 (c' := oI vv19 n.vals) rfl (congrArg (fun z => own 3 1 vv19 z.length (z.flatMap intE)) e31.symm)
 refine ⟨kv17, dv18, vv19, ?_, M.close [6, 1, 2, 3] rfl (by decide) trivial⟩
 rw [hn]
theorem tr_put {G X : Nat → Prop} {w : World} (tb ab : Nat) (r : Handle) (fu : Bool) (ln : Int) (l : List RPlace) (S : Nat → Prop) (h : Handle) (kv : Value) (dv : Value) (vv : Value) (n : Nd)  (hA : SmallA l) (hkn : n.keys.length ≤ 1000000) (hdn : n.kids.length ≤ 1000000) (hvn : n.vals.length ≤ 1000000) (M : Mem G X w [arenaC 143 145 S ab l] [bF tb #[(vP ab), (vI r.at_), (vI r.turn), (vB fu), (vI ln)] 94, fS kv n.keys, fH dv n.kids, fI vv n.vals] w) : Rets Try.prog 84 #[(vP tb), (Value.agg #[(vI h.at_), (vI h.turn)]), (Value.agg #[(vB n.leaf), kv, dv, vv])] w fun r w' => ∃ (S' : Nat → Prop), r = undef ∧ Mem G X w [arenaC 143 145 S' ab ((rput l h n).1)] [] w' := by
 refine Rets.enter 13 _ Try.func84 rfl Try.ntmps84 Try.results84 (by simp) ?_
 have hle1 := SlAt.le' (M.rep 1 rfl)
 have hle2 := SlAt.le' (M.rep 2 rfl)
 have hle3 := SlAt.le' (M.rep 3 rfl)
 have sl4 : IsSl kv := SlAt.isSl (Mem.rep M 1 rfl)
 have sl5 : IsSl dv := SlAt.isSl (Mem.rep M 2 rfl)
 have sl6 : IsSl vv := SlAt.isSl (Mem.rep M 3 rfl)
 refine wR ?_
 refine WL.box (v := (Value.agg #[(vI h.at_), (vI h.turn)])) (c := #[(vI h.at_), (vI h.turn)]) M rfl rfl rfl (fun b7 w8 hb7 M => ?_)
 refine WL.box (v := (Value.agg #[(vB n.leaf), kv, dv, vv])) (c := #[(vB n.leaf), kv, dv, vv]) M rfl rfl rfl (fun b9 w10 hb9 M => ?_)
 refine WL.nil ?_
 refine W.drawn M [0, 1, 2, 3, 4, 5, 6] [6] [] _ _ (sY (sY (sN sE))) (fun _ h => h) Try.mixed (by kernel_rfl) ?_
 refine tM (vP tb) rfl (tQ (vP tb) rfl (tQ (vP tb) rfl (tR (vP ab) rfl (fun A w M => (Step.load1 Try.sc90 rfl ((cell_blk (M.rep 0 rfl) 0).trans rfl))) (tR (Value.agg #[(vI h.at_), (vI h.turn)]) rfl (fun A w M => (Step.loadN Try.ag92 rfl (M.blk 2 rfl) (nL rfl) rfl)) (tR (Value.agg #[(vB n.leaf), kv, dv, vv]) rfl (fun A w M => (Step.loadN Try.ag99 rfl (M.blk 1 rfl) (nL rfl) rfl)) ?_)))))
 let Q : List Chunk := [bk b9 #[(vB n.leaf), kv, dv, vv] 99, bk b7 #[(vI h.at_), (vI h.turn)] 92]
 refine TW.callX (ι := (Nat → Prop)) (fun jx v_ => v_ = (vI ((rput l h n).2))) (fun jx => arenaC 143 145 jx ab ((rput l h n).1) :: Q) (fun jx => [bF tb #[(vP ab), (vI r.at_), (vI r.turn), (vB fu), (vI ln)] 94, fS kv n.keys, fH dv n.kids, fI vv n.vals]) rfl (by decide) rfl (fun jx => (sN (sY (sY sE)))) (fun jx r h => h) (fun A w M => have fq := M.frm [arenaC 143 145 S ab l] (fl A :: Q) [3, 0, 1, 2] rfl; Rets.mono (ar_put ab l S h kv dv vv n (by assumption) (by omega) (by omega) (by omega) (M.eF fq ⟨(M.rF fq 1 rfl), (M.rF fq 2 rfl), (M.rF fq 3 rfl), trivial⟩)) (fun v_ w_ ⟨S13, e_, m⟩ => ⟨S13, e_, (M.lF fq m).sel [1, 0, 2, 3] rfl (by decide), fun b hb => M.kF fq m b hb⟩)) (fun w => CallsF.func Try.en111 rfl) (fun S13 v hp hin => ?_)
 replace hp := hp.symm; subst hp
 obtain ⟨_, _, hin⟩ := hin
 clear hin
 refine TW.done (fun w14 M => ?_)
 refine ⟨.inr rfl, undef, ?_, ?_⟩
 · exact ⟨rfl, Res.none⟩
 refine ⟨S13, ?_, M.close [0] rfl (by decide) trivial⟩
 rfl
end Go.Proofs
namespace Tp
open Go
def splCells (u : THit × Handle) : List Value := [.string u.1.key, .int .i64 u.1.val, .int .i64 u.2.at_, .int .i64 u.2.turn]
def upC (e : TypeId) (v : Value) (o : Option (THit × Handle)) : Chunk :=
  match o with
  | none => ⟨fun _ => False, fun _ => v = .pointer none⟩
  | some u => ⟨fun b => v = .pointer (some ⟨b, 0, none⟩), fun w => ∃ b, v = .pointer (some ⟨b, 0, none⟩) ∧ w.heap[b]? = some (.cells ⟨splCells u⟩ e)⟩
section
variable {F X : Nat → Prop} {w0 w : World} {L : List Chunk} {R : List (World → Prop)} {e : TypeId} {v : Value} {u : THit × Handle} {o : Option (THit × Handle)}
theorem Mem.upNone (M : Mem F X w0 L R w) (i : Nat) (hi : L[i]? = some (upC e v none)) : v = .pointer none := (M.chunk i hi).inv
theorem Mem.upSome (M : Mem F X w0 L R w) (i : Nat) (hi : L[i]? = some (upC e v (some u))) : ∃ b, v = .pointer (some ⟨b, 0, none⟩) ∧ Mem F X w0 (L.set i (Tp.blk b (.cells ⟨splCells u⟩ e))) R w := by
  obtain ⟨b, hv, hb⟩ := (M.chunk i hi).inv
  refine ⟨b, hv, M.turn i hi (Mod.refl _ _) (blk_ok hb) fun b' hb' => .inl ?_⟩
  show v = _
  rw [hv, show b' = b from hb']
theorem Mem.mkNone (M : Mem F X w0 L R w) (h : o = none) : Mem F X w0 (upC e (.pointer none) o :: L) R w := by
  subst h
  exact M.own (Mod.refl _ _) ⟨fun _ h => h.elim, fun _ _ => rfl⟩ fun _ h => h.elim
theorem Mem.mkSome {b : Nat} {cs : Array Value} (M : Mem F X w0 L R w) (i : Nat) (hi : L[i]? = some (Tp.blk b (.cells cs e))) (h : o = some u) (hc : cs = ⟨splCells u⟩) : Mem F X w0 (L.set i (upC e (.pointer (some ⟨b, 0, none⟩)) o)) R w := by
  subst h; subst hc
  have hb := M.blk i hi
  refine M.turn i hi (Mod.refl _ _) ⟨fun b' hb' => ?_, fun w' hw => ⟨b, rfl, (hw b rfl).trans hb⟩⟩ fun b' hb' => .inl ?_
  · have : b' = b := by
      have h2 : Value.pointer (some ⟨b, 0, none⟩) = .pointer (some ⟨b', 0, none⟩) := hb'
      cases h2; rfl
    rw [this]; exact lt_of_blk hb
  · have h2 : Value.pointer (some ⟨b, 0, none⟩) = .pointer (some ⟨b', 0, none⟩) := hb'
    cases h2; rfl
end
theorem SmallA.setp {l : List RPlace} {i : Nat} {q : RPlace} (hA : SmallA l) (h1 : 0 ≤ q.turn) (h2 : q.turn ≤ 1000000) (h3 : SmallNd q.node) : SmallA (l.set i q) := by
  refine ⟨by rw [List.length_set]; exact hA.1, fun j p hp => ?_⟩
  rcases Nat.lt_or_ge i l.length with hi | hi
  · rcases Nat.decEq i j with hij | rfl
    · rw [List.getElem?_set_ne hij] at hp; exact hA.2 _ _ hp
    · rw [List.getElem?_set_self hi] at hp; cases hp; exact ⟨h1, h2, h3⟩
  · rw [List.set_eq_of_length_le hi] at hp; exact hA.2 _ _ hp
theorem SmallA.put {l : List RPlace} {h : Handle} {m : Nd} (hA : SmallA l) (h1 : m.keys.length ≤ 1000000) (h2 : m.kids.length ≤ 1000000) (h3 : m.vals.length ≤ 1000000) : SmallA (rput l h m).1 := by
  cases hh : rhas l h with
  | false => rw [rput_miss hh]; exact hA
  | true =>
    obtain ⟨p, hp, hu, ht, h0, hlt⟩ := rhas_place hh
    obtain ⟨g1, g2, g3⟩ := hA.2 _ _ hp
    rw [rput_hit hh]
    exact hA.setp (by simp only; omega) (by simp only; omega) ⟨h1, h2, h3⟩
structure NodeOk (l : List RPlace) (n : Nd) : Prop where
  small : SmallA l
  tiny : tinyN n
  lens : n.vals.length = n.keys.length
  up : upS n.keys
def insOk : Nat → List RPlace → Handle → THit → Prop
  | 0, l, h, x => NodeOk l (rget l h).1 ∧ (bsF (rget l h).1.keys x.key = false → (rget l h).1.leaf = true)
  | d + 1, l, h, x => NodeOk l (rget l h).1 ∧ (bsF (rget l h).1.keys x.key = false → (rget l h).1.leaf = false →
      (rget l h).1.kids.length = (rget l h).1.keys.length + 1 ∧ insOk d l ((rget l h).1.kids.getD (bsI (rget l h).1.keys x.key) hdZero) x ∧ SmallA (insF d l ((rget l h).1.kids.getD (bsI (rget l h).1.keys x.key) hdZero) x).1)
section
variable {l : List RPlace} {h : Handle} {n : Nd} {x : THit} {d : Nat}
theorem insOk_node (hO : insOk d l h x) (hn : (rget l h).1 = n) : NodeOk l n := by
  subst hn
  cases d with
  | zero => exact hO.1
  | succ d => exact hO.1
theorem insOk_kid (hO : insOk d l h x) (hn : (rget l h).1 = n) (hf : bsF n.keys x.key = false) (hl : n.leaf = false) : ∃ e, d = e + 1 ∧ n.kids.length = n.keys.length + 1 ∧ insOk e l (n.kids.getD (bsI n.keys x.key) hdZero) x ∧ SmallA (insF e l (n.kids.getD (bsI n.keys x.key) hdZero) x).1 := by
  subst hn
  cases d with
  | zero => rw [hO.2 hf] at hl; cases hl
  | succ d => exact ⟨d, rfl, hO.2 hf hl⟩
theorem insF_hit (hn : (rget l h).1 = n) (hf : bsF n.keys x.key = true) : insF d l h x = ((rput l h ⟨n.leaf, n.keys, n.kids, n.vals.set (bsI n.keys x.key) x.val⟩).1, (n.vals.getD (bsI n.keys x.key) 0, true), none) := by
  subst hn; cases d <;> (unfold insF; simp [hf])
theorem insF_leaf (hn : (rget l h).1 = n) (hf : bsF n.keys x.key = false) (hl : n.leaf = true) : insF d l h x = ((settleF l h ⟨n.leaf, insAt n.keys (bsI n.keys x.key) x.key, n.kids, insAt n.vals (bsI n.keys x.key) x.val⟩).1, (0, false), (settleF l h ⟨n.leaf, insAt n.keys (bsI n.keys x.key) x.key, n.kids, insAt n.vals (bsI n.keys x.key) x.val⟩).2) := by
  subst hn; cases d <;> (unfold insF; simp [hf, hl])
theorem insF_none (hn : (rget l h).1 = n) (hf : bsF n.keys x.key = false) (hl : n.leaf = false) (hu : (insF d l (n.kids.getD (bsI n.keys x.key) hdZero) x).2.2 = none) :
    insF (d + 1) l h x = ((insF d l (n.kids.getD (bsI n.keys x.key) hdZero) x).1, (insF d l (n.kids.getD (bsI n.keys x.key) hdZero) x).2.1, none) := by
  subst hn
  conv => lhs; unfold insF
  simp only [hf, hl, Bool.false_eq_true, if_false]
  rw [hu]
theorem insF_some {u : THit × Handle} (hn : (rget l h).1 = n) (hf : bsF n.keys x.key = false) (hl : n.leaf = false) (hu : (insF d l (n.kids.getD (bsI n.keys x.key) hdZero) x).2.2 = some u) :
    insF (d + 1) l h x = ((settleF (insF d l (n.kids.getD (bsI n.keys x.key) hdZero) x).1 h ⟨n.leaf, insAt n.keys (bsI n.keys x.key) u.1.key, insAt n.kids (bsI n.keys x.key + 1) u.2, insAt n.vals (bsI n.keys x.key) u.1.val⟩).1, (insF d l (n.kids.getD (bsI n.keys x.key) hdZero) x).2.1,
      (settleF (insF d l (n.kids.getD (bsI n.keys x.key) hdZero) x).1 h ⟨n.leaf, insAt n.keys (bsI n.keys x.key) u.1.key, insAt n.kids (bsI n.keys x.key + 1) u.2, insAt n.vals (bsI n.keys x.key) u.1.val⟩).2) := by
  subst hn
  conv => lhs; unfold insF
  simp only [hf, hl, Bool.false_eq_true, if_false]
  rw [hu]
theorem settle_small {n : Nd} (h4 : n.keys.length ≤ 4) : settleF l h n = ((rput l h n).1, none) := by unfold settleF; rw [if_pos h4]
theorem settle_big {n : Nd} (h4 : ¬ n.keys.length ≤ 4) : settleF l h n =
    ((rmake (rput l h ⟨n.leaf, n.keys.take 2, if n.leaf then [] else n.kids.take 3, n.vals.take 2⟩).1 ⟨n.leaf, n.keys.drop 3, if n.leaf then [] else n.kids.drop 3, n.vals.drop 3⟩).1,
      some (⟨n.keys.getD 2 default, n.vals.getD 2 0⟩, (rmake (rput l h ⟨n.leaf, n.keys.take 2, if n.leaf then [] else n.kids.take 3, n.vals.take 2⟩).1 ⟨n.leaf, n.keys.drop 3, if n.leaf then [] else n.kids.drop 3, n.vals.drop 3⟩).2)) := by unfold settleF; rw [if_neg h4]
end
end Tp
set_option maxRecDepth 100000
namespace Go.Proofs
open Go Tp
theorem Try.en46 : Enters Try.prog 46 := fun _ _ => by kernel_rfl
theorem Try.en84 : Enters Try.prog 84 := fun _ _ => by kernel_rfl
theorem tr_settle {G X : Nat → Prop} {w : World} (tb ab : Nat) (r : Handle) (fu : Bool) (ln : Int) (l : List RPlace) (S : Nat → Prop) (h : Handle) (kv : Value) (dv : Value) (vv : Value) (n : Nd)  (hA : SmallA l) (hvl : n.vals.length = n.keys.length) (hkd : n.leaf = false → n.kids.length = n.keys.length + 1) (hkn : n.keys.length ≤ 1000) (hdn : n.kids.length ≤ 1000) (hvn : n.vals.length ≤ 1000) (M : Mem G X w [arenaC 143 145 S ab l] [bF tb #[(vP ab), (vI r.at_), (vI r.turn), (vB fu), (vI ln)] 94, fS kv n.keys, fH dv n.kids, fI vv n.vals] w) : Rets Try.prog 88 #[(vP tb), (Value.agg #[(vI h.at_), (vI h.turn)]), (Value.agg #[(vB n.leaf), kv, dv, vv])] w fun r w' => ∃ (u' : Value) (S' : Nat → Prop), r = u' ∧ Mem G X w [arenaC 143 145 S' ab ((settleF l h n).1), upC 104 u' ((settleF l h n).2)] [] w' := by
 refine Rets.enter 67 _ Try.func88 rfl Try.ntmps88 Try.results88 (by simp) ?_
 have hle1 := SlAt.le' (M.rep 1 rfl)
 have hle2 := SlAt.le' (M.rep 2 rfl)
 have hle3 := SlAt.le' (M.rep 3 rfl)
 have sl4 : IsSl kv := SlAt.isSl (Mem.rep M 1 rfl)
 have sl5 : IsSl dv := SlAt.isSl (Mem.rep M 2 rfl)
 have sl6 : IsSl vv := SlAt.isSl (Mem.rep M 3 rfl)
 refine wR ?_
 refine WL.box (v := (Value.agg #[(vI h.at_), (vI h.turn)])) (c := #[(vI h.at_), (vI h.turn)]) M rfl rfl rfl (fun b7 w8 hb7 M => ?_)
 refine WL.box (v := (Value.agg #[(vB n.leaf), kv, dv, vv])) (c := #[(vB n.leaf), kv, dv, vv]) M rfl rfl rfl (fun b9 w10 hb9 M => ?_)
 refine wA vN (WL.nil (W.seq' (wR (wP (Value.pointer (some ⟨b9, 1, none⟩)) (wS kv rfl (Step.load1 Try.sc22 rfl ((M.cell 0 rfl 1).trans rfl)) (wS (vI ↑n.keys.length) rfl (Step.lenSl Try.un22 rfl (M.rep 1 rfl)) (wP (vB (decide ((↑n.keys.length : Int) ≤ (4 : Int)))) (WL.nil ?_))))))))
 refine W.cond (t := decide ((↑n.keys.length : Int) ≤ (4 : Int))) rfl (fun h11 => ?_) (fun h11 => ?_)
 ·
  have h11p := dT h11
  refine wR (wM (vP tb) (wS (Value.agg #[(vI h.at_), (vI h.turn)]) rfl (Step.loadN Try.ag92 rfl (M.blk 1 rfl) (nL rfl) rfl) (wS (Value.agg #[(vB n.leaf), kv, dv, vv]) rfl (Step.loadN Try.ag99 rfl (M.blk 0 rfl) (nL rfl) rfl) ?_)))
  have fq := M.frm [arenaC 143 145 S ab l] [bk b9 #[(vB n.leaf), kv, dv, vv] 99, bk b7 #[(vI h.at_), (vI h.turn)] 92] [2, 0, 1] rfl
  refine WL.callX rfl (tr_put tb ab r fu ln l S h kv dv vv n (by assumption) (by omega) (by omega) (by omega) (M.eF fq ⟨(M.rF fq 0 rfl), (M.rF fq 1 rfl), (M.rF fq 2 rfl), (M.rF fq 3 rfl), trivial⟩)) (CallsF.func Try.en84 rfl) ?_
  rintro _ w13 ⟨S12, rfl, m⟩
  replace M := M.lF fq m
  clear m
  refine WL.nil (wR (wA vN (WL.nil ?_)))
  refine W.ret ?_
  refine ⟨.inl rfl, vN, ?_, ?_⟩
  · exact ⟨rfl, (Res.r1 (show RV _ _ _ (.tmp 6) vN from by exact rfl))⟩
  replace M := M.mkNone (e := 104) (o := (settleF l h n).2) (by rw [settle_small (by omega)])
  have e14 : (settleF l h n).1 = (rput l h n).1 := by
   rw [settle_small (by omega)]
  replace M := M.rechunk 1 (c' := arenaC 143 145 S12 ab ((settleF l h n).1)) rfl (congrArg (fun z => arenaC 143 145 S12 ab z) e14.symm)
  refine ⟨vN, S12, ?_, M.close [1, 0] rfl (by decide) trivial⟩
  rfl
 ·
  have h11p := dF h11
  refine W.skip (W.seq' ?_)
  have hsh15 := SlAt.shp (M.rep 1 rfl)
  have hsh15c := hsh15
  obtain ⟨_, _, hsh15l, hsh15m⟩ := hsh15c
  have hsh16 := SlAt.shp (M.rep 3 rfl)
  have hsh16c := hsh16
  obtain ⟨_, _, hsh16l, hsh16m⟩ := hsh16c
  refine W.drawn M [0, 1, 2, 3, 4, 5, 6, 7, 8, 9, 10] [10] [9] _ _ (sY (sY (sY sE))) (fun _ h => h) Try.mixed (by kernel_rfl) ?_
  refine tQ (vP b9) rfl (tR (vB n.leaf) rfl (fun A w M => (Step.load1 Try.sc4 rfl ((M.cell 1 rfl 0).trans rfl))) (tQ (Value.pointer (some ⟨b9, 1, none⟩)) rfl (tR kv rfl (fun A w M => (Step.load1 Try.sc22 rfl ((M.cell 1 rfl 1).trans rfl))) (tP (vSlice 1 3 n.keys.length (vCap kv) kv) rfl (fun w => (Step.sliceFromP (l := 3) Try.un22 Try.el9.sized rfl rfl rfl hsh15 (by omega))) (tQ (Value.pointer (some ⟨b9, 3, none⟩)) rfl (tR vv rfl (fun A w M => (Step.load1 Try.sc97 rfl ((M.cell 1 rfl 3).trans rfl))) (tP (vSlice 1 3 n.vals.length (vCap vv) vv) rfl (fun w => (Step.sliceFromP (l := 3) Try.un97 Try.el3.sized rfl rfl rfl hsh16 (by omega))) (tP (Value.agg #[(vB n.leaf), (vSlice 1 3 n.keys.length (vCap kv) kv), vZ, (vSlice 1 3 n.vals.length (vCap vv) vv)]) rfl (fun w => (by obtain ⟨_, _, _, e⟩ := (vSlice_sl (Shp.isSl hsh15)); rw [e]; obtain ⟨_, _, _, e⟩ := (vSlice_sl (Shp.isSl hsh16)); rw [e]; exact sP)) ?_))))))))
  refine TW.new (obj := .cells #[(vB false), vZ, vZ, vZ] 99) (fun b => .pointer (some ⟨b, 0, none⟩)) rfl (by decide) (by decide) rfl (fun w => Step.alloc Try.el99.zero) (fun b23 => ?_)
  refine TW.store (v := (Value.agg #[(vB n.leaf), (vSlice 1 3 n.keys.length (vCap kv) kv), vZ, (vSlice 1 3 n.vals.length (vCap vv) vv)])) (cs := [(vB n.leaf), (vSlice 1 3 n.keys.length (vCap kv) kv), vZ, (vSlice 1 3 n.vals.length (vCap vv) vv)]) (c' := #[(vB n.leaf), (vSlice 1 3 n.keys.length (vCap kv) kv), vZ, (vSlice 1 3 n.vals.length (vCap vv) vv)]) 0 rfl rfl (by decide) rfl Try.el99.sized rfl rfl rfl rfl (nL rfl) (cC rfl (cC (IsSl.cel (vSlice_sl (Shp.isSl hsh15))) (cC rfl (cC (IsSl.cel (vSlice_sl (Shp.isSl hsh16))) cel_nil)))) rfl rfl (sN (sY (sY (sY sE)))) (fun r h => h) ?_
  refine TW.done (fun w24 M => ?_)
  refine W.seq' ?_
  refine W.drawn M [0, 1, 2, 3, 4, 5, 6, 7, 8, 9, 10] [10] [9] _ _ (sY (sY (sY (sY sE)))) (fun _ h => h) Try.mixed (by kernel_rfl) ?_
  refine tQ (vP b9) rfl (tR (vB n.leaf) rfl (fun A w M => (Step.load1 Try.sc4 rfl ((M.cell 2 rfl 0).trans rfl))) (tQ (Value.pointer (some ⟨b9, 1, none⟩)) rfl (tR kv rfl (fun A w M => (Step.load1 Try.sc22 rfl ((M.cell 2 rfl 1).trans rfl))) (tP (vTake 2 kv) rfl (fun w => (Step.sliceToP (h := 2) Try.un22 Try.el9.sized rfl rfl rfl hsh15 (by obtain ⟨_, _, _, _⟩ := hsh15; omega))) (tQ (Value.pointer (some ⟨b9, 3, none⟩)) rfl (tR vv rfl (fun A w M => (Step.load1 Try.sc97 rfl ((M.cell 2 rfl 3).trans rfl))) (tP (vTake 2 vv) rfl (fun w => (Step.sliceToP (h := 2) Try.un97 Try.el3.sized rfl rfl rfl hsh16 (by obtain ⟨_, _, _, _⟩ := hsh16; omega))) (tP (Value.agg #[(vB n.leaf), (vTake 2 kv), vZ, (vTake 2 vv)]) rfl (fun w => (by obtain ⟨_, _, _, e⟩ := (Shp.isSl (Shp.take hsh15 (k := 2) (by obtain ⟨_, _, _, _⟩ := hsh15; omega))); rw [e]; obtain ⟨_, _, _, e⟩ := (Shp.isSl (Shp.take hsh16 (k := 2) (by obtain ⟨_, _, _, _⟩ := hsh16; omega))); rw [e]; exact sP)) ?_))))))))
  refine TW.new (obj := .cells #[(vB false), vZ, vZ, vZ] 99) (fun b => .pointer (some ⟨b, 0, none⟩)) rfl (by decide) (by decide) rfl (fun w => Step.alloc Try.el99.zero) (fun b31 => ?_)
  refine TW.store (v := (Value.agg #[(vB n.leaf), (vTake 2 kv), vZ, (vTake 2 vv)])) (cs := [(vB n.leaf), (vTake 2 kv), vZ, (vTake 2 vv)]) (c' := #[(vB n.leaf), (vTake 2 kv), vZ, (vTake 2 vv)]) 0 rfl rfl (by decide) rfl Try.el99.sized rfl rfl rfl rfl (nL rfl) (cC rfl (cC (IsSl.cel (Shp.isSl (Shp.take hsh15 (k := 2) (by obtain ⟨_, _, _, _⟩ := hsh15; omega)))) (cC rfl (cC (IsSl.cel (Shp.isSl (Shp.take hsh16 (k := 2) (by obtain ⟨_, _, _, _⟩ := hsh16; omega)))) cel_nil)))) rfl rfl (sN (sY (sY (sY (sY sE))))) (fun r h => h) ?_
  refine TW.done (fun w32 M => ?_)
  refine W.seq' (wR (wP (vP b9) (wS (vB n.leaf) rfl (Step.load1 Try.sc4 rfl ((M.cell 2 rfl 0).trans rfl)) (wP (vB !n.leaf) (WL.nil ?_)))))
  refine W.cond (t := !n.leaf) rfl (fun h33 => ?_) (fun h33 => ?_)
  ·
   have hlf_ : n.leaf = false := by simpa using h33
   have hkd_ := hkd hlf_
   have hsh34 := SlAt.shp (M.rep 2 rfl)
   have hsh34c := hsh34
   obtain ⟨_, _, hsh34l, hsh34m⟩ := hsh34c
   refine W.drawn M [0, 1, 2, 3, 4, 5, 6, 7, 8, 9] [7, 9] [] _ _ (sN (sN (sY (sY (sY sE))))) (fun _ h => h) Try.mixed (by kernel_rfl) ?_
   refine tQ (Value.pointer (some ⟨b9, 2, none⟩)) rfl (tR dv rfl (fun A w M => (Step.load1 Try.sc96 rfl ((M.cell 1 rfl 2).trans rfl))) (tP (vTake 3 dv) rfl (fun w => (Step.sliceToP (h := 3) Try.un96 Try.el92.sized rfl rfl rfl hsh34 (by obtain ⟨_, _, _, _⟩ := hsh34; omega))) (tQ (Value.pointer (some ⟨b9, 2, none⟩)) rfl (tR dv rfl (fun A w M => (Step.load1 Try.sc96 rfl ((M.cell 1 rfl 2).trans rfl))) (tP (vSlice 2 3 n.kids.length (vCap dv) dv) rfl (fun w => (Step.sliceFromP (l := 3) Try.un96 Try.el92.sized rfl rfl rfl hsh34 (by omega))) (tQ (Value.pointer (some ⟨b31, 2, none⟩)) rfl ?_))))))
   refine TW.store (v := (vTake 3 dv)) (cs := [(vTake 3 dv)]) (c' := #[(vB n.leaf), (vTake 2 kv), (vTake 3 dv), (vTake 2 vv)]) 0 rfl rfl (by decide) rfl Try.el96.sized rfl rfl (IsSl.list (Shp.isSl (Shp.take hsh34 (k := 3) (by obtain ⟨_, _, _, _⟩ := hsh34; omega)))) rfl (nL rfl) (cC (IsSl.cel (Shp.isSl (Shp.take hsh34 (k := 3) (by obtain ⟨_, _, _, _⟩ := hsh34; omega)))) cel_nil) rfl rfl (sN (sN (sY (sY (sY sE))))) (fun r h => h) ?_
   refine tQ (Value.pointer (some ⟨b23, 2, none⟩)) rfl ?_
   refine TW.store (v := (vSlice 2 3 n.kids.length (vCap dv) dv)) (cs := [(vSlice 2 3 n.kids.length (vCap dv) dv)]) (c' := #[(vB n.leaf), (vSlice 1 3 n.keys.length (vCap kv) kv), (vSlice 2 3 n.kids.length (vCap dv) dv), (vSlice 1 3 n.vals.length (vCap vv) vv)]) 1 rfl rfl (by decide) rfl Try.el96.sized rfl rfl (IsSl.list (vSlice_sl (Shp.isSl hsh34))) rfl (nL rfl) (cC (IsSl.cel (vSlice_sl (Shp.isSl hsh34))) cel_nil) rfl rfl (sN (sN (sY (sY (sY sE))))) (fun r h => h) ?_
   refine TW.done (fun w39 M => ?_)
   refine wR (wM (vP tb) (wS (Value.agg #[(vI h.at_), (vI h.turn)]) rfl (Step.loadN Try.ag92 rfl (M.blk 3 rfl) (nL rfl) rfl) (wS (Value.agg #[(vB n.leaf), (vTake 2 kv), (vTake 3 dv), (vTake 2 vv)]) rfl (Step.loadN Try.ag99 rfl (M.blk 0 rfl) (nL rfl) rfl) ?_)))
   have fq := M.frm [arenaC 143 145 S ab l] [bk b31 #[(vB n.leaf), (vTake 2 kv), (vTake 3 dv), (vTake 2 vv)] 99, bk b23 #[(vB n.leaf), (vSlice 1 3 n.keys.length (vCap kv) kv), (vSlice 2 3 n.kids.length (vCap dv) dv), (vSlice 1 3 n.vals.length (vCap vv) vv)] 99, bk b9 #[(vB n.leaf), kv, dv, vv] 99, bk b7 #[(vI h.at_), (vI h.turn)] 92] [4, 0, 1, 2, 3] rfl
   refine WL.callX rfl (tr_put tb ab r fu ln l S h (vTake 2 kv) (vTake 3 dv) (vTake 2 vv) (⟨n.leaf, n.keys.take 2, n.kids.take 3, n.vals.take 2⟩ : Nd) (by assumption) (by simp [insL] <;> omega) (by simp [insL] <;> omega) (by simp [insL] <;> omega) (M.eF fq ⟨(M.rF fq 0 rfl), (((M.rF fq 1 rfl)).imp fun _ h => slat_take strE_len h (by omega)), (((M.rF fq 2 rfl)).imp fun _ h => slat_take handleE_len h (by omega)), (((M.rF fq 3 rfl)).imp fun _ h => slat_take intE_len h (by omega)), trivial⟩)) (CallsF.func Try.en84 rfl) ?_
   rintro _ w41 ⟨S40, rfl, m⟩
   replace M := M.lF fq m
   clear m
   refine WL.nil (W.seq' ?_)
   replace M := M.loseI 4
   replace M := M.loseI 1
   obtain ⟨cap43, hb42⟩ := SlAt.base (M.rep 1 rfl) (by omega)
   obtain ⟨x44, hx44⟩ := elem_of_lt (xs := n.keys) (i := 2) (by omega)
   obtain ⟨cap46, hb45⟩ := SlAt.base (M.rep 3 rfl) (by omega)
   obtain ⟨x47, hx47⟩ := elem_of_lt (xs := n.vals) (i := 2) (by omega)
   refine W.drawn M [0, 1, 2, 3, 4, 5, 6, 7, 8, 9, 10, 11, 12, 13, 14, 15, 16, 17] [14] [16] _ _ (sN (sY (sY sE))) (fun _ h => h) Try.mixed (by kernel_rfl) ?_
   refine tQ (Value.pointer (some ⟨b9, 1, none⟩)) rfl (tR kv rfl (fun A w M => (Step.load1 Try.sc22 rfl ((M.cell 2 rfl 1).trans rfl))) (tP (vQ kv 2 1) rfl (fun w => (sX 2 Try.un22 Try.el9 rfl rfl hb42 rfl)) (tR (vS x44) rfl (fun A w M => (Step.loadE (k := 0) Try.sc9 (flat_ec (M.rep 1 rfl) hx44 strE_len) (by decide) rfl rfl)) (tQ (Value.pointer (some ⟨b9, 3, none⟩)) rfl (tR vv rfl (fun A w M => (Step.load1 Try.sc97 rfl ((M.cell 2 rfl 3).trans rfl))) (tP (vQ vv 2 1) rfl (fun w => (sX 2 Try.un97 Try.el3 rfl rfl hb45 rfl)) (tR (vI x47) rfl (fun A w M => (Step.loadE (k := 0) Try.sc3 (flat_ec (M.rep 3 rfl) hx47 intE_len) (by decide) rfl rfl)) (tQ (Value.agg #[(vS x44), (vI x47)]) rfl (tM (vP tb) rfl (tQ (vP tb) rfl (tQ (vP tb) rfl (tR (vP ab) rfl (fun A w M => (Step.load1 Try.sc90 rfl ((cell_blk (M.rep 0 rfl) 0).trans rfl))) (tR (Value.agg #[(vB n.leaf), (vSlice 1 3 n.keys.length (vCap kv) kv), (vSlice 2 3 n.kids.length (vCap dv) dv), (vSlice 1 3 n.vals.length (vCap vv) vv)]) rfl (fun A w M => (Step.loadN Try.ag99 rfl (M.blk 1 rfl) (nL rfl) rfl)) ?_)))))))))))))
   let Q : List Chunk := [bk b23 #[(vB n.leaf), (vSlice 1 3 n.keys.length (vCap kv) kv), (vSlice 2 3 n.kids.length (vCap dv) dv), (vSlice 1 3 n.vals.length (vCap vv) vv)] 99, bk b9 #[(vB n.leaf), kv, dv, vv] 99]
   refine TW.callX (ι := (Nat → Prop)) (fun jx v_ => v_ = (Value.agg #[(vI (((rmake ((rput l h (⟨n.leaf, n.keys.take 2, n.kids.take 3, n.vals.take 2⟩ : Nd)).1) (⟨n.leaf, (n.keys.drop 3).take (n.keys.length - 3), (n.kids.drop 3).take (n.kids.length - 3), (n.vals.drop 3).take (n.vals.length - 3)⟩ : Nd)).2).at_)), (vI (((rmake ((rput l h (⟨n.leaf, n.keys.take 2, n.kids.take 3, n.vals.take 2⟩ : Nd)).1) (⟨n.leaf, (n.keys.drop 3).take (n.keys.length - 3), (n.kids.drop 3).take (n.kids.length - 3), (n.vals.drop 3).take (n.vals.length - 3)⟩ : Nd)).2).turn))])) (fun jx => arenaC 143 145 jx ab ((rmake ((rput l h (⟨n.leaf, n.keys.take 2, n.kids.take 3, n.vals.take 2⟩ : Nd)).1) (⟨n.leaf, (n.keys.drop 3).take (n.keys.length - 3), (n.kids.drop 3).take (n.kids.length - 3), (n.vals.drop 3).take (n.vals.length - 3)⟩ : Nd)).1) :: Q) (fun jx => [bF tb #[(vP ab), (vI r.at_), (vI r.turn), (vB fu), (vI ln)] 94, fS kv n.keys, fH dv n.kids, fI vv n.vals]) rfl (by decide) rfl (fun jx => (sN (sY (sY sE)))) (fun jx r h => h) (fun A w M => have fq := M.frm [arenaC 143 145 S40 ab ((rput l h (⟨n.leaf, n.keys.take 2, n.kids.take 3, n.vals.take 2⟩ : Nd)).1)] (fl A :: Q) [1, 0, 2, 3] rfl; Rets.mono (ar_make ab ((rput l h (⟨n.leaf, n.keys.take 2, n.kids.take 3, n.vals.take 2⟩ : Nd)).1) S40 (vSlice 1 3 n.keys.length (vCap kv) kv) (vSlice 2 3 n.kids.length (vCap dv) dv) (vSlice 1 3 n.vals.length (vCap vv) vv) (⟨n.leaf, (n.keys.drop 3).take (n.keys.length - 3), (n.kids.drop 3).take (n.kids.length - 3), (n.vals.drop 3).take (n.vals.length - 3)⟩ : Nd) (by first | assumption | exact SmallA.put (by assumption) (by first | omega | (simp [insL] <;> omega)) (by first | omega | (simp [insL] <;> omega)) (by first | omega | (simp [insL] <;> omega))) (by simp [insL] <;> omega) (by simp [insL] <;> omega) (by simp [insL] <;> omega) (M.eF fq ⟨(((M.rF fq 1 rfl)).imp fun _ h => slat_sliceF strE_len (l := 3) (h := n.keys.length) h (by omega) (by omega) (Nat.le_trans (by omega) (SlAt.cap h).1) (Nat.le_refl _)), (((M.rF fq 2 rfl)).imp fun _ h => slat_sliceF handleE_len (l := 3) (h := n.kids.length) h (by omega) (by omega) (Nat.le_trans (by omega) (SlAt.cap h).1) (Nat.le_refl _)), (((M.rF fq 3 rfl)).imp fun _ h => slat_sliceF intE_len (l := 3) (h := n.vals.length) h (by omega) (by omega) (Nat.le_trans (by omega) (SlAt.cap h).1) (Nat.le_refl _)), trivial⟩)) (fun v_ w_ ⟨S54, e_, m⟩ => ⟨S54, e_, (M.lF fq m).sel [1, 0, 2, 3] rfl (by decide), fun b hb => M.kF fq m b hb⟩)) (fun w => CallsF.func Try.en46 rfl) (fun S54 v hp hin => ?_)
   replace hp := hp.symm; subst hp
   obtain ⟨_, _, hin⟩ := hin
   clear hin
   refine tQ (Value.agg #[(vS x44), (vI x47), (vI (((rmake ((rput l h (⟨n.leaf, n.keys.take 2, n.kids.take 3, n.vals.take 2⟩ : Nd)).1) (⟨n.leaf, (n.keys.drop 3).take (n.keys.length - 3), (n.kids.drop 3).take (n.kids.length - 3), (n.vals.drop 3).take (n.vals.length - 3)⟩ : Nd)).2).at_)), (vI (((rmake ((rput l h (⟨n.leaf, n.keys.take 2, n.kids.take 3, n.vals.take 2⟩ : Nd)).1) (⟨n.leaf, (n.keys.drop 3).take (n.keys.length - 3), (n.kids.drop 3).take (n.kids.length - 3), (n.vals.drop 3).take (n.vals.length - 3)⟩ : Nd)).2).turn))]) rfl ?_
   refine TW.new (obj := .cells #[(vS x44), (vI x47), (vI (((rmake ((rput l h (⟨n.leaf, n.keys.take 2, n.kids.take 3, n.vals.take 2⟩ : Nd)).1) (⟨n.leaf, (n.keys.drop 3).take (n.keys.length - 3), (n.kids.drop 3).take (n.kids.length - 3), (n.vals.drop 3).take (n.vals.length - 3)⟩ : Nd)).2).at_)), (vI (((rmake ((rput l h (⟨n.leaf, n.keys.take 2, n.kids.take 3, n.vals.take 2⟩ : Nd)).1) (⟨n.leaf, (n.keys.drop 3).take (n.keys.length - 3), (n.kids.drop 3).take (n.kids.length - 3), (n.vals.drop 3).take (n.vals.length - 3)⟩ : Nd)).2).turn))] 104) (fun b => .pointer (some ⟨b, 0, none⟩)) rfl (by decide) (by decide) rfl (fun w => Step.box (v := (Value.agg #[(vS x44), (vI x47), (vI (((rmake ((rput l h (⟨n.leaf, n.keys.take 2, n.kids.take 3, n.vals.take 2⟩ : Nd)).1) (⟨n.leaf, (n.keys.drop 3).take (n.keys.length - 3), (n.kids.drop 3).take (n.kids.length - 3), (n.vals.drop 3).take (n.vals.length - 3)⟩ : Nd)).2).at_)), (vI (((rmake ((rput l h (⟨n.leaf, n.keys.take 2, n.kids.take 3, n.vals.take 2⟩ : Nd)).1) (⟨n.leaf, (n.keys.drop 3).take (n.keys.length - 3), (n.kids.drop 3).take (n.kids.length - 3), (n.vals.drop 3).take (n.vals.length - 3)⟩ : Nd)).2).turn))])) rfl) (fun b55 => ?_)
   refine tP (vP b55) rfl (fun w => (Step.assign rfl)) ?_
   refine TW.done (fun w56 M => ?_)
   refine W.ret ?_
   refine ⟨.inl rfl, (vP b55), ?_, ?_⟩
   · exact ⟨rfl, (Res.r1 (show RV _ _ _ (.tmp 6) (vP b55) from by exact rfl))⟩
   replace M := M.mkSome (o := (settleF l h n).2) (u := ((⟨x44, x47⟩ : THit), ((rmake ((rput l h (⟨n.leaf, n.keys.take 2, n.kids.take 3, n.vals.take 2⟩ : Nd)).1) (⟨n.leaf, (n.keys.drop 3).take (n.keys.length - 3), (n.kids.drop 3).take (n.kids.length - 3), (n.vals.drop 3).take (n.vals.length - 3)⟩ : Nd)).2))) 0 rfl (by rw [settle_big (by omega)]; simp [hlf_, drop_rest, h11p, h33, hx44, hx47]) rfl
   have e57 : (settleF l h n).1 = (rmake ((rput l h (⟨n.leaf, n.keys.take 2, n.kids.take 3, n.vals.take 2⟩ : Nd)).1) (⟨n.leaf, (n.keys.drop 3).take (n.keys.length - 3), (n.kids.drop 3).take (n.kids.length - 3), (n.vals.drop 3).take (n.vals.length - 3)⟩ : Nd)).1 := by
    rw [settle_big (by omega)]
    simp [hlf_, drop_rest, h11p, h33, hx44, hx47]
   replace M := M.rechunk 1 (c' := arenaC 143 145 S54 ab ((settleF l h n).1)) rfl (congrArg (fun z => arenaC 143 145 S54 ab z) e57.symm)
   refine ⟨(vP b55), S54, ?_, M.close [1, 0] rfl (by decide) trivial⟩
   rfl
  ·
   have hlf_ : n.leaf = true := by simpa using h33
   refine W.skip (wR (wM (vP tb) (wS (Value.agg #[(vI h.at_), (vI h.turn)]) rfl (Step.loadN Try.ag92 rfl (M.blk 3 rfl) (nL rfl) rfl) (wS (Value.agg #[(vB n.leaf), (vTake 2 kv), vZ, (vTake 2 vv)]) rfl (Step.loadN Try.ag99 rfl (M.blk 0 rfl) (nL rfl) rfl) ?_))))
   have fq := M.frm [arenaC 143 145 S ab l] [bk b31 #[(vB n.leaf), (vTake 2 kv), vZ, (vTake 2 vv)] 99, bk b23 #[(vB n.leaf), (vSlice 1 3 n.keys.length (vCap kv) kv), vZ, (vSlice 1 3 n.vals.length (vCap vv) vv)] 99, bk b9 #[(vB n.leaf), kv, dv, vv] 99, bk b7 #[(vI h.at_), (vI h.turn)] 92] [4, 0, 1, 2, 3] rfl
   refine WL.callX rfl (tr_put tb ab r fu ln l S h (vTake 2 kv) vZ (vTake 2 vv) (⟨n.leaf, n.keys.take 2, ([] : List Handle), n.vals.take 2⟩ : Nd) (by assumption) (by simp [insL] <;> omega) (by simp [insL] <;> omega) (by simp [insL] <;> omega) (M.eF fq ⟨(M.rF fq 0 rfl), (((M.rF fq 1 rfl)).imp fun _ h => slat_take strE_len h (by omega)), (Sh.pure fun w => SlAt.nil 2 w), (((M.rF fq 3 rfl)).imp fun _ h => slat_take intE_len h (by omega)), trivial⟩)) (CallsF.func Try.en84 rfl) ?_
   rintro _ w59 ⟨S58, rfl, m⟩
   replace M := M.lF fq m
   clear m
   refine WL.nil (W.seq' ?_)
   replace M := M.loseI 4
   replace M := M.loseI 1
   obtain ⟨cap61, hb60⟩ := SlAt.base (M.rep 1 rfl) (by omega)
   obtain ⟨x62, hx62⟩ := elem_of_lt (xs := n.keys) (i := 2) (by omega)
   obtain ⟨cap64, hb63⟩ := SlAt.base (M.rep 3 rfl) (by omega)
   obtain ⟨x65, hx65⟩ := elem_of_lt (xs := n.vals) (i := 2) (by omega)
   refine W.drawn M [0, 1, 2, 3, 4, 5, 6, 7, 8, 9, 10, 11, 12, 13, 14, 15, 16, 17] [14] [16] _ _ (sN (sY (sY sE))) (fun _ h => h) Try.mixed (by kernel_rfl) ?_
   refine tQ (Value.pointer (some ⟨b9, 1, none⟩)) rfl (tR kv rfl (fun A w M => (Step.load1 Try.sc22 rfl ((M.cell 2 rfl 1).trans rfl))) (tP (vQ kv 2 1) rfl (fun w => (sX 2 Try.un22 Try.el9 rfl rfl hb60 rfl)) (tR (vS x62) rfl (fun A w M => (Step.loadE (k := 0) Try.sc9 (flat_ec (M.rep 1 rfl) hx62 strE_len) (by decide) rfl rfl)) (tQ (Value.pointer (some ⟨b9, 3, none⟩)) rfl (tR vv rfl (fun A w M => (Step.load1 Try.sc97 rfl ((M.cell 2 rfl 3).trans rfl))) (tP (vQ vv 2 1) rfl (fun w => (sX 2 Try.un97 Try.el3 rfl rfl hb63 rfl)) (tR (vI x65) rfl (fun A w M => (Step.loadE (k := 0) Try.sc3 (flat_ec (M.rep 3 rfl) hx65 intE_len) (by decide) rfl rfl)) (tQ (Value.agg #[(vS x62), (vI x65)]) rfl (tM (vP tb) rfl (tQ (vP tb) rfl (tQ (vP tb) rfl (tR (vP ab) rfl (fun A w M => (Step.load1 Try.sc90 rfl ((cell_blk (M.rep 0 rfl) 0).trans rfl))) (tR (Value.agg #[(vB n.leaf), (vSlice 1 3 n.keys.length (vCap kv) kv), vZ, (vSlice 1 3 n.vals.length (vCap vv) vv)]) rfl (fun A w M => (Step.loadN Try.ag99 rfl (M.blk 1 rfl) (nL rfl) rfl)) ?_)))))))))))))
   let Q : List Chunk := [bk b23 #[(vB n.leaf), (vSlice 1 3 n.keys.length (vCap kv) kv), vZ, (vSlice 1 3 n.vals.length (vCap vv) vv)] 99, bk b9 #[(vB n.leaf), kv, dv, vv] 99]
   refine TW.callX (ι := (Nat → Prop)) (fun jx v_ => v_ = (Value.agg #[(vI (((rmake ((rput l h (⟨n.leaf, n.keys.take 2, ([] : List Handle), n.vals.take 2⟩ : Nd)).1) (⟨n.leaf, (n.keys.drop 3).take (n.keys.length - 3), ([] : List Handle), (n.vals.drop 3).take (n.vals.length - 3)⟩ : Nd)).2).at_)), (vI (((rmake ((rput l h (⟨n.leaf, n.keys.take 2, ([] : List Handle), n.vals.take 2⟩ : Nd)).1) (⟨n.leaf, (n.keys.drop 3).take (n.keys.length - 3), ([] : List Handle), (n.vals.drop 3).take (n.vals.length - 3)⟩ : Nd)).2).turn))])) (fun jx => arenaC 143 145 jx ab ((rmake ((rput l h (⟨n.leaf, n.keys.take 2, ([] : List Handle), n.vals.take 2⟩ : Nd)).1) (⟨n.leaf, (n.keys.drop 3).take (n.keys.length - 3), ([] : List Handle), (n.vals.drop 3).take (n.vals.length - 3)⟩ : Nd)).1) :: Q) (fun jx => [bF tb #[(vP ab), (vI r.at_), (vI r.turn), (vB fu), (vI ln)] 94, fS kv n.keys, fH dv n.kids, fI vv n.vals]) rfl (by decide) rfl (fun jx => (sN (sY (sY sE)))) (fun jx r h => h) (fun A w M => have fq := M.frm [arenaC 143 145 S58 ab ((rput l h (⟨n.leaf, n.keys.take 2, ([] : List Handle), n.vals.take 2⟩ : Nd)).1)] (fl A :: Q) [1, 0, 2, 3] rfl; Rets.mono (ar_make ab ((rput l h (⟨n.leaf, n.keys.take 2, ([] : List Handle), n.vals.take 2⟩ : Nd)).1) S58 (vSlice 1 3 n.keys.length (vCap kv) kv) vZ (vSlice 1 3 n.vals.length (vCap vv) vv) (⟨n.leaf, (n.keys.drop 3).take (n.keys.length - 3), ([] : List Handle), (n.vals.drop 3).take (n.vals.length - 3)⟩ : Nd) (by first | assumption | exact SmallA.put (by assumption) (by first | omega | (simp [insL] <;> omega)) (by first | omega | (simp [insL] <;> omega)) (by first | omega | (simp [insL] <;> omega))) (by simp [insL] <;> omega) (by simp [insL] <;> omega) (by simp [insL] <;> omega) (M.eF fq ⟨(((M.rF fq 1 rfl)).imp fun _ h => slat_sliceF strE_len (l := 3) (h := n.keys.length) h (by omega) (by omega) (Nat.le_trans (by omega) (SlAt.cap h).1) (Nat.le_refl _)), (Sh.pure fun w => SlAt.nil 2 w), (((M.rF fq 3 rfl)).imp fun _ h => slat_sliceF intE_len (l := 3) (h := n.vals.length) h (by omega) (by omega) (Nat.le_trans (by omega) (SlAt.cap h).1) (Nat.le_refl _)), trivial⟩)) (fun v_ w_ ⟨S72, e_, m⟩ => ⟨S72, e_, (M.lF fq m).sel [1, 0, 2, 3] rfl (by decide), fun b hb => M.kF fq m b hb⟩)) (fun w => CallsF.func Try.en46 rfl) (fun S72 v hp hin => ?_)
   replace hp := hp.symm; subst hp
   obtain ⟨_, _, hin⟩ := hin
   clear hin
   refine tQ (Value.agg #[(vS x62), (vI x65), (vI (((rmake ((rput l h (⟨n.leaf, n.keys.take 2, ([] : List Handle), n.vals.take 2⟩ : Nd)).1) (⟨n.leaf, (n.keys.drop 3).take (n.keys.length - 3), ([] : List Handle), (n.vals.drop 3).take (n.vals.length - 3)⟩ : Nd)).2).at_)), (vI (((rmake ((rput l h (⟨n.leaf, n.keys.take 2, ([] : List Handle), n.vals.take 2⟩ : Nd)).1) (⟨n.leaf, (n.keys.drop 3).take (n.keys.length - 3), ([] : List Handle), (n.vals.drop 3).take (n.vals.length - 3)⟩ : Nd)).2).turn))]) rfl ?_
   refine TW.new (obj := .cells #[(vS x62), (vI x65), (vI (((rmake ((rput l h (⟨n.leaf, n.keys.take 2, ([] : List Handle), n.vals.take 2⟩ : Nd)).1) (⟨n.leaf, (n.keys.drop 3).take (n.keys.length - 3), ([] : List Handle), (n.vals.drop 3).take (n.vals.length - 3)⟩ : Nd)).2).at_)), (vI (((rmake ((rput l h (⟨n.leaf, n.keys.take 2, ([] : List Handle), n.vals.take 2⟩ : Nd)).1) (⟨n.leaf, (n.keys.drop 3).take (n.keys.length - 3), ([] : List Handle), (n.vals.drop 3).take (n.vals.length - 3)⟩ : Nd)).2).turn))] 104) (fun b => .pointer (some ⟨b, 0, none⟩)) rfl (by decide) (by decide) rfl (fun w => Step.box (v := (Value.agg #[(vS x62), (vI x65), (vI (((rmake ((rput l h (⟨n.leaf, n.keys.take 2, ([] : List Handle), n.vals.take 2⟩ : Nd)).1) (⟨n.leaf, (n.keys.drop 3).take (n.keys.length - 3), ([] : List Handle), (n.vals.drop 3).take (n.vals.length - 3)⟩ : Nd)).2).at_)), (vI (((rmake ((rput l h (⟨n.leaf, n.keys.take 2, ([] : List Handle), n.vals.take 2⟩ : Nd)).1) (⟨n.leaf, (n.keys.drop 3).take (n.keys.length - 3), ([] : List Handle), (n.vals.drop 3).take (n.vals.length - 3)⟩ : Nd)).2).turn))])) rfl) (fun b73 => ?_)
   refine tP (vP b73) rfl (fun w => (Step.assign rfl)) ?_
   refine TW.done (fun w74 M => ?_)
   refine W.ret ?_
   refine ⟨.inl rfl, (vP b73), ?_, ?_⟩
   · exact ⟨rfl, (Res.r1 (show RV _ _ _ (.tmp 6) (vP b73) from by exact rfl))⟩
   replace M := M.mkSome (o := (settleF l h n).2) (u := ((⟨x62, x65⟩ : THit), ((rmake ((rput l h (⟨n.leaf, n.keys.take 2, ([] : List Handle), n.vals.take 2⟩ : Nd)).1) (⟨n.leaf, (n.keys.drop 3).take (n.keys.length - 3), ([] : List Handle), (n.vals.drop 3).take (n.vals.length - 3)⟩ : Nd)).2))) 0 rfl (by rw [settle_big (by omega)]; simp [hlf_, drop_rest, h11p, h33, hx62, hx65]) rfl
   have e75 : (settleF l h n).1 = (rmake ((rput l h (⟨n.leaf, n.keys.take 2, ([] : List Handle), n.vals.take 2⟩ : Nd)).1) (⟨n.leaf, (n.keys.drop 3).take (n.keys.length - 3), ([] : List Handle), (n.vals.drop 3).take (n.vals.length - 3)⟩ : Nd)).1 := by
    rw [settle_big (by omega)]
    simp [hlf_, drop_rest, h11p, h33, hx62, hx65]
   replace M := M.rechunk 1 (c' := arenaC 143 145 S72 ab ((settleF l h n).1)) rfl (congrArg (fun z => arenaC 143 145 S72 ab z) e75.symm)
   refine ⟨(vP b73), S72, ?_, M.close [1, 0] rfl (by decide) trivial⟩
   rfl
end Go.Proofs
set_option maxRecDepth 100000
namespace Go.Proofs
open Go Tp
theorem Try.ag41 : Aggr Try.prog 41 2 := ⟨fun _ => by kernel_rfl, fun _ => by kernel_rfl⟩
theorem Try.en47 : Enters Try.prog 47 := fun _ _ => by kernel_rfl
theorem Try.en49 : Enters Try.prog 49 := fun _ _ => by kernel_rfl
theorem Try.en83 : Enters Try.prog 83 := fun _ _ => by kernel_rfl
theorem Try.en85 : Enters Try.prog 85 := fun _ _ => by kernel_rfl
theorem Try.en86 : Enters Try.prog 86 := fun _ _ => by kernel_rfl
theorem Try.en87 : Enters Try.prog 87 := fun _ _ => by kernel_rfl
theorem Try.en88 : Enters Try.prog 88 := fun _ _ => by kernel_rfl
theorem tr_insert : ∀ (d : Nat) {G X : Nat → Prop} {w : World} (tb ab : Nat) (r : Handle) (fu : Bool) (ln : Int) (l : List RPlace) (S : Nat → Prop) (h : Handle) (x : THit)  (hO : insOk d l h x) (M : Mem G X w [arenaC 143 145 S ab l] [bF tb #[(vP ab), (vI r.at_), (vI r.turn), (vB fu), (vI ln)] 94] w), Rets Try.prog 47 #[(vP tb), (Value.agg #[(vI h.at_), (vI h.turn)]), (Value.agg #[(vS x.key), (vI x.val)])] w fun r w' => ∃ (u' : Value) (S' : Nat → Prop), r = (Value.tuple #[(vI ((insF d l h x).2.1.1)), (vB ((insF d l h x).2.1.2)), u']) ∧ Mem G X w [arenaC 143 145 S' ab ((insF d l h x).1), upC 104 u' ((insF d l h x).2.2)] [] w' := by
 intro d
 induction d using Nat.strongRecOn
 rename_i d ih
 intro G X w tb ab r fu ln l S h x hO M
 refine Rets.enter 115 _ Try.func47 rfl Try.ntmps47 Try.results47 (by simp) ?_
 obtain ⟨n, hn⟩ : ∃ n, (rget l h).1 = n := ⟨_, rfl⟩
 obtain ⟨hA, hty, hvl, hup⟩ := insOk_node hO hn
 obtain ⟨ht1, ht2, ht3⟩ := hty
 have hbi_ := bsI_le n.keys x.key
 refine wR ?_
 refine WL.box (v := (Value.agg #[(vI h.at_), (vI h.turn)])) (c := #[(vI h.at_), (vI h.turn)]) M rfl rfl rfl (fun b1 w2 hb1 M => ?_)
 refine WL.box (v := (Value.agg #[(vS x.key), (vI x.val)])) (c := #[(vS x.key), (vI x.val)]) M rfl rfl rfl (fun b3 w4 hb3 M => ?_)
 refine wA (vI 0) (wA (vB false) (wA vN (WL.nil (wR (wM (vP tb) (wS (Value.agg #[(vI h.at_), (vI h.turn)]) rfl (Step.loadN Try.ag92 rfl (M.blk 1 rfl) (nL rfl) rfl) ?_))))))
 have fq := M.frm [arenaC 143 145 S ab l] [bk b3 #[(vS x.key), (vI x.val)] 41, bk b1 #[(vI h.at_), (vI h.turn)] 92] [2, 0, 1] rfl
 refine WL.callX rfl (tr_node tb ab r fu ln l S h (by assumption) n hn (M.eF fq ⟨(M.rF fq 0 rfl), trivial⟩)) (CallsF.func Try.en49 rfl) ?_
 rintro _ w8 ⟨kv5, dv6, vv7, rfl, m⟩
 replace M := M.lF fq m
 clear m
 have sl9 : IsSl kv5 := SlAt.isSl (oW (Mem.chunk M 1 rfl).inv)
 have hle10 := SlAt.le' (oW (Mem.chunk M 1 rfl).inv)
 have sl11 : IsSl dv6 := SlAt.isSl (oW (Mem.chunk M 2 rfl).inv)
 have hle12 := SlAt.le' (oW (Mem.chunk M 2 rfl).inv)
 have sl13 : IsSl vv7 := SlAt.isSl (oW (Mem.chunk M 3 rfl).inv)
 have hle14 := SlAt.le' (oW (Mem.chunk M 3 rfl).inv)
 refine WL.alloc (c := #[(vB false), vZ, vZ, vZ]) M rfl Try.el99.zero rfl (fun b15 w16 hb15 M => ?_)
 refine WL.store (v := (Value.agg #[(vB n.leaf), kv5, dv6, vv7])) (cs := [(vB n.leaf), kv5, dv6, vv7]) (c' := #[(vB n.leaf), kv5, dv6, vv7]) M 0 rfl rfl Try.el99.sized rfl rfl rfl rfl (nL rfl) (cC rfl (cC (IsSl.cel sl9) (cC (IsSl.cel sl11) (cC (IsSl.cel sl13) cel_nil)))) rfl rfl (fun w17 M => ?_)
 refine WL.nil (wR (wP (Value.pointer (some ⟨b15, 1, none⟩)) (wS kv5 rfl (Step.load1 Try.sc22 rfl ((M.cell 0 rfl 1).trans rfl)) (wP (vP b3) (wS (vS x.key) rfl (Step.load1 Try.sc9 rfl ((M.cell 5 rfl 0).trans rfl)) ?_)))))
 refine WL.callX rfl (bs_str kv5 n.keys x.key (by omega) (by assumption) (M.enterW0 ⟨((M.wideC0 2 rfl).imp fun _ h => oW h), trivial⟩)) (CallsF.func Try.en83 rfl) ?_
 rintro _ w18 ⟨rfl, m⟩
 replace M := M.leaveW0 m
 clear m
 refine wM (Value.tuple #[(vI (↑(bsI n.keys x.key))), (vB (bsF n.keys x.key))]) (wP (vI (↑(bsI n.keys x.key))) (wP (vB (bsF n.keys x.key)) (wA (vI (↑(bsI n.keys x.key))) (wA (vB (bsF n.keys x.key)) (WL.nil (W.seq' (W.block (wR (wM (vB (bsF n.keys x.key)) (wA (vB (bsF n.keys x.key)) (WL.nil ?_)))))))))))
 refine W.cond (t := bsF n.keys x.key) rfl (fun h19 => ?_) (fun h19 => ?_)
 ·
  have hbl_ := bsF_lt h19
  refine W.seq' ?_
  obtain ⟨cap21, hb20⟩ := SlAt.base (oW (M.chunk 4 rfl).inv) (by omega)
  obtain ⟨x22, hx22⟩ := elem_of_lt (xs := n.vals) (i := bsI n.keys x.key) (by omega)
  obtain ⟨pre23, post24, hcs25, hpre26, hback27⟩ := flat_open intE_len hx22
  replace M := M.rechunk 4 (c' := own 3 1 vv7 n.vals.length (pre23 ++ ([(vI x22)] ++ post24))) rfl (by show own 3 1 vv7 n.vals.length (n.vals.flatMap intE) = _; rw [hcs25]; rfl)
  refine W.drawn2 M [0, 1, 2, 3, 4, 5, 6, 7, 8, 9, 10] [11, 12] [12] [] _ _ (sY (sY (sY (sY (sY (sY (sY sE))))))) (fun _ h => h) Try.mixed (by kernel_rfl) ?_
  refine tQ (Value.pointer (some ⟨b15, 3, none⟩)) rfl (tR vv7 rfl (fun A w M => (Step.load1 Try.sc97 rfl ((M.cell 1 rfl 3).trans rfl))) (tM (vI (↑(bsI n.keys x.key))) rfl (tQ (Value.pointer (some ⟨b15, 3, none⟩)) rfl (tR vv7 rfl (fun A w M => (Step.load1 Try.sc97 rfl ((M.cell 1 rfl 3).trans rfl))) (tM (vI (↑(bsI n.keys x.key))) rfl (tP (vQ vv7 (bsI n.keys x.key) 1) rfl (fun w => (sX (bsI n.keys x.key) Try.un97 Try.el3 rfl rfl hb20)) (tR (vI x22) rfl (fun A w M => (Step.loadE (k := 0) Try.sc3 (ec_open (oW (M.chunk 5 rfl).inv) hpre26 rfl (by first | omega | (simp only [List.length_set, List.length_append, List.length_cons, List.length_nil]; omega))) (by decide) rfl rfl)) (tQ (Value.pointer (some ⟨b3, 1, none⟩)) rfl (tR (vI x.val) rfl (fun A w M => (Step.load1 Try.sc3 rfl ((M.cell 6 rfl 1).trans rfl))) (tP (vI x22) rfl (fun w => (Step.assign rfl)) ?_))))))))))
  refine TW.turn _ _ (sY (sY (sY (sY (sN (sY (sY sE))))))) (fun _ h => h) ?_
  refine tP (vQ vv7 (bsI n.keys x.key) 1) rfl (fun w => (sX (bsI n.keys x.key) Try.un97 Try.el3 rfl rfl hb20)) ?_
  refine TW.act (c' := own 3 1 vv7 n.vals.length (pre23 ++ ([(vI x.val)] ++ post24))) 4 rfl rfl (by decide) rfl (sY (sY (sY (sY (sN (sY (sY sE))))))) (fun r h => h) (fun A w M => M.storeAt (cells := [(vI x22)]) (cells' := [(vI x.val)]) (new := [(vI x.val)]) (k := 0) 5 rfl hpre26 Try.el3.sized rfl rfl rfl (cC rfl cel_nil) (by first | omega | (simp only [List.length_set, List.length_append, List.length_cons, List.length_nil]; omega)) (nL rfl) rfl rfl) ?_
  refine TW.done (fun w28 M => ?_)
  refine wR (wM (vP tb) (wS (Value.agg #[(vI h.at_), (vI h.turn)]) rfl (Step.loadN Try.ag92 rfl (M.blk 6 rfl) (nL rfl) rfl) (wS (Value.agg #[(vB n.leaf), kv5, dv6, vv7]) rfl (Step.loadN Try.ag99 rfl (M.blk 0 rfl) (nL rfl) rfl) ?_)))
  replace M := M.rechunk 4 (c' := own 3 1 vv7 (n.vals.length) ((n.vals.set (bsI n.keys x.key) x.val).flatMap intE)) rfl (by rw [← hback27]; rfl)
  replace M := M.rechunk 4 (c' := oI vv7 (n.vals.set (bsI n.keys x.key) x.val)) rfl (by show _ = own 3 1 vv7 ((n.vals.set (bsI n.keys x.key) x.val).length) ((n.vals.set (bsI n.keys x.key) x.val).flatMap intE); rw [List.length_set])
  have fq := M.frm [arenaC 143 145 S ab l] [bk b15 #[(vB n.leaf), kv5, dv6, vv7] 99, oS kv5 n.keys, oH dv6 n.kids, oI vv7 (n.vals.set (bsI n.keys x.key) x.val), bk b3 #[(vS x.key), (vI x.val)] 41, bk b1 #[(vI h.at_), (vI h.turn)] 92] [1, 0, 2, 3, 4, 5, 6] rfl
  refine WL.callX rfl (tr_put tb ab r fu ln l S h kv5 dv6 vv7 (⟨n.leaf, n.keys, n.kids, n.vals.set (bsI n.keys x.key) x.val⟩ : Nd) (by assumption) (by simp [insL] <;> omega) (by simp [insL] <;> omega) (by simp [insL] <;> omega) (M.eF fq ⟨(M.rF fq 0 rfl), ((M.cF fq 1 rfl).imp fun _ h => oW h), ((M.cF fq 2 rfl).imp fun _ h => oW h), ((M.cF fq 3 rfl).imp fun _ h => oW h), trivial⟩)) (CallsF.func Try.en84 rfl) ?_
  rintro _ w30 ⟨S29, rfl, m⟩
  replace M := M.lF fq m
  clear m
  refine WL.nil (wR (wM (vI x22) (wA (vI x22) (wA (vB true) (wA vN (WL.nil ?_))))))
  refine W.ret ?_
  refine ⟨.inl rfl, (Value.tuple #[(vI x22), (vB true), vN]), ?_, ?_⟩
  · exact ⟨rfl, (Res.r3 (show RV _ _ _ (.tmp 6) (vI x22) from by exact rfl) (show RV _ _ _ (.tmp 7) (vB true) from by exact rfl) (show RV _ _ _ (.tmp 8) vN from by exact rfl))⟩
  have hup_ : (insF d l h x).2.2 = none := by
   rw [insF_hit hn h19]
  replace M := M.mkNone (e := 104) (o := (insF d l h x).2.2) hup_
  have e31 : (insF d l h x).1 = (rput l h (⟨n.leaf, n.keys, n.kids, n.vals.set (bsI n.keys x.key) x.val⟩ : Nd)).1 := by
   rw [insF_hit hn h19]
   try rfl
  replace M := M.rechunk 1 (c' := arenaC 143 145 S29 ab ((insF d l h x).1)) rfl (congrArg (fun z => arenaC 143 145 S29 ab z) e31.symm)
  refine ⟨vN, S29, ?_, M.close [1, 0] rfl (by decide) trivial⟩
  rw [insF_hit hn h19]
  simp [h19, hx22]
 ·
  refine wR (wP (vP b15) (wS (vB n.leaf) rfl (Step.load1 Try.sc4 rfl ((M.cell 0 rfl 0).trans rfl)) (wA (vB n.leaf) (WL.nil ?_))))
  refine W.cond (t := n.leaf) rfl (fun h32 => ?_) (fun h32 => ?_)
  ·
   refine W.drawn2 M [0, 1, 2, 3, 4, 7, 8, 9, 10, 11, 5, 6, 14, 12, 13] [15, 16, 17] [6, 13, 15, 17] [5, 12] _ _ (sY (sY (sN (sY (sN (sY (sY sE))))))) (fun _ h => h) Try.mixed (by kernel_rfl) ?_
   refine tQ (Value.pointer (some ⟨b15, 1, none⟩)) rfl (tR kv5 rfl (fun A w M => (Step.load1 Try.sc22 rfl ((M.cell 1 rfl 1).trans rfl))) (tM (vI (↑(bsI n.keys x.key))) rfl (tQ (vP b3) rfl (tR (vS x.key) rfl (fun A w M => (Step.load1 Try.sc9 rfl ((M.cell 4 rfl 0).trans rfl))) (tQ (Value.pointer (some ⟨b15, 3, none⟩)) rfl (tR vv7 rfl (fun A w M => (Step.load1 Try.sc97 rfl ((M.cell 1 rfl 3).trans rfl))) (tM (vI (↑(bsI n.keys x.key))) rfl (tQ (Value.pointer (some ⟨b3, 1, none⟩)) rfl (tR (vI x.val) rfl (fun A w M => (Step.load1 Try.sc3 rfl ((M.cell 4 rfl 1).trans rfl))) ?_)))))))))
   refine TW.new (obj := .cells #[(vS x.key)] 9) (fun b => .slice (some ⟨b, 0, none⟩) 1 1) rfl (by decide) (by decide) rfl (fun w => Step.make (by kernel_rfl)) (fun b61 => ?_)
   let Q : List Chunk := [bk b15 #[(vB n.leaf), kv5, dv6, vv7] 99, arenaC 143 145 S ab l, oH dv6 n.kids, oI vv7 n.vals, bk b3 #[(vS x.key), (vI x.val)] 41, bk b1 #[(vI h.at_), (vI h.turn)] 92]
   refine TW.callX (ι := Value) (fun jx v_ => v_ = jx) (fun jx => bk b61 #[(vS x.key)] 9 :: oS jx (insL n.keys (bsI n.keys x.key) x.key) :: Q) (fun jx => [bF tb #[(vP ab), (vI r.at_), (vI r.turn), (vB fu), (vI ln)] 94]) rfl (by decide) rfl (fun jx => (sN (sN (sY (sY (sY (sN (sY (sY sE))))))))) (fun jx r h => h) (fun A w M => have fq := M.frm [oS kv5 n.keys, bk b61 #[(vS x.key)] 9] (fl A :: Q) [4, 1, 0, 2, 3, 5, 6, 7, 8] rfl; Rets.mono (ins_str kv5 n.keys (bsI n.keys x.key) b61 x.key (by omega) (by omega) (M.eF fq trivial)) (fun v_ w_ ⟨v62, e_, m⟩ => ⟨v62, e_, (M.lF fq m).sel [2, 0, 1, 3, 4, 5, 6, 7, 8] rfl (by decide), fun b hb => M.kF fq m b hb⟩)) (fun w => CallsF.func Try.en85 rfl) (fun v62 v hp hin => ?_)
   replace hp := hp.symm; subst hp
   obtain ⟨_, _, hin⟩ := hin
   have sl63 : IsSl v62 := SlAt.isSl (oW (Mem.chunk hin 2 rfl).inv)
   have hle64 := SlAt.le' (oW (Mem.chunk hin 2 rfl).inv)
   clear hin
   refine tQ (Value.pointer (some ⟨b15, 1, none⟩)) rfl ?_
   refine TW.new (obj := .cells #[(vI x.val)] 3) (fun b => .slice (some ⟨b, 0, none⟩) 1 1) rfl (by decide) (by decide) rfl (fun w => Step.make (by kernel_rfl)) (fun b65 => ?_)
   let Q : List Chunk := [bk b61 #[(vS x.key)] 9, oS v62 (insL n.keys (bsI n.keys x.key) x.key), bk b15 #[(vB n.leaf), kv5, dv6, vv7] 99, arenaC 143 145 S ab l, oH dv6 n.kids, bk b3 #[(vS x.key), (vI x.val)] 41, bk b1 #[(vI h.at_), (vI h.turn)] 92]
   refine TW.callX (ι := Value) (fun jx v_ => v_ = jx) (fun jx => bk b65 #[(vI x.val)] 3 :: oI jx (insL n.vals (bsI n.keys x.key) x.val) :: Q) (fun jx => [bF tb #[(vP ab), (vI r.at_), (vI r.turn), (vB fu), (vI ln)] 94]) rfl (by decide) rfl (fun jx => (sN (sN (sN (sN (sY (sY (sY (sY (sY sE)))))))))) (fun jx r h => h) (fun A w M => have fq := M.frm [oI vv7 n.vals, bk b65 #[(vI x.val)] 3] (fl A :: Q) [7, 1, 0, 2, 3, 4, 5, 6, 8, 9] rfl; Rets.mono (ins_int vv7 n.vals (bsI n.keys x.key) b65 x.val (by omega) (by omega) (M.eF fq trivial)) (fun v_ w_ ⟨v66, e_, m⟩ => ⟨v66, e_, (M.lF fq m).sel [2, 0, 1, 3, 4, 5, 6, 7, 8, 9] rfl (by decide), fun b hb => M.kF fq m b hb⟩)) (fun w => CallsF.func Try.en86 rfl) (fun v66 v hp hin => ?_)
   replace hp := hp.symm; subst hp
   obtain ⟨_, _, hin⟩ := hin
   have sl67 : IsSl v66 := SlAt.isSl (oW (Mem.chunk hin 2 rfl).inv)
   have hle68 := SlAt.le' (oW (Mem.chunk hin 2 rfl).inv)
   clear hin
   refine TW.turn _ _ (sY (sY (sY (sY (sN (sY (sY (sY (sY sE))))))))) (fun _ h => h) ?_
   refine TW.store (v := v62) (cs := [v62]) (c' := #[(vB n.leaf), v62, dv6, vv7]) 4 rfl rfl (by decide) rfl Try.el22.sized rfl rfl (IsSl.list sl63) rfl (nL rfl) (cC (IsSl.cel sl63) cel_nil) rfl rfl (sY (sY (sY (sY (sN (sY (sY (sY (sY sE))))))))) (fun r h => h) ?_
   refine tQ (Value.pointer (some ⟨b15, 3, none⟩)) rfl ?_
   refine TW.store (v := v66) (cs := [v66]) (c' := #[(vB n.leaf), v62, dv6, v66]) 4 rfl rfl (by decide) rfl Try.el97.sized rfl rfl (IsSl.list sl67) rfl (nL rfl) (cC (IsSl.cel sl67) cel_nil) rfl rfl (sY (sY (sY (sY (sN (sY (sY (sY (sY sE))))))))) (fun r h => h) ?_
   refine TW.done (fun w71 M => ?_)
   refine W.seq' ?_
   replace M := M.loseI 7
   replace M := M.loseI 2
   replace M := M.loseI 0
   refine W.region rfl (wM (vI 0) (wM (vB false) (wM (vP tb) (wS (Value.agg #[(vI h.at_), (vI h.turn)]) rfl (Step.loadN Try.ag92 rfl (M.blk 5 rfl) (nL rfl) rfl) (wS (Value.agg #[(vB n.leaf), v62, dv6, v66]) rfl (Step.loadN Try.ag99 rfl (M.blk 2 rfl) (nL rfl) rfl) ?_)))))
   have fq := M.frm [arenaC 143 145 S ab l] [oI v66 (insL n.vals (bsI n.keys x.key) x.val), oS v62 (insL n.keys (bsI n.keys x.key) x.key), bk b15 #[(vB n.leaf), v62, dv6, v66] 99, oH dv6 n.kids, bk b1 #[(vI h.at_), (vI h.turn)] 92] [3, 0, 1, 2, 4, 5] rfl
   refine WL.callX rfl (tr_settle tb ab r fu ln l S h v62 dv6 v66 (⟨n.leaf, insL n.keys (bsI n.keys x.key) x.key, n.kids, insL n.vals (bsI n.keys x.key) x.val⟩ : Nd) (by assumption) (by first | assumption | omega | (simp only [List.length_nil, List.length_cons, List.length_take, List.length_drop, List.length_append, List.length_set, insL]; omega)) (by first | assumption | (intro h_; simp only [List.length_nil, List.length_cons, List.length_take, List.length_drop, List.length_append, List.length_set, insL]; omega) | (intro h_; simp_all; done)) (by simp [insL] <;> omega) (by simp [insL] <;> omega) (by simp [insL] <;> omega) (M.eF fq ⟨(M.rF fq 0 rfl), ((M.cF fq 1 rfl).imp fun _ h => oW h), ((M.cF fq 3 rfl).imp fun _ h => oW h), ((M.cF fq 0 rfl).imp fun _ h => oW h), trivial⟩)) (CallsF.func Try.en88 rfl) ?_
   rintro u72 w74 ⟨_, S73, rfl, m⟩
   replace M := M.lF fq m
   clear m
   refine wA (vI 0) (wA (vB false) (wA u72 (WL.nil ?_)))
   refine W.ret ?_
   refine ⟨.inl rfl, (Value.tuple #[(vI 0), (vB false), u72]), ?_, ?_⟩
   · exact ⟨rfl, (Res.r3 (show RV _ _ _ (.tmp 6) (vI 0) from by exact rfl) (show RV _ _ _ (.tmp 7) (vB false) from by exact rfl) (show RV _ _ _ (.tmp 8) u72 from by exact rfl))⟩
   have e75 : (insF d l h x).1 = (settleF l h (⟨n.leaf, insL n.keys (bsI n.keys x.key) x.key, n.kids, insL n.vals (bsI n.keys x.key) x.val⟩ : Nd)).1 := by
    rw [insF_leaf hn h19 h32]
    try rfl
   replace M := M.rechunk 0 (c' := arenaC 143 145 S73 ab ((insF d l h x).1)) rfl (congrArg (fun z => arenaC 143 145 S73 ab z) e75.symm)
   have e76 : (insF d l h x).2.2 = (settleF l h (⟨n.leaf, insL n.keys (bsI n.keys x.key) x.key, n.kids, insL n.vals (bsI n.keys x.key) x.val⟩ : Nd)).2 := by
    rw [insF_leaf hn h19 h32]
    try rfl
   replace M := M.rechunk 1 (c' := upC 104 u72 ((insF d l h x).2.2)) rfl (congrArg (fun z => upC 104 u72 z) e76.symm)
   refine ⟨u72, S73, ?_, M.close [0, 1] rfl (by decide) trivial⟩
   rw [insF_leaf hn h19 h32]
   try rfl
  ·
   obtain ⟨e, rfl, hkl_, hO2, hS2⟩ := insOk_kid hO hn h19 h32
   refine W.seq' ?_
   obtain ⟨cap78, hb77⟩ := SlAt.base (oW (M.chunk 3 rfl).inv) (by omega)
   obtain ⟨x79, hx79⟩ := elem_of_lt (xs := n.kids) (i := bsI n.keys x.key) (by omega)
   have hgd_ : n.kids.getD (bsI n.keys x.key) hdZero = x79 := by rw [List.getD_eq_getElem?_getD, hx79]; rfl
   rw [hgd_] at hO2 hS2
   refine W.drawn M [0, 1, 2, 3, 4, 5, 6, 7, 8, 9, 10, 11, 12, 13, 14] [7] [] _ _ (sY (sN (sY (sY (sY (sY (sY sE))))))) (fun _ h => h) Try.mixed (by kernel_rfl) ?_
   refine tM (vP tb) rfl (tQ (Value.pointer (some ⟨b15, 2, none⟩)) rfl (tR dv6 rfl (fun A w M => (Step.load1 Try.sc96 rfl ((M.cell 1 rfl 2).trans rfl))) (tM (vI (↑(bsI n.keys x.key))) rfl (tP (vQ dv6 (bsI n.keys x.key) 2) rfl (fun w => (sX (bsI n.keys x.key) Try.un96 Try.el92 rfl rfl hb77)) (tR (Value.agg #[(vI x79.at_), (vI x79.turn)]) rfl (fun A w M => (Step.loadEN (k := 0) (cs' := [(vI x79.at_), (vI x79.turn)]) Try.ag92 (flat_ec (oW (M.chunk 3 rfl).inv) hx79 handleE_len) (by decide) rfl rfl rfl)) (tR (Value.agg #[(vS x.key), (vI x.val)]) rfl (fun A w M => (Step.loadN Try.ag41 rfl (M.blk 5 rfl) (nL rfl) rfl)) ?_))))))
   let Q : List Chunk := [bk b15 #[(vB n.leaf), kv5, dv6, vv7] 99, oS kv5 n.keys, oH dv6 n.kids, oI vv7 n.vals, bk b3 #[(vS x.key), (vI x.val)] 41, bk b1 #[(vI h.at_), (vI h.turn)] 92]
   refine TW.callX (ι := Value × (Nat → Prop)) (fun jx v_ => v_ = (Value.tuple #[(vI ((insF e l x79 x).2.1.1)), (vB ((insF e l x79 x).2.1.2)), jx.1])) (fun jx => arenaC 143 145 jx.2 ab ((insF e l x79 x).1) :: upC 104 jx.1 ((insF e l x79 x).2.2) :: Q) (fun jx => [bF tb #[(vP ab), (vI r.at_), (vI r.turn), (vB fu), (vI ln)] 94]) rfl (by decide) rfl (fun jx => (sN (sN (sY (sY (sY (sY (sY (sY sE))))))))) (fun jx r h => h) (fun A w M => have fq := M.frm [arenaC 143 145 S ab l] (fl A :: Q) [2, 0, 1, 3, 4, 5, 6, 7] rfl; Rets.mono (ih e (by omega) tb ab r fu ln l S x79 x (by assumption) (M.eF fq ⟨(M.rF fq 0 rfl), trivial⟩)) (fun v_ w_ ⟨u84, S85, e_, m⟩ => ⟨(u84, S85), e_, (M.lF fq m).sel [2, 0, 1, 3, 4, 5, 6, 7, 8] rfl (by decide), fun b hb => M.kF fq m b hb⟩)) (fun w => CallsF.func Try.en47 rfl) (fun jx v hp hin => ?_)
   obtain ⟨u84, S85⟩ := jx
   replace hp := hp.symm; subst hp
   obtain ⟨_, _, hin⟩ := hin
   clear hin
   refine tM (Value.tuple #[(vI ((insF e l x79 x).2.1.1)), (vB ((insF e l x79 x).2.1.2)), u84]) rfl (tQ (vI ((insF e l x79 x).2.1.1)) rfl (tQ (vB ((insF e l x79 x).2.1.2)) rfl (tQ u84 rfl (tP (vI ((insF e l x79 x).2.1.1)) rfl (fun w => (Step.assign rfl)) (tP (vB ((insF e l x79 x).2.1.2)) rfl (fun w => (Step.assign rfl)) (tP u84 rfl (fun w => (Step.assign rfl)) ?_))))))
   refine TW.done (fun w86 M => ?_)
   refine W.seq' (W.seq' ?_)
   rcases ho_ : (insF e l x79 x).2.2 with _ | u_
   ·
    rw [ho_] at M
    obtain rfl := M.upNone 1 rfl
    replace M := M.sel (L' := [arenaC 143 145 S85 ab ((insF e l x79 x).1), bk b15 #[(vB n.leaf), kv5, dv6, vv7] 99, oS kv5 n.keys, oH dv6 n.kids, oI vv7 n.vals, bk b3 #[(vS x.key), (vI x.val)] 41, bk b1 #[(vI h.at_), (vI h.turn)] 92]) [0, 2, 3, 4, 5, 6, 7] rfl (by decide)
    refine W.region rfl (wM vN (wP (vB true) (WL.nil ?_)))
    refine W.cond (t := true) rfl (fun _ => ?_) (fun h => by cases h)
    refine wR (wM (vI ((insF e l x79 x).2.1.1)) (wM (vB ((insF e l x79 x).2.1.2)) (wA (vI ((insF e l x79 x).2.1.1)) (wA (vB ((insF e l x79 x).2.1.2)) (wA vN (WL.nil ?_))))))
    refine W.ret ?_
    refine ⟨.inl rfl, (Value.tuple #[(vI ((insF e l x79 x).2.1.1)), (vB ((insF e l x79 x).2.1.2)), vN]), ?_, ?_⟩
    · exact ⟨rfl, (Res.r3 (show RV _ _ _ (.tmp 6) (vI ((insF e l x79 x).2.1.1)) from by exact rfl) (show RV _ _ _ (.tmp 7) (vB ((insF e l x79 x).2.1.2)) from by exact rfl) (show RV _ _ _ (.tmp 8) vN from by exact rfl))⟩
    have hup_ : (insF (e + 1) l h x).2.2 = none := by
     rw [insF_none hn h19 h32 (by rw [hgd_]; exact ho_)]
     try rw [hgd_]
    replace M := M.mkNone (e := 104) (o := (insF (e + 1) l h x).2.2) hup_
    have e88 : (insF (e + 1) l h x).1 = (insF e l x79 x).1 := by
     rw [insF_none hn h19 h32 (by rw [hgd_]; exact ho_)]
     try rw [hgd_]
     try rfl
    replace M := M.rechunk 1 (c' := arenaC 143 145 S85 ab ((insF (e + 1) l h x).1)) rfl (congrArg (fun z => arenaC 143 145 S85 ab z) e88.symm)
    refine ⟨vN, S85, ?_, M.close [1, 0] rfl (by decide) trivial⟩
    rw [insF_none hn h19 h32 (by rw [hgd_]; exact ho_)]
    try rw [hgd_]
    try rfl
   ·
    rw [ho_] at M
    obtain ⟨b87, rfl, M⟩ := M.upSome 1 rfl
    refine W.region rfl (wM (vP b87) (wP (vB false) (WL.nil ?_)))
    refine W.cond (t := false) rfl (fun h => by cases h) (fun _ => ?_)
    refine W.skip (W.seq' ?_)
    replace M := M.loseI 6
    refine W.drawn2 M [0, 1, 2, 3, 4, 5, 6, 7, 10, 11, 12, 13, 14, 15, 16, 17, 8, 9, 20, 18, 19] [21, 22, 23] [9, 19, 21, 23] [8, 18] _ _ (sY (sY (sY (sN (sY (sN (sY sE))))))) (fun _ h => h) Try.mixed (by kernel_rfl) ?_
    refine tQ (Value.pointer (some ⟨b15, 1, none⟩)) rfl (tR kv5 rfl (fun A w M => (Step.load1 Try.sc22 rfl ((M.cell 3 rfl 1).trans rfl))) (tM (vI (↑(bsI n.keys x.key))) rfl (tM (vP b87) rfl (tQ (vP b87) rfl (tQ (vP b87) rfl (tQ (vP b87) rfl (tR (vS u_.1.key) rfl (fun A w M => (Step.load1 Try.sc9 rfl ((M.cell 2 rfl 0).trans rfl))) (tQ (Value.pointer (some ⟨b15, 3, none⟩)) rfl (tR vv7 rfl (fun A w M => (Step.load1 Try.sc97 rfl ((M.cell 3 rfl 3).trans rfl))) (tM (vI (↑(bsI n.keys x.key))) rfl (tM (vP b87) rfl (tQ (vP b87) rfl (tQ (vP b87) rfl (tQ (Value.pointer (some ⟨b87, 1, none⟩)) rfl (tR (vI u_.1.val) rfl (fun A w M => (Step.load1 Try.sc3 rfl ((M.cell 2 rfl 1).trans rfl))) ?_)))))))))))))))
    refine TW.new (obj := .cells #[(vS u_.1.key)] 9) (fun b => .slice (some ⟨b, 0, none⟩) 1 1) rfl (by decide) (by decide) rfl (fun w => Step.make (by kernel_rfl)) (fun b117 => ?_)
    let Q : List Chunk := [arenaC 143 145 S85 ab ((insF e l x79 x).1), bk b87 #[(vS u_.1.key), (vI u_.1.val), (vI u_.2.at_), (vI u_.2.turn)] 104, bk b15 #[(vB n.leaf), kv5, dv6, vv7] 99, oH dv6 n.kids, oI vv7 n.vals, bk b1 #[(vI h.at_), (vI h.turn)] 92]
    refine TW.callX (ι := Value) (fun jx v_ => v_ = jx) (fun jx => bk b117 #[(vS u_.1.key)] 9 :: oS jx (insL n.keys (bsI n.keys x.key) u_.1.key) :: Q) (fun jx => [bF tb #[(vP ab), (vI r.at_), (vI r.turn), (vB fu), (vI ln)] 94]) rfl (by decide) rfl (fun jx => (sN (sN (sY (sY (sY (sY (sN (sY sE))))))))) (fun jx r h => h) (fun A w M => have fq := M.frm [oS kv5 n.keys, bk b117 #[(vS u_.1.key)] 9] (fl A :: Q) [5, 1, 0, 2, 3, 4, 6, 7, 8] rfl; Rets.mono (ins_str kv5 n.keys (bsI n.keys x.key) b117 u_.1.key (by omega) (by omega) (M.eF fq trivial)) (fun v_ w_ ⟨v118, e_, m⟩ => ⟨v118, e_, (M.lF fq m).sel [2, 0, 1, 3, 4, 5, 6, 7, 8] rfl (by decide), fun b hb => M.kF fq m b hb⟩)) (fun w => CallsF.func Try.en85 rfl) (fun v118 v hp hin => ?_)
    replace hp := hp.symm; subst hp
    obtain ⟨_, _, hin⟩ := hin
    have sl119 : IsSl v118 := SlAt.isSl (oW (Mem.chunk hin 2 rfl).inv)
    have hle120 := SlAt.le' (oW (Mem.chunk hin 2 rfl).inv)
    clear hin
    refine tQ (Value.pointer (some ⟨b15, 1, none⟩)) rfl ?_
    refine TW.new (obj := .cells #[(vI u_.1.val)] 3) (fun b => .slice (some ⟨b, 0, none⟩) 1 1) rfl (by decide) (by decide) rfl (fun w => Step.make (by kernel_rfl)) (fun b121 => ?_)
    let Q : List Chunk := [bk b117 #[(vS u_.1.key)] 9, oS v118 (insL n.keys (bsI n.keys x.key) u_.1.key), arenaC 143 145 S85 ab ((insF e l x79 x).1), bk b87 #[(vS u_.1.key), (vI u_.1.val), (vI u_.2.at_), (vI u_.2.turn)] 104, bk b15 #[(vB n.leaf), kv5, dv6, vv7] 99, oH dv6 n.kids, bk b1 #[(vI h.at_), (vI h.turn)] 92]
    refine TW.callX (ι := Value) (fun jx v_ => v_ = jx) (fun jx => bk b121 #[(vI u_.1.val)] 3 :: oI jx (insL n.vals (bsI n.keys x.key) u_.1.val) :: Q) (fun jx => [bF tb #[(vP ab), (vI r.at_), (vI r.turn), (vB fu), (vI ln)] 94]) rfl (by decide) rfl (fun jx => (sN (sN (sN (sN (sY (sY (sY (sY (sY sE)))))))))) (fun jx r h => h) (fun A w M => have fq := M.frm [oI vv7 n.vals, bk b121 #[(vI u_.1.val)] 3] (fl A :: Q) [8, 1, 0, 2, 3, 4, 5, 6, 7, 9] rfl; Rets.mono (ins_int vv7 n.vals (bsI n.keys x.key) b121 u_.1.val (by omega) (by omega) (M.eF fq trivial)) (fun v_ w_ ⟨v122, e_, m⟩ => ⟨v122, e_, (M.lF fq m).sel [2, 0, 1, 3, 4, 5, 6, 7, 8, 9] rfl (by decide), fun b hb => M.kF fq m b hb⟩)) (fun w => CallsF.func Try.en86 rfl) (fun v122 v hp hin => ?_)
    replace hp := hp.symm; subst hp
    obtain ⟨_, _, hin⟩ := hin
    have sl123 : IsSl v122 := SlAt.isSl (oW (Mem.chunk hin 2 rfl).inv)
    have hle124 := SlAt.le' (oW (Mem.chunk hin 2 rfl).inv)
    clear hin
    refine TW.turn _ _ (sY (sY (sY (sY (sY (sY (sN (sY (sY sE))))))))) (fun _ h => h) ?_
    refine TW.store (v := v118) (cs := [v118]) (c' := #[(vB n.leaf), v118, dv6, vv7]) 6 rfl rfl (by decide) rfl Try.el22.sized rfl rfl (IsSl.list sl119) rfl (nL rfl) (cC (IsSl.cel sl119) cel_nil) rfl rfl (sY (sY (sY (sY (sY (sY (sN (sY (sY sE))))))))) (fun r h => h) ?_
    refine tQ (Value.pointer (some ⟨b15, 3, none⟩)) rfl ?_
    refine TW.store (v := v122) (cs := [v122]) (c' := #[(vB n.leaf), v118, dv6, v122]) 6 rfl rfl (by decide) rfl Try.el97.sized rfl rfl (IsSl.list sl123) rfl (nL rfl) (cC (IsSl.cel sl123) cel_nil) rfl rfl (sY (sY (sY (sY (sY (sY (sN (sY (sY sE))))))))) (fun r h => h) ?_
    refine TW.done (fun w127 M => ?_)
    replace M := M.loseI 2
    replace M := M.loseI 0
    refine W.drawn2 M [0, 1, 2, 3, 4, 5, 6, 7, 8] [9, 10, 11] [9, 11] [8] _ _ (sY (sY (sY (sY (sY (sY (sY sE))))))) (fun _ h => h) Try.mixed (by kernel_rfl) ?_
    refine tQ (Value.pointer (some ⟨b15, 2, none⟩)) rfl (tR dv6 rfl (fun A w M => (Step.load1 Try.sc96 rfl ((M.cell 5 rfl 2).trans rfl))) (tM (vI (↑(bsI n.keys x.key))) rfl (tP (vI (↑((bsI n.keys x.key) + 1))) rfl (fun w => (Step.cast (congrArg (Value.int .i64) (show (↑(bsI n.keys x.key) + 1 : Int) = ↑((bsI n.keys x.key) + 1) by omega)) (Step.add rfl rfl (wrap_i64 (by omega))))) (tM (vP b87) rfl (tQ (vP b87) rfl (tQ (Value.pointer (some ⟨b87, 2, none⟩)) rfl (tR (Value.agg #[(vI u_.2.at_), (vI u_.2.turn)]) rfl (fun A w M => (Step.loadN Try.ag92 rfl (M.blk 4 rfl) (nL rfl) rfl)) ?_)))))))
    refine TW.new (obj := .cells #[(vI u_.2.at_), (vI u_.2.turn)] 92) (fun b => .slice (some ⟨b, 0, none⟩) 1 1) rfl (by decide) (by decide) rfl (fun w => Step.make (by kernel_rfl)) (fun b140 => ?_)
    refine TW.turn _ _ (sN (sY (sY (sY (sY (sN (sN (sY sE)))))))) (fun _ h => h) ?_
    let Q : List Chunk := [oI v122 (insL n.vals (bsI n.keys x.key) u_.1.val), oS v118 (insL n.keys (bsI n.keys x.key) u_.1.key), arenaC 143 145 S85 ab ((insF e l x79 x).1), bk b87 #[(vS u_.1.key), (vI u_.1.val), (vI u_.2.at_), (vI u_.2.turn)] 104, bk b15 #[(vB n.leaf), v118, dv6, v122] 99, bk b1 #[(vI h.at_), (vI h.turn)] 92]
    refine TW.callX (ι := Value) (fun jx v_ => v_ = jx) (fun jx => bk b140 #[(vI u_.2.at_), (vI u_.2.turn)] 92 :: oH jx (insL n.kids ((bsI n.keys x.key) + 1) u_.2) :: Q) (fun jx => [bF tb #[(vP ab), (vI r.at_), (vI r.turn), (vB fu), (vI ln)] 94]) rfl (by decide) rfl (fun jx => (sN (sN (sY (sY (sY (sY (sN (sY sE))))))))) (fun jx r h => h) (fun A w M => have fq := M.frm [oH dv6 n.kids, bk b140 #[(vI u_.2.at_), (vI u_.2.turn)] 92] (fl A :: Q) [7, 1, 0, 2, 3, 4, 5, 6, 8] rfl; Rets.mono (ins_hdl dv6 n.kids ((bsI n.keys x.key) + 1) b140 u_.2 (by omega) (by omega) (M.eF fq trivial)) (fun v_ w_ ⟨v143, e_, m⟩ => ⟨v143, e_, (M.lF fq m).sel [2, 0, 1, 3, 4, 5, 6, 7, 8] rfl (by decide), fun b hb => M.kF fq m b hb⟩)) (fun w => CallsF.func Try.en87 rfl) (fun v143 v hp hin => ?_)
    replace hp := hp.symm; subst hp
    obtain ⟨_, _, hin⟩ := hin
    have sl144 : IsSl v143 := SlAt.isSl (oW (Mem.chunk hin 2 rfl).inv)
    have hle145 := SlAt.le' (oW (Mem.chunk hin 2 rfl).inv)
    clear hin
    refine tQ (Value.pointer (some ⟨b15, 2, none⟩)) rfl ?_
    refine TW.store (v := v143) (cs := [v143]) (c' := #[(vB n.leaf), v118, v143, v122]) 6 rfl rfl (by decide) rfl Try.el96.sized rfl rfl (IsSl.list sl144) rfl (nL rfl) (cC (IsSl.cel sl144) cel_nil) rfl rfl (sN (sN (sY (sY (sY (sY (sN (sY sE)))))))) (fun r h => h) ?_
    refine TW.done (fun w146 M => ?_)
    refine W.seq' ?_
    replace M := M.loseI 0
    refine W.region rfl (wM (vI ((insF e l x79 x).2.1.1)) (wM (vB ((insF e l x79 x).2.1.2)) (wM (vP tb) (wS (Value.agg #[(vI h.at_), (vI h.turn)]) rfl (Step.loadN Try.ag92 rfl (M.blk 6 rfl) (nL rfl) rfl) (wS (Value.agg #[(vB n.leaf), v118, v143, v122]) rfl (Step.loadN Try.ag99 rfl (M.blk 5 rfl) (nL rfl) rfl) ?_)))))
    have fq := M.frm [arenaC 143 145 S85 ab ((insF e l x79 x).1)] [oH v143 (insL n.kids ((bsI n.keys x.key) + 1) u_.2), oI v122 (insL n.vals (bsI n.keys x.key) u_.1.val), oS v118 (insL n.keys (bsI n.keys x.key) u_.1.key), bk b87 #[(vS u_.1.key), (vI u_.1.val), (vI u_.2.at_), (vI u_.2.turn)] 104, bk b15 #[(vB n.leaf), v118, v143, v122] 99, bk b1 #[(vI h.at_), (vI h.turn)] 92] [3, 0, 1, 2, 4, 5, 6] rfl
    refine WL.callX rfl (tr_settle tb ab r fu ln ((insF e l x79 x).1) S85 h v118 v143 v122 (⟨n.leaf, insL n.keys (bsI n.keys x.key) u_.1.key, insL n.kids ((bsI n.keys x.key) + 1) u_.2, insL n.vals (bsI n.keys x.key) u_.1.val⟩ : Nd) (by first | assumption | exact smallA_of rfl) (by first | assumption | omega | (simp only [List.length_nil, List.length_cons, List.length_take, List.length_drop, List.length_append, List.length_set, insL]; omega)) (by first | assumption | (intro h_; simp only [List.length_nil, List.length_cons, List.length_take, List.length_drop, List.length_append, List.length_set, insL]; omega) | (intro h_; simp_all; done)) (by simp [insL] <;> omega) (by simp [insL] <;> omega) (by simp [insL] <;> omega) (M.eF fq ⟨(M.rF fq 0 rfl), ((M.cF fq 2 rfl).imp fun _ h => oW h), ((M.cF fq 0 rfl).imp fun _ h => oW h), ((M.cF fq 1 rfl).imp fun _ h => oW h), trivial⟩)) (CallsF.func Try.en88 rfl) ?_
    rintro u147 w149 ⟨_, S148, rfl, m⟩
    replace M := M.lF fq m
    clear m
    refine wA (vI ((insF e l x79 x).2.1.1)) (wA (vB ((insF e l x79 x).2.1.2)) (wA u147 (WL.nil ?_)))
    refine W.ret ?_
    refine ⟨.inl rfl, (Value.tuple #[(vI ((insF e l x79 x).2.1.1)), (vB ((insF e l x79 x).2.1.2)), u147]), ?_, ?_⟩
    · exact ⟨rfl, (Res.r3 (show RV _ _ _ (.tmp 6) (vI ((insF e l x79 x).2.1.1)) from by exact rfl) (show RV _ _ _ (.tmp 7) (vB ((insF e l x79 x).2.1.2)) from by exact rfl) (show RV _ _ _ (.tmp 8) u147 from by exact rfl))⟩
    have e150 : (insF (e + 1) l h x).1 = (settleF ((insF e l x79 x).1) h (⟨n.leaf, insL n.keys (bsI n.keys x.key) u_.1.key, insL n.kids ((bsI n.keys x.key) + 1) u_.2, insL n.vals (bsI n.keys x.key) u_.1.val⟩ : Nd)).1 := by
     rw [insF_some hn h19 h32 (by rw [hgd_]; exact ho_)]
     try rw [hgd_]
     try rfl
    replace M := M.rechunk 0 (c' := arenaC 143 145 S148 ab ((insF (e + 1) l h x).1)) rfl (congrArg (fun z => arenaC 143 145 S148 ab z) e150.symm)
    have e151 : (insF (e + 1) l h x).2.2 = (settleF ((insF e l x79 x).1) h (⟨n.leaf, insL n.keys (bsI n.keys x.key) u_.1.key, insL n.kids ((bsI n.keys x.key) + 1) u_.2, insL n.vals (bsI n.keys x.key) u_.1.val⟩ : Nd)).2 := by
     rw [insF_some hn h19 h32 (by rw [hgd_]; exact ho_)]
     try rw [hgd_]
     try rfl
    replace M := M.rechunk 1 (c' := upC 104 u147 ((insF (e + 1) l h x).2.2)) rfl (congrArg (fun z => upC 104 u147 z) e151.symm)
    refine ⟨u147, S148, ?_, M.close [0, 1] rfl (by decide) trivial⟩
    rw [insF_some hn h19 h32 (by rw [hgd_]; exact ho_)]
    try rw [hgd_]
    try rfl
end Go.Proofs
