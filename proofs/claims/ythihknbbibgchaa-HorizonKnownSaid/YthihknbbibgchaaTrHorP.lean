/- Pins that hold epochs, in a map and in order: plain data. -/
import Derived.Test.YthihknbbibgchaaTrMapP
import Derived.Test.YthihknbbibgchaaTrSesQ
import Derived.Test.YthihknbbibgchaaTrDel
set_option linter.all false
namespace Tp
open Go
def pinE (p : PinH) : List Value := [.int .u8 p.sort, .int .u64 p.id, .int .u64 p.epoch]
theorem pinE_len (p : PinH) : (pinE p).length = 3 := rfl
theorem pinE_cel (p : PinH) : Step.Cellish (pinE p) := cel_cons rfl (cel_cons rfl (cel_cons rfl cel_nil))
theorem pin_eqB (a b : PinH) : ((a.sort : Int) == (b.sort : Int) && ((a.id : Int) == (b.id : Int) && ((a.epoch : Int) == (b.epoch : Int) && true))) = decide (a = b) := by
  cases a; cases b
  rw [Bool.eq_iff_iff]; simp
/-! ### The order of pins -/
def ltP (a b : PinH) : Prop := a.sort < b.sort ∨ (a.sort = b.sort ∧ a.id < b.id)
instance (a b : PinH) : Decidable (ltP a b) := inferInstanceAs (Decidable (_ ∨ _))
def cmpPin (a b : PinH) : Int := if a.sort < b.sort then -1 else if a.sort > b.sort then 1 else cmpI a.id b.id
theorem cmpPin_lt (a b : PinH) : cmpPin a b < 0 ↔ ltP a b := by unfold cmpPin cmpI ltP; (repeat split) <;> omega
theorem ltP_irrefl (a : PinH) : ¬ ltP a a := by unfold ltP; omega
theorem ltP_trans {a b c : PinH} (h : ltP a b) (h' : ltP b c) : ltP a c := by unfold ltP at *; omega
theorem ltP_asymm {a b : PinH} (h : ltP a b) (h' : ltP b a) : False := by unfold ltP at *; omega
theorem ltP_tri {a b : PinH} (h : ¬ ltP a b) (hk : isP a.sort a.id b = false) : ltP b a := by
  rw [← Bool.not_eq_true, isP_iff] at hk
  unfold ltP at *; omega
def sortedP (l : List PinH) : Prop := l.Pairwise ltP
theorem perm_sorted_eq : ∀ {l m : List PinH}, sortedP l → sortedP m → l.Perm m → l = m
  | [], m, _, _, h => (List.nil_perm.1 h).symm
  | a :: l, [], _, _, h => by have := h.length_eq; simp at this
  | a :: l, b :: m, hl, hm, h => by
    obtain ⟨h1, h2⟩ := List.pairwise_cons.1 hl
    obtain ⟨h3, h4⟩ := List.pairwise_cons.1 hm
    have e : a = b := by
      have ha : a ∈ b :: m := h.mem_iff.1 (List.mem_cons_self ..)
      have hb : b ∈ a :: l := h.mem_iff.2 (List.mem_cons_self ..)
      rcases List.mem_cons.1 ha with e | ha
      · exact e
      · rcases List.mem_cons.1 hb with e | hb
        · exact e.symm
        · exact (ltP_asymm (h1 b hb) (h3 a ha)).elim
    subst e
    rw [perm_sorted_eq h2 h4 (List.Perm.cons_inv h)]
open Classical in
noncomputable def sortP (ps : List PinH) : List PinH := if h : ∃ rs, sortedP rs ∧ ps.Perm rs then Classical.choose h else []
theorem sortP_eq {ps rs : List PinH} (h : sortedP rs) (hp : ps.Perm rs) : sortP ps = rs := by
  have hh : ∃ rs, sortedP rs ∧ ps.Perm rs := ⟨rs, h, hp⟩
  unfold sortP; rw [dif_pos hh]
  obtain ⟨h1, h2⟩ := Classical.choose_spec hh
  exact perm_sorted_eq h1 h (h2.symm.trans hp)
/-- no two of one sort and id -/
def apartP (ps : List PinH) : Prop := ps.Pairwise fun a b => isP a.sort a.id b = false
theorem isP_comm (a b : PinH) : isP a.sort a.id b = isP b.sort b.id a := by
  rw [Bool.eq_iff_iff, isP_iff, isP_iff]; exact ⟨fun ⟨h1, h2⟩ => ⟨h1.symm, h2.symm⟩, fun ⟨h1, h2⟩ => ⟨h1.symm, h2.symm⟩⟩
theorem isP_self (a : PinH) : isP a.sort a.id a = true := isP_iff.2 ⟨rfl, rfl⟩
theorem sorted_apart {l : List PinH} (h : sortedP l) : apartP l := h.imp fun {a b} hab => by
  rw [← Bool.not_eq_true, isP_iff]
  unfold ltP at hab; omega
theorem apart_perm {l m : List PinH} (h : l.Perm m) : apartP l ↔ apartP m := h.pairwise_iff fun {a b} hab => by rw [isP_comm]; exact hab
theorem apart_uniq {l : List PinH} (h : apartP l) {a b : PinH} (ha : a ∈ l) (hb : b ∈ l) (hk : isP a.sort a.id b = true) : a = b := by
  obtain ⟨i, hi, rfl⟩ := List.getElem_of_mem ha
  obtain ⟨j, hj, rfl⟩ := List.getElem_of_mem hb
  rcases Nat.lt_trichotomy i j with h1 | h1 | h1
  · rw [List.pairwise_iff_getElem.1 h i j hi hj h1] at hk; cases hk
  · subst h1; rfl
  · rw [isP_comm, List.pairwise_iff_getElem.1 h j i hj hi h1] at hk; cases hk
/-- the map's pins, and the reference's, which are in order -/
structure HR (ps rs : List PinH) : Prop where
  up : sortedP rs
  perm : ps.Perm rs
theorem HR.apart {ps rs : List PinH} (h : HR ps rs) : apartP ps := (apart_perm h.perm).2 (sorted_apart h.up)
theorem HR.sort {ps rs : List PinH} (h : HR ps rs) : sortP ps = rs := sortP_eq h.up h.perm
theorem HR.nil : HR [] [] := ⟨.nil, .refl _⟩
/-! ### What is held -/
def heldB (s i : Int) (l : List PinH) : Bool := l.any (isP s i)
theorem heldB_perm {l m : List PinH} (h : l.Perm m) (s i : Int) : heldB s i l = heldB s i m := by
  unfold heldB; rw [Bool.eq_iff_iff, List.any_eq_true, List.any_eq_true]
  exact ⟨fun ⟨x, h1, h2⟩ => ⟨x, h.mem_iff.1 h1, h2⟩, fun ⟨x, h1, h2⟩ => ⟨x, h.mem_iff.2 h1, h2⟩⟩
theorem heldV_B (s i : Int) (l : List PinH) : (heldV s i l).2 = heldB s i l := by
  unfold heldV heldB
  cases h : l.find? (isP s i) with
  | none =>
    symm; rw [← Bool.not_eq_true, List.any_eq_true]
    rintro ⟨x, h1, h2⟩
    exact absurd h2 (List.find?_eq_none.1 h x h1)
  | some p => symm; exact List.any_eq_true.2 ⟨p, List.mem_of_find?_eq_some h, List.find?_some h⟩
theorem heldV_mem {s i : Int} {l : List PinH} {p : PinH} (ha : apartP l) (hp : p ∈ l) (hk : isP s i p = true) : heldV s i l = (p.epoch, true) := by
  unfold heldV
  cases h : l.find? (isP s i) with
  | none => exact absurd hk (by have := List.find?_eq_none.1 h p hp; simpa using this)
  | some q =>
    have h1 := List.find?_some h
    have h2 := List.mem_of_find?_eq_some h
    obtain ⟨a, b⟩ := isP_iff.1 h1; obtain ⟨c, d⟩ := isP_iff.1 hk
    have : p = q := apart_uniq ha hp h2 (isP_iff.2 ⟨by omega, by omega⟩)
    rw [this]
theorem heldV_none {s i : Int} {l : List PinH} (h : heldB s i l = false) : heldV s i l = (0, false) := by
  unfold heldV
  cases hf : l.find? (isP s i) with
  | none => rfl
  | some q =>
    have : heldB s i l = true := List.any_eq_true.2 ⟨q, List.mem_of_find?_eq_some hf, List.find?_some hf⟩
    rw [this] at h; cases h
theorem heldV_perm {l m : List PinH} (h : l.Perm m) (ha : apartP l) (s i : Int) : heldV s i l = heldV s i m := by
  cases hb : heldB s i l with
  | false => rw [heldV_none hb, heldV_none (by rw [← heldB_perm h]; exact hb)]
  | true =>
    obtain ⟨p, h1, h2⟩ := List.any_eq_true.1 hb
    rw [heldV_mem ha h1 h2, heldV_mem ((apart_perm h).1 ha) (h.mem_iff.1 h1) h2]
theorem ixP_held (s i : Int) (l : List PinH) : decide (ixF (isP s i) l ≥ 0) = heldB s i l := by
  unfold heldB
  rw [Bool.eq_iff_iff]
  cases h : l.findIdx? (isP s i) with
  | none =>
    rw [(ixF_none h).1]
    have : l.any (isP s i) = false := by simpa [List.findIdx?_eq_none_iff] using h
    simp [this]
  | some k =>
    rw [(ixF_some h).1]
    obtain ⟨h1, ⟨x, h2, h3⟩, h4⟩ := findIdx_some_at h
    have : l.any (isP s i) = true := List.any_eq_true.2 ⟨x, List.mem_of_getElem? h2, h3⟩
    simp [this]
theorem ixP_no {s i : Int} {l : List PinH} : ixF (isP s i) l < 0 ↔ heldB s i l = false := by
  have := ixP_held s i l
  constructor
  · intro h
    rw [← this]; exact decide_eq_false (by omega)
  · intro h
    rw [h] at this; have := of_decide_eq_false this; omega
theorem ixP_at {s i : Int} {l : List PinH} {k : Nat} (h : ixF (isP s i) l = (k : Int)) : ∃ p, l[k]? = some p ∧ isP s i p = true ∧ heldV s i l = (p.epoch, true) ∧ l.findIdx? (isP s i) = some k := by
  cases hf : l.findIdx? (isP s i) with
  | none => rw [(ixF_none hf).1] at h; omega
  | some n =>
    rw [(ixF_some hf).1] at h
    have : n = k := by omega
    subst this
    obtain ⟨h1, ⟨p, h2, h3⟩, h4⟩ := findIdx_some_at hf
    refine ⟨p, h2, h3, ?_, rfl⟩
    unfold heldV
    have : l.find? (isP s i) = some p := by
      rw [List.find?_eq_some_iff_getElem]
      obtain ⟨a, b⟩ := List.getElem?_eq_some_iff.1 h2
      exact ⟨h3, n, a, b, fun j hj => by rw [h4 j _ hj (List.getElem?_eq_getElem (by omega))]; rfl⟩
    rw [this]
/-! ### One pin more, in order -/
def putV (l : List PinH) (p : PinH) : List PinH := bub cmpPin (l ++ [p]) l.length
theorem bub_split (p : PinH) (l : List PinH) : ∀ r : List PinH, ∃ k, k ≤ l.length ∧ bub cmpPin (l ++ p :: r) l.length = l.take k ++ p :: (l.drop k ++ r) ∧ (∀ z, z ∈ l.drop k → ltP p z) ∧ ∀ z, 0 < k → l[k - 1]? = some z → ¬ ltP p z := by
  suffices h : ∀ (n : Nat) (l : List PinH), l.length = n → ∀ r : List PinH, ∃ k, k ≤ l.length ∧ bub cmpPin (l ++ p :: r) l.length = l.take k ++ p :: (l.drop k ++ r) ∧ (∀ z, z ∈ l.drop k → ltP p z) ∧ ∀ z, 0 < k → l[k - 1]? = some z → ¬ ltP p z from h _ l rfl
  intro n
  induction n with
  | zero =>
    intro l hl r
    have : l = [] := List.eq_nil_of_length_eq_zero hl
    subst this
    exact ⟨0, Nat.le_refl _, by simp [bub], fun z hz => by simp at hz, fun z h => absurd h (Nat.lt_irrefl _)⟩
  | succ n ih =>
    intro l hl r
    have hne : l ≠ [] := by rintro rfl; simp at hl
    obtain ⟨l', z, rfl⟩ : ∃ l' z, l = l' ++ [z] := ⟨l.dropLast, l.getLast hne, (List.dropLast_concat_getLast hne).symm⟩
    have hl' : l'.length = n := by simp at hl; exact hl
    have hlen : (l' ++ [z]).length = l'.length + 1 := by simp
    have hx : (l' ++ [z] ++ p :: r)[l'.length + 1]? = some p := by simp
    have hy : (l' ++ [z] ++ p :: r)[l'.length]? = some z := by simp
    by_cases hlt : ltP p z
    · have hgo := bub_go cmpPin (j := l'.length + 1) (by omega) hx (by simpa using hy) ((cmpPin_lt p z).2 hlt)
      rw [hlen, hgo]
      have e : ((l' ++ [z] ++ p :: r).set (l'.length + 1) z).set (l'.length + 1 - 1) p = l' ++ p :: (z :: r) := by
        simp [List.set_append]
      rw [e, Nat.add_sub_cancel]
      obtain ⟨k, h1, h2, h3, h4⟩ := ih l' hl' (z :: r)
      refine ⟨k, by omega, ?_, ?_, ?_⟩
      · rw [h2, List.take_append_of_le_length h1, List.drop_append_of_le_length h1]; simp
      · intro y hy
        rw [List.drop_append_of_le_length h1] at hy
        rcases List.mem_append.1 hy with hy | hy
        · exact h3 y hy
        · rw [List.mem_singleton.1 hy]; exact hlt
      · intro y hk hy
        rw [List.getElem?_append_left (by omega)] at hy
        exact h4 y hk hy
    · have hst := bub_stop cmpPin (j := l'.length + 1) (by omega) hx (by simpa using hy) (fun h => hlt ((cmpPin_lt p z).1 h))
      rw [hlen, hst]
      refine ⟨l'.length + 1, Nat.le_refl _, ?_, ?_, ?_⟩
      · rw [List.take_of_length_le (by simp), List.drop_of_length_le (by simp)]; simp
      · intro y hy; rw [List.drop_of_length_le (by simp)] at hy; cases hy
      · intro y _ hy
        rw [Nat.add_sub_cancel] at hy
        simp at hy; subst hy; exact hlt
theorem putV_perm (l : List PinH) (p : PinH) : (putV l p).Perm (l ++ [p]) := bub_perm cmpPin _ _
theorem putV_len (l : List PinH) (p : PinH) : (putV l p).length = l.length + 1 := by rw [(putV_perm l p).length_eq]; simp
theorem putV_up {l : List PinH} {p : PinH} (h : sortedP l) (hp : heldB p.sort p.id l = false) : sortedP (putV l p) := by
  obtain ⟨k, h1, h2, h3, h4⟩ := bub_split p l []
  unfold putV; rw [h2]
  have hs : sortedP (l.take k ++ l.drop k) := by rw [List.take_append_drop]; exact h
  unfold sortedP at hs ⊢
  rw [List.pairwise_append] at hs ⊢
  obtain ⟨s1, s2, s3⟩ := hs
  have hno : ∀ z, z ∈ l → isP p.sort p.id z = false := fun z hz => by
    rw [← Bool.not_eq_true]; intro e
    have : heldB p.sort p.id l = true := List.any_eq_true.2 ⟨z, hz, e⟩
    rw [this] at hp; cases hp
  have hlow : ∀ a, a ∈ l.take k → ltP a p := by
    intro a ha
    obtain ⟨j, hj⟩ := List.getElem?_of_mem ha
    have hjl := (List.getElem?_eq_some_iff.1 hj).1
    rw [List.length_take] at hjl
    rw [List.getElem?_take, if_pos (by omega)] at hj
    have hk : l[k - 1]? = some l[k - 1] := List.getElem?_eq_getElem (by omega)
    have hz := ltP_tri (h4 _ (by omega) hk) (hno _ (List.getElem_mem _))
    obtain ⟨a1, a2⟩ := List.getElem?_eq_some_iff.1 hj
    by_cases e : j = k - 1
    · subst e; rw [← a2]; exact hz
    · have := List.pairwise_iff_getElem.1 h j (k - 1) a1 (by omega) (by omega)
      rw [a2] at this
      exact ltP_trans this hz
  refine ⟨s1, ?_, ?_⟩
  · rw [List.append_nil, List.pairwise_cons]; exact ⟨h3, s2⟩
  · intro a ha b hb
    rw [List.append_nil] at hb
    rcases List.mem_cons.1 hb with rfl | hb
    · exact hlow a ha
    · exact s3 a ha b hb
/-! ### Pins more -/
def freeN (ps l : List PinH) : Nat → Bool
  | 0 => true
  | k + 1 => freeN ps l k && match l[k]? with
    | some p => !heldB p.sort p.id ps && !heldB p.sort p.id (l.take k)
    | none => true
def pinC (ps : List PinH) (fl : Int) (l : List PinH) : Int := if freeN ps l l.length then (if l.any (fun p => decide (p.epoch < fl)) then 230 else 0) else 2
def pinS (ps : List PinH) (fl : Int) (l : List PinH) : List PinH := if pinC ps fl l = 0 then l.foldl (fun a p => setP p a) ps else ps
def addS (rs : List PinH) (fl : Int) (l : List PinH) : List PinH := if pinC rs fl l = 0 then l.foldl putV rs else rs
theorem freeN_step {ps l : List PinH} {k : Nat} {p : PinH} (h : freeN ps l k = true) (hx : l[k]? = some p) (h1 : heldB p.sort p.id ps = false) (h2 : heldB p.sort p.id (l.take k) = false) : freeN ps l (k + 1) = true := by
  rw [freeN, h, hx]; simp [h1, h2]
theorem freeN_low {ps l : List PinH} : ∀ {n k : Nat}, k ≤ n → freeN ps l n = true → freeN ps l k = true
  | 0, k, h, hn => by rw [Nat.le_zero.1 h]; rfl
  | n + 1, k, h, hn => by
    rcases Nat.lt_or_ge k (n + 1) with h1 | h1
    · rw [freeN, Bool.and_eq_true] at hn
      exact freeN_low (by omega) hn.1
    · rw [show k = n + 1 by omega]; exact hn
theorem freeN_at {ps l : List PinH} {n k : Nat} {p : PinH} (h : freeN ps l n = true) (hk : k < n) (hx : l[k]? = some p) : heldB p.sort p.id ps = false ∧ heldB p.sort p.id (l.take k) = false := by
  have := freeN_low (k := k + 1) (by omega) h
  rw [freeN, hx] at this
  simpa using (by simpa using this : _ ∧ _).2
theorem freeN_bad {ps l : List PinH} {k : Nat} {p : PinH} (hx : l[k]? = some p) (h : heldB p.sort p.id ps = true ∨ heldB p.sort p.id (l.take k) = true) : freeN ps l l.length = false := by
  rw [← Bool.not_eq_true]; intro hf
  obtain ⟨h1, h2⟩ := freeN_at hf (List.getElem?_eq_some_iff.1 hx).1 hx
  rcases h with h | h
  · rw [h1] at h; cases h
  · rw [h2] at h; cases h
theorem freeN_perm {ps rs : List PinH} (h : ps.Perm rs) (l : List PinH) (k : Nat) : freeN ps l k = freeN rs l k := by
  induction k with
  | zero => rfl
  | succ k ih =>
    rw [freeN, freeN, ih]
    cases l[k]? with
    | none => rfl
    | some p => simp only [heldB_perm h]
theorem pinC_perm {ps rs : List PinH} (h : ps.Perm rs) (fl : Int) (l : List PinH) : pinC ps fl l = pinC rs fl l := by unfold pinC; rw [freeN_perm h]
theorem setP_fresh {ps : List PinH} {p : PinH} (h : heldB p.sort p.id ps = false) : setP p ps = ps ++ [p] := by
  unfold setP
  have : ps.findIdx? (isP p.sort p.id) = none := by
    rw [List.findIdx?_eq_none_iff]; intro x hx
    rw [← Bool.not_eq_true]; intro e
    have : heldB p.sort p.id ps = true := List.any_eq_true.2 ⟨x, hx, e⟩
    rw [this] at h; cases h
  rw [this]
theorem heldB_app (s i : Int) (l m : List PinH) : heldB s i (l ++ m) = (heldB s i l || heldB s i m) := List.any_append
theorem setN_eq {ps l : List PinH} {k : Nat} (h : freeN ps l k = true) (hk : k ≤ l.length) : (l.take k).foldl (fun a p => setP p a) ps = ps ++ l.take k := by
  induction k with
  | zero => simp
  | succ k ih =>
    have hx : l[k]? = some l[k] := List.getElem?_eq_getElem (by omega)
    obtain ⟨h1, h2⟩ := freeN_at h (Nat.lt_succ_self k) hx
    rw [← take_snoc hx, List.foldl_append, ih (freeN_low (by omega) h) (by omega)]
    simp only [List.foldl_cons, List.foldl_nil]
    rw [setP_fresh (by rw [heldB_app, h1, h2]; rfl), List.append_assoc]
theorem putN_fact {rs l : List PinH} {k : Nat} (hs : sortedP rs) (h : freeN rs l k = true) (hk : k ≤ l.length) : sortedP ((l.take k).foldl putV rs) ∧ ((l.take k).foldl putV rs).Perm (rs ++ l.take k) := by
  induction k with
  | zero => simpa using hs
  | succ k ih =>
    have hx : l[k]? = some l[k] := List.getElem?_eq_getElem (by omega)
    obtain ⟨h1, h2⟩ := freeN_at h (Nat.lt_succ_self k) hx
    obtain ⟨i1, i2⟩ := ih (freeN_low (by omega) h) (by omega)
    rw [← take_snoc hx, List.foldl_append]
    simp only [List.foldl_cons, List.foldl_nil]
    refine ⟨putV_up i1 ?_, (putV_perm _ _).trans ?_⟩
    · rw [heldB_perm i2, heldB_app, h1, h2]; rfl
    · rw [← List.append_assoc]; exact i2.append_right _
theorem putN_held {rs l : List PinH} {k : Nat} (hk : k ≤ l.length) (s i : Int) : heldB s i ((l.take k).foldl putV rs) = (heldB s i rs || heldB s i (l.take k)) := by
  induction k with
  | zero => simp [heldB]
  | succ k ih =>
    have hx : l[k]? = some l[k] := List.getElem?_eq_getElem (by omega)
    rw [← take_snoc hx, List.foldl_append]
    simp only [List.foldl_cons, List.foldl_nil]
    rw [heldB_perm (putV_perm _ _), heldB_app, ih (by omega), heldB_app, Bool.or_assoc]
theorem putN_len {rs l : List PinH} {k : Nat} (hk : k ≤ l.length) : ((l.take k).foldl putV rs).length = rs.length + k := by
  induction k with
  | zero => simp
  | succ k ih =>
    have hx : l[k]? = some l[k] := List.getElem?_eq_getElem (by omega)
    rw [← take_snoc hx, List.foldl_append]
    simp only [List.foldl_cons, List.foldl_nil]
    rw [putV_len, ih (by omega)]; omega
theorem HR.add {ps rs : List PinH} (h : HR ps rs) (fl : Int) (l : List PinH) : HR (pinS ps fl l) (addS rs fl l) := by
  unfold pinS addS
  rw [pinC_perm h.perm]
  split
  · rename_i hc
    have hf : freeN rs l l.length = true := by
      cases e : freeN rs l l.length with
      | true => rfl
      | false => simp [pinC, e] at hc
    have hf' := hf; rw [← freeN_perm h.perm] at hf'
    have h1 := setN_eq hf' (Nat.le_refl _)
    have h2 := putN_fact h.up hf (Nat.le_refl _)
    rw [List.take_length] at h1 h2
    rw [h1]
    exact ⟨h2.1, (h.perm.append_right l).trans h2.2.symm⟩
  · exact h
/-! ### A pin moved, dropped -/
def mvC (ps : List PinH) (p : PinH) : Int := if (heldV p.sort p.id ps).2 then (if p.epoch < (heldV p.sort p.id ps).1 then 230 else 0) else 2
def mvS (ps : List PinH) (p : PinH) : List PinH := if mvC ps p = 0 then setP p ps else ps
def mvR (rs : List PinH) (p : PinH) : List PinH := if mvC rs p = 0 then putV (rs.eraseIdx (ixF (isP p.sort p.id) rs).toNat) p else rs
theorem erase_held {l : List PinH} {k : Nat} {p : PinH} (ha : apartP l) (hx : l[k]? = some p) {s i : Int} (hk : isP s i p = true) : heldB s i (l.eraseIdx k) = false := by
  rw [← Bool.not_eq_true]; intro h
  obtain ⟨q, h1, h2⟩ := List.any_eq_true.1 h
  obtain ⟨hkl, hkp⟩ := List.getElem?_eq_some_iff.1 hx
  rw [List.eraseIdx_eq_take_drop_succ] at h1
  obtain ⟨c, d⟩ := isP_iff.1 hk; obtain ⟨e, f⟩ := isP_iff.1 h2
  have hpq : isP p.sort p.id q = true := isP_iff.2 ⟨by omega, by omega⟩
  rcases List.mem_append.1 h1 with h1 | h1
  · obtain ⟨j, hj⟩ := List.getElem?_of_mem h1
    have hjl := (List.getElem?_eq_some_iff.1 hj).1
    rw [List.length_take] at hjl
    rw [List.getElem?_take, if_pos (by omega)] at hj
    obtain ⟨a1, a2⟩ := List.getElem?_eq_some_iff.1 hj
    have := List.pairwise_iff_getElem.1 ha j k a1 hkl (by omega)
    rw [a2, hkp, isP_comm, hpq] at this; cases this
  · obtain ⟨j, hj⟩ := List.getElem?_of_mem h1
    rw [List.getElem?_drop] at hj
    obtain ⟨a1, a2⟩ := List.getElem?_eq_some_iff.1 hj
    have := List.pairwise_iff_getElem.1 ha k (k + 1 + j) hkl a1 (by omega)
    rw [a2, hkp, hpq] at this; cases this
theorem erase_perm {l : List PinH} {k : Nat} {p : PinH} (hx : l[k]? = some p) : (p :: l.eraseIdx k).Perm l := by
  obtain ⟨h1, h2⟩ := List.getElem?_eq_some_iff.1 hx
  rw [List.eraseIdx_eq_take_drop_succ]
  have h3 : l = l.take k ++ p :: l.drop (k + 1) := by
    rw [← h2, List.getElem_cons_drop]; exact (List.take_append_drop k l).symm
  exact (List.perm_middle.symm).trans (.of_eq h3.symm)
theorem set_perm {l : List PinH} {k : Nat} (hk : k < l.length) (p : PinH) : (l.set k p).Perm (p :: l.eraseIdx k) := by
  have h1 : (l.set k p)[k]? = some p := by rw [List.getElem?_set, if_pos rfl, if_pos hk]
  have := erase_perm h1
  rw [List.eraseIdx_set_eq] at this
  exact this.symm
theorem held_ix {l : List PinH} {s i : Int} (h : heldB s i l = true) : ∃ (k : Nat) (p : PinH), ixF (isP s i) l = (k : Int) ∧ l[k]? = some p ∧ isP s i p = true ∧ l.findIdx? (isP s i) = some k := by
  have h0 : ¬ ixF (isP s i) l < 0 := fun e => by rw [ixP_no.1 e] at h; cases h
  obtain ⟨p, h1, h2, _, h4⟩ := ixP_at (l := l) (s := s) (i := i) (k := (ixF (isP s i) l).toNat) (by omega)
  exact ⟨_, p, by omega, h1, h2, h4⟩
theorem erase_both {ps rs : List PinH} (h : HR ps rs) {s i : Int} {a b : Nat} {p q : PinH} (ha : ps[a]? = some p) (hb : rs[b]? = some q) (hp : isP s i p = true) (hq : isP s i q = true) : HR (ps.eraseIdx a) (rs.eraseIdx b) := by
  refine ⟨h.up.sublist (List.eraseIdx_sublist _ _), ?_⟩
  obtain ⟨c, d⟩ := isP_iff.1 hp; obtain ⟨e, f⟩ := isP_iff.1 hq
  have : p = q := apart_uniq h.apart (List.mem_of_getElem? ha) (h.perm.mem_iff.2 (List.mem_of_getElem? hb)) (isP_iff.2 ⟨by omega, by omega⟩)
  subst this
  exact List.Perm.cons_inv (((erase_perm ha).trans h.perm).trans (erase_perm hb).symm)
theorem mvC_perm {ps rs : List PinH} (h : HR ps rs) (p : PinH) : mvC ps p = mvC rs p := by unfold mvC; rw [heldV_perm h.perm h.apart]
theorem HR.move {ps rs : List PinH} (h : HR ps rs) (p : PinH) : HR (mvS ps p) (mvR rs p) := by
  unfold mvS mvR
  rw [mvC_perm h]
  split
  · rename_i hc
    have hb : heldB p.sort p.id rs = true := by
      rw [← heldV_B]
      cases e : (heldV p.sort p.id rs).2 with
      | true => rfl
      | false => simp [mvC, e] at hc
    obtain ⟨k, q, h1, h2, h3, h4⟩ := held_ix hb
    have hb' := hb; rw [← heldB_perm h.perm] at hb'
    obtain ⟨k', q', h1', h2', h3', h4'⟩ := held_ix hb'
    rw [h1, Int.toNat_natCast]
    unfold setP; rw [h4']
    have he := erase_both h h2' h2 h3' h3
    refine ⟨putV_up he.up (erase_held (sorted_apart h.up) h2 h3), ?_⟩
    refine (set_perm (List.getElem?_eq_some_iff.1 h2').1 p).trans ?_
    refine List.Perm.trans ?_ (putV_perm _ _).symm
    exact (he.perm.cons p).trans (List.perm_append_singleton p _).symm
  · exact h
def drR (rs : List PinH) (s i : Int) : List PinH := if heldB s i rs then rs.eraseIdx (ixF (isP s i) rs).toNat else rs
theorem delP_no {ps : List PinH} {s i : Int} (h : heldB s i ps = false) : delP s i ps = ps := by
  unfold delP
  have : ps.findIdx? (isP s i) = none := by
    rw [List.findIdx?_eq_none_iff]; intro x hx
    rw [← Bool.not_eq_true]; intro e
    have : heldB s i ps = true := List.any_eq_true.2 ⟨x, hx, e⟩
    rw [this] at h; cases h
  rw [this]
theorem HR.drop {ps rs : List PinH} (h : HR ps rs) (s i : Int) : HR (delP s i ps) (drR rs s i) := by
  unfold drR
  cases hb : heldB s i rs with
  | false =>
    rw [delP_no (by rw [heldB_perm h.perm]; exact hb)]
    simpa using h
  | true =>
    obtain ⟨k, q, h1, h2, h3, h4⟩ := held_ix hb
    have hb' := hb; rw [← heldB_perm h.perm] at hb'
    obtain ⟨k', q', h1', h2', h3', h4'⟩ := held_ix hb'
    rw [h1, Int.toNat_natCast]
    unfold delP; rw [h4']
    exact erase_both h h2' h2 h3' h3
/-! ### The least, the floor, what is read -/
def minE (now : Int) (ps : List PinH) : Int := ps.foldl (fun m p => min m p.epoch) now
theorem minE_snoc (now : Int) (ps : List PinH) (p : PinH) : minE now (ps ++ [p]) = min (minE now ps) p.epoch := by unfold minE; rw [List.foldl_append]; rfl
theorem minE_le (now : Int) (ps : List PinH) : minE now ps ≤ now ∧ (∀ p, p ∈ ps → minE now ps ≤ p.epoch) ∧ ∀ b, b ≤ now → (∀ p, p ∈ ps → b ≤ p.epoch) → b ≤ minE now ps := by
  unfold minE
  induction ps generalizing now with
  | nil => simp
  | cons a ps ih =>
    obtain ⟨h1, h2, h3⟩ := ih (min now a.epoch)
    simp only [List.foldl_cons]
    refine ⟨by omega, fun p hp => ?_, fun b hb hp => h3 b ?_ fun p hp' => hp p (List.mem_cons_of_mem _ hp')⟩
    · rcases List.mem_cons.1 hp with rfl | hp
      · omega
      · exact h2 p hp
    · have := hp a (List.mem_cons_self ..); omega
theorem minE_perm {ps rs : List PinH} (h : ps.Perm rs) (now : Int) : minE now ps = minE now rs := by
  obtain ⟨a1, a2, a3⟩ := minE_le now ps
  obtain ⟨b1, b2, b3⟩ := minE_le now rs
  have h1 := b3 (minE now ps) a1 fun p hp => a2 p (h.mem_iff.2 hp)
  have h2 := a3 (minE now rs) b1 fun p hp => b2 p (h.mem_iff.1 hp)
  omega
def readV (fl at_ now : Int) : Int × Int :=
  if (if at_ = 0 then now else at_) > now then (0, 231) else
    if (if at_ = 0 then now else at_) < fl then (0, 230) else (if at_ = 0 then now else at_, 0)
theorem Seen.len {es : Array MapEntry} {ck : Nat} {seen : Array Nat} {done ps : List PinH} (h : MapIs es ck ps) (hs : Seen es seen done) : done.length ≤ ps.length := by
  obtain ⟨ds, rest, h1, h2, h3⟩ := hs
  have e1 := congrArg List.length h.pairs
  have e2 := congrArg List.length h3
  have e3 := h1.length_eq
  simp only [List.length_map, List.length_append] at e1 e2 e3
  omega
theorem any_none {l : List PinH} {p : PinH → Bool} {i : Nat} (h : ∀ j u, j < i → l[j]? = some u → p u = false) (hi : l.length ≤ i) : l.any p = false := by
  rw [← Bool.not_eq_true, List.any_eq_true]
  rintro ⟨x, hx, hp⟩
  obtain ⟨j, hj⟩ := List.getElem?_of_mem hx
  rw [h j x (by have := (List.getElem?_eq_some_iff.1 hj).1; omega) hj] at hp; cases hp
theorem mvC_no {ps : List PinH} {p : PinH} (h : (heldV p.sort p.id ps).2 = false) : mvC ps p = 2 := by unfold mvC; rw [h]; rfl
theorem mvC_low {ps : List PinH} {p : PinH} (h : (heldV p.sort p.id ps).2 = true) (h' : p.epoch < (heldV p.sort p.id ps).1) : mvC ps p = 230 := by unfold mvC; rw [h, if_pos rfl, if_pos h']
theorem mvC_ok {ps : List PinH} {p : PinH} (h : (heldV p.sort p.id ps).2 = true) (h' : ¬ p.epoch < (heldV p.sort p.id ps).1) : mvC ps p = 0 := by unfold mvC; rw [h, if_pos rfl, if_neg h']
/-! ### What the reference's walks need -/
theorem putV_go {ys l : List PinH} {k : Nat} {p x y : PinH} (hk : 0 < k) (hx : ys[k]? = some x) (hy : ys[k - 1]? = some y) (h : ltP x y) (hi : bub cmpPin ys k = putV l p) : bub cmpPin ((ys.set (k - 1) x).set k y) (k - 1) = putV l p := by
  rw [List.set_comm _ _ (by omega), ← bub_go cmpPin hk hx hy ((cmpPin_lt x y).2 h)]; exact hi
theorem putV_stop {ys l : List PinH} {k : Nat} {p x y : PinH} (hk : 0 < k) (hx : ys[k]? = some x) (hy : ys[k - 1]? = some y) (h : ¬ ltP x y) (hi : bub cmpPin ys k = putV l p) : putV l p = ys := by
  rw [← hi, bub_stop cmpPin hk hx hy (fun e => h ((cmpPin_lt x y).1 e))]
theorem putV_end {ys l : List PinH} {k : Nat} {p : PinH} (hk : k = 0) (hi : bub cmpPin ys k = putV l p) : putV l p = ys := by
  rw [← hi, hk, bub_zero]
theorem eraseN_hit {l : List PinH} {i : Nat} {x : PinH} (hx : l[i]? = some x) : (l.take (i + 1)).eraseIdx i = (l.take i).eraseIdx i := by
  have hl := (List.getElem?_eq_some_iff.1 hx).1
  have h1 : (l.take i).length = i := by rw [List.length_take]; omega
  rw [← take_snoc hx, List.eraseIdx_append_of_length_le (by omega), List.eraseIdx_of_length_le (l := l.take i) (by omega), h1, Nat.sub_self]
  simp
theorem eraseN_miss {l : List PinH} {i n : Nat} {x : PinH} (hx : l[i]? = some x) (h : ¬ i = n) : (l.take (i + 1)).eraseIdx n = (l.take i).eraseIdx n ++ [x] := by
  have hl := (List.getElem?_eq_some_iff.1 hx).1
  rw [← take_snoc hx]
  rcases Nat.lt_or_ge n i with h1 | h1
  · rw [List.eraseIdx_append_of_lt_length (by rw [List.length_take]; omega)]
  · rw [List.eraseIdx_of_length_le (by simp; omega), List.eraseIdx_of_length_le (by rw [List.length_take]; omega)]
theorem addC_bad {rs l : List PinH} {k : Nat} {p : PinH} {fo : Int} (hk : k ≤ l.length) (hx : l[k]? = some p) (h : decide (ixF (isP p.sort p.id) ((l.take k).foldl putV rs) ≥ 0) = true) : pinC rs fo l = 2 := by
  rw [ixP_held, putN_held hk, Bool.or_eq_true] at h
  unfold pinC; rw [freeN_bad hx h]; rfl
theorem addC_step {rs l : List PinH} {k : Nat} {p : PinH} (hk : k ≤ l.length) (hf : freeN rs l k = true) (hx : l[k]? = some p) (h : decide (ixF (isP p.sort p.id) ((l.take k).foldl putV rs) ≥ 0) = false) : freeN rs l (k + 1) = true := by
  rw [ixP_held, putN_held hk, Bool.or_eq_false_iff] at h
  exact freeN_step hf hx h.1 h.2
theorem addC_end {rs l : List PinH} {k : Nat} {fo : Int} {b : Bool} (hk : l.length ≤ k) (hf : freeN rs l k = true) (hb : b = (l.take k).any fun p => decide (p.epoch < fo)) (hkl : k ≤ l.length) : pinC rs fo l = if b then 230 else 0 := by
  have e : k = l.length := by omega
  subst e
  rw [List.take_length] at hb
  unfold pinC; rw [hf, hb]; rfl
theorem any_snoc {l : List PinH} {i : Nat} {x : PinH} {q : PinH → Bool} (hx : l[i]? = some x) : (l.take (i + 1)).any q = ((l.take i).any q || q x) := by
  rw [← take_snoc hx, List.any_append]; simp
theorem putN_snoc {rs l : List PinH} {i : Nat} {x : PinH} (hx : l[i]? = some x) : (l.take (i + 1)).foldl putV rs = putV ((l.take i).foldl putV rs) x := by
  rw [← take_snoc hx, List.foldl_append]; rfl
theorem minE_take {now : Int} {l : List PinH} {i : Nat} {x : PinH} (hx : l[i]? = some x) : minE now (l.take (i + 1)) = min (minE now (l.take i)) x.epoch := by rw [← take_snoc hx, minE_snoc]
theorem sortP_perm {l m : List PinH} (h : l.Perm m) : sortP l = sortP m := by
  by_cases hh : ∃ rs, sortedP rs ∧ l.Perm rs
  · obtain ⟨rs, h1, h2⟩ := hh
    rw [sortP_eq h1 h2, sortP_eq h1 (h.symm.trans h2)]
  · have e1 : sortP l = [] := by unfold sortP; rw [dif_neg hh]
    have e2 : sortP m = [] := by
      unfold sortP; rw [dif_neg]
      rintro ⟨rs, h1, h2⟩; exact hh ⟨rs, h1, h.trans h2⟩
    rw [e1, e2]
theorem cmpPin_or (a b : PinH) : cmpPin a b = orL [cmpI a.sort b.sort, cmpI a.id b.id] := by
  unfold cmpPin
  have h : cmpI a.sort b.sort = if a.sort < b.sort then -1 else if a.sort > b.sort then 1 else 0 := rfl
  split
  · simp [orL, h, *]
  · split
    · simp [orL, h, *]
    · rename_i h1 h2
      have : cmpI a.sort b.sort = 0 := by rw [h, if_neg h1, if_neg h2]
      rw [this]
      by_cases h3 : cmpI a.id b.id = 0
      · simp [orL, h3]
      · simp [orL, h3]
end Tp
