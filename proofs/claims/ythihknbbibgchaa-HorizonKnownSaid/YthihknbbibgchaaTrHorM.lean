/- Acts on a horizon: as they lie in memory, and what they leave: plain data. -/
import Derived.Test.YthihknbbibgchaaTrHorP
import Derived.Test.YthihknbbibgchaaTrArena2
import Derived.Test.YthihknbbibgchaaTrTrod
import Derived.Test.YthihknbbibgchaaTrAggS
set_option linter.all false
namespace Tp
open Go
structure HAct where
  do_ : Int
  l : List PinH
  p : PinH
  now : Int
def hactRep (cs : List Value) (a : HAct) (w : World) : Prop := ∃ v, cs = [.int .i64 a.do_, v, .int .u8 a.p.sort, .int .u64 a.p.id, .int .u64 a.p.epoch, .int .u64 a.now] ∧ SlAt 3 v a.l.length (a.l.flatMap pinE) w
def HActT : Ty HAct := ⟨6, hactRep, fun _ _ _ ⟨_, h, _⟩ => by rw [h]; rfl⟩
theorem hact_open {F X : Nat → Prop} {w0 w : World} {L : List Chunk} {R : List (World → Prop)} {v : Value} {n : Nat} {cs : List Value} {xs : List HAct} {i : Nat} {a : HAct} (M : Mem F X w0 L R w) (j k : Nat)
    (hj : R[j]? = some (SlAt 6 v n cs)) (hk : R[k]? = some (RepL HActT cs xs)) (hn : n = xs.length) (hx : xs[i]? = some a) :
    ∃ lv, Mem F X w0 L (EC v 6 i [.int .i64 a.do_, lv, .int .u8 a.p.sort, .int .u64 a.p.id, .int .u64 a.p.epoch, .int .u64 a.now] :: SlAt 3 lv a.l.length (a.l.flatMap pinE) :: R) w := by
  obtain ⟨lv, hcs, _⟩ := (M.rep k hk).2 i a hx
  have get : ∀ w, RepL HActT cs xs w → SlAt 3 lv a.l.length (a.l.flatMap pinE) w := fun w h => by
    obtain ⟨lv', hcs', h'⟩ := h.2 i a hx
    rw [hcs] at hcs'
    simp only [List.cons.injEq, true_and, and_true] at hcs'
    subst hcs'
    exact h'
  refine ⟨lv, ?_⟩
  have M1 := M.add ((M.shr k hk).imp fun w h => get w h)
  refine M1.add (((M.shr j hj).and (M.shr k hk)).imp fun w ⟨h1, h2⟩ => ?_)
  subst hn
  obtain ⟨cs', h3, h4⟩ := RepS.elem (T := HActT) ⟨cs, h1, h2⟩ hx
  obtain ⟨hb, hc⟩ := h4
  refine ⟨hb, fun m hm => ?_⟩
  have hi : i < xs.length := (List.getElem?_eq_some_iff.1 hx).1
  rw [Nat.add_assoc, h1.cell _ (mul_add_lt hi hm)]
  have : ((cs.drop (i * 6)).take 6)[m]? = [Value.int .i64 a.do_, lv, .int .u8 a.p.sort, .int .u64 a.p.id, .int .u64 a.p.epoch, .int .u64 a.now][m]? := by rw [← hcs]; rfl
  rw [List.getElem?_take, if_pos hm, List.getElem?_drop] at this
  exact this
def fewH (l : List HAct) (most : Int) : Bool := (l.take 100).all (fun a => decide (a.l.length ≤ 8)) && decide ((l.length : Int) ≤ most)
theorem fewH_bad {l : List HAct} {i : Nat} {a : HAct} {m : Int} (hx : l[i]? = some a) (hi : i < 100) (h : ¬ a.l.length ≤ 8) : fewH l m = false := by
  unfold fewH
  have : (l.take 100).all (fun a => decide (a.l.length ≤ 8)) = false := by
    rw [← Bool.not_eq_true, List.all_eq_true]
    intro hh
    have hm : a ∈ l.take 100 := List.mem_of_getElem? (i := i) (by rw [List.getElem?_take, if_pos hi]; exact hx)
    exact h (by simpa using hh a hm)
  rw [this]; rfl
theorem fewH_step {l : List HAct} {i : Nat} {a : HAct} (h : (l.take i).all (fun a => decide (a.l.length ≤ 8)) = true) (hx : l[i]? = some a) (ha : a.l.length ≤ 8) : (l.take (i + 1)).all (fun a => decide (a.l.length ≤ 8)) = true := by
  rw [← take_snoc hx, List.all_append, h]; simp [ha]
theorem fewH_end {l : List HAct} {i : Nat} {m : Int} (h : (l.take i).all (fun a => decide (a.l.length ≤ 8)) = true) (hi : l.length ≤ i ∨ i = 100) (hl : i ≤ l.length) : decide ((l.length : Int) ≤ m) = fewH l m := by
  unfold fewH
  have : (l.take 100).all (fun a => decide (a.l.length ≤ 8)) = true := by
    rcases hi with hi | hi
    · rw [List.all_eq_true] at h ⊢
      intro x hx
      rw [List.take_of_length_le hi] at h
      exact h x (List.mem_of_mem_take hx)
    · rw [← hi]; exact h
  rw [this]; rfl
theorem fewH_fact {l : List HAct} {m : Int} (h : fewH l m = true) : (l.length : Int) ≤ m ∧ (m ≤ 100 → ∀ a, a ∈ l → a.l.length ≤ 8) := by
  unfold fewH at h
  rw [Bool.and_eq_true, decide_eq_true_eq] at h
  refine ⟨h.2, fun hm a ha => ?_⟩
  rw [List.take_of_length_le (by omega), List.all_eq_true] at h
  simpa using h.1 a ha
/-! ### What a call leaves -/
def doPs (ps : List PinH) (fo : Int) (a : HAct) : List PinH := if pickI a.do_ 6 = 2 then mvS ps a.p else if pickI a.do_ 6 = 3 then delP a.p.sort a.p.id ps else if pickI a.do_ 6 = 4 ∨ pickI a.do_ 6 = 5 then ps else pinS ps fo a.l
def doRs (rs : List PinH) (fo : Int) (a : HAct) : List PinH := if pickI a.do_ 6 = 2 then mvR rs a.p else if pickI a.do_ 6 = 3 then drR rs a.p.sort a.p.id else if pickI a.do_ 6 = 4 ∨ pickI a.do_ 6 = 5 then rs else addS rs fo a.l
def doFl (rs : List PinH) (fo : Int) (a : HAct) : Int := if pickI a.do_ 6 = 4 ∨ pickI a.do_ 6 = 5 then max fo (minE a.now rs) else fo
theorem HR.does {ps rs : List PinH} (h : HR ps rs) (fo : Int) (a : HAct) : HR (doPs ps fo a) (doRs rs fo a) := by
  unfold doPs doRs
  split
  · exact h.move _
  · split
    · exact h.drop _ _
    · split
      · exact h
      · exact h.add _ _
theorem setP_len (p : PinH) (ps : List PinH) : (setP p ps).length ≤ ps.length + 1 := by
  unfold setP
  split
  · simp
  · simp
theorem delP_len (s i : Int) (ps : List PinH) : (delP s i ps).length ≤ ps.length := by
  unfold delP
  split
  · exact List.length_eraseIdx_le _ _
  · exact Nat.le_refl _
theorem delP_len' (s i : Int) (ps : List PinH) : ps.length ≤ (delP s i ps).length + 1 := by
  unfold delP
  split
  · rename_i k hk
    have := List.length_eraseIdx (l := ps) (i := k)
    rw [this]; split <;> omega
  · omega
theorem setF_len (l : List PinH) : ∀ ps : List PinH, (l.foldl (fun a p => setP p a) ps).length ≤ ps.length + l.length := by
  induction l with
  | nil => intro ps; simp
  | cons p l ih =>
    intro ps
    have h1 := ih (setP p ps)
    have h2 := setP_len p ps
    simp only [List.foldl_cons, List.length_cons]; omega
theorem pinS_len (ps : List PinH) (fo : Int) (l : List PinH) : (pinS ps fo l).length ≤ ps.length + l.length := by
  unfold pinS
  split
  · exact setF_len l ps
  · omega
theorem mvS_len (ps : List PinH) (p : PinH) : (mvS ps p).length ≤ ps.length + 1 := by
  unfold mvS
  split
  · exact setP_len p ps
  · omega
theorem doPs_len {ps : List PinH} {fo : Int} {a : HAct} (h : a.l.length ≤ 8) : (doPs ps fo a).length ≤ ps.length + 8 := by
  have h1 := mvS_len ps a.p; have h2 := delP_len a.p.sort a.p.id ps; have h3 := pinS_len ps fo a.l
  unfold doPs
  repeat' split
  all_goals omega
/-! ### There is an order -/
theorem HR.more {ps rs : List PinH} (h : HR ps rs) {p : PinH} (hp : heldB p.sort p.id ps = false) : HR (ps ++ [p]) (putV rs p) := by
  refine ⟨putV_up h.up (by rw [← heldB_perm h.perm]; exact hp), ?_⟩
  exact (h.perm.append_right [p]).trans (putV_perm rs p).symm
theorem hr_ex : ∀ {ps : List PinH}, apartP ps → ∃ rs, HR ps rs := by
  suffices h : ∀ (n : Nat) (ps : List PinH), ps.length = n → apartP ps → ∃ rs, HR ps rs from fun {ps} ha => h _ ps rfl ha
  intro n
  induction n with
  | zero => intro ps hl _; rw [List.eq_nil_of_length_eq_zero hl]; exact ⟨[], HR.nil⟩
  | succ n ih =>
    intro ps hl ha
    have hne : ps ≠ [] := by rintro rfl; simp at hl
    obtain ⟨l, p, rfl⟩ : ∃ l p, ps = l ++ [p] := ⟨ps.dropLast, ps.getLast hne, (List.dropLast_concat_getLast hne).symm⟩
    unfold apartP at ha
    rw [List.pairwise_append] at ha
    obtain ⟨h1, _, h3⟩ := ha
    obtain ⟨rs, hrs⟩ := ih l (by simpa using hl) h1
    refine ⟨_, hrs.more (p := p) ?_⟩
    rw [← Bool.not_eq_true]; intro hb
    obtain ⟨x, hx, hk⟩ := List.any_eq_true.1 hb
    have := h3 x hx p (List.mem_singleton.2 rfl)
    rw [isP_comm, hk] at this; cases this
theorem sortP_is {ps : List PinH} (ha : apartP ps) : HR ps (sortP ps) := by
  obtain ⟨rs, h⟩ := hr_ex ha
  rw [h.sort]; exact h
theorem sortP_len {ps : List PinH} (ha : apartP ps) : (sortP ps).length = ps.length := (sortP_is ha).perm.length_eq.symm
theorem sortP_mem {ps : List PinH} (ha : apartP ps) {p : PinH} : p ∈ sortP ps ↔ p ∈ ps := (sortP_is ha).perm.mem_iff.symm
/-! ### The floor -/
structure FlI (ps : List PinH) (fo now : Int) : Prop where
  apart : apartP ps
  low : ∀ p, p ∈ ps → fo ≤ p.epoch
  high : ∀ p, p ∈ ps → p.epoch ≤ now
  floor : fo ≤ now
theorem FlI.nil : FlI [] 0 0 := ⟨.nil, fun _ h => (by cases h), fun _ h => (by cases h), Int.le_refl _⟩
theorem FlI.later {ps : List PinH} {fo now now' : Int} (h : FlI ps fo now) (hn : now ≤ now') : FlI ps fo now' := ⟨h.apart, h.low, fun p hp => Int.le_trans (h.high p hp) hn, Int.le_trans h.floor hn⟩
theorem FlI.raise {ps : List PinH} {fo now : Int} (h : FlI ps fo now) : FlI ps (max fo (minE now ps)) now := by
  obtain ⟨m1, m2, m3⟩ := minE_le now ps
  refine ⟨h.apart, fun p hp => ?_, h.high, ?_⟩
  · have := h.low p hp; have := m2 p hp; omega
  · have := h.floor; omega
theorem FlI.drop {ps : List PinH} {fo now : Int} (h : FlI ps fo now) (s i : Int) : FlI (delP s i ps) fo now := by
  have hs := (sortP_is h.apart).drop s i
  have hsub : ∀ p, p ∈ delP s i ps → p ∈ ps := fun p hp => by
    unfold delP at hp
    split at hp
    · exact (List.eraseIdx_sublist _ _).subset hp
    · exact hp
  exact ⟨hs.apart, fun p hp => h.low p (hsub p hp), fun p hp => h.high p (hsub p hp), h.floor⟩
theorem FlI.move {ps : List PinH} {fo now : Int} (h : FlI ps fo now) {p : PinH} (hp : p.epoch ≤ now) : FlI (mvS ps p) fo now := by
  have hs := (sortP_is h.apart).move p
  refine ⟨hs.apart, ?_, ?_, h.floor⟩
  all_goals
    intro q hq
    unfold mvS at hq
    split at hq
    · rename_i hc
      have hb : heldB p.sort p.id ps = true := by
        rw [← heldV_B]
        cases e : (heldV p.sort p.id ps).2 with
        | true => rfl
        | false => rw [mvC_no e] at hc; cases hc
      obtain ⟨k, r, h1, h2, h3, h4⟩ := held_ix hb
      have hv := heldV_mem h.apart (List.mem_of_getElem? h2) h3
      have hle : r.epoch ≤ p.epoch := by
        apply Classical.byContradiction
        intro hlt
        rw [mvC_low (by rw [hv]) (by rw [hv]; simp only; omega)] at hc; cases hc
      unfold setP at hq
      rw [h4] at hq
      rcases List.mem_or_eq_of_mem_set hq with hq | rfl
      · first | exact h.low q hq | exact h.high q hq
      · have := h.low r (List.mem_of_getElem? h2); omega
    · first | exact h.low q hq | exact h.high q hq
theorem FlI.pin {ps : List PinH} {fo now : Int} (h : FlI ps fo now) {p : PinH} (hp : p.epoch ≤ now) : FlI (pinS ps fo [p]) fo now := by
  have hs := (sortP_is h.apart).add fo [p]
  refine ⟨hs.apart, ?_, ?_, h.floor⟩
  all_goals
    intro q hq
    unfold pinS at hq
    split at hq
    · rename_i hc
      have hfr : freeN ps [p] 1 = true := by
        cases e : freeN ps [p] 1 with
        | true => rfl
        | false => simp [pinC, e] at hc
      have hfl : fo ≤ p.epoch := by
        apply Classical.byContradiction
        intro hlt
        have : p.epoch < fo := by omega
        simp [pinC, hfr, this] at hc
      have hfre := (freeN_at hfr (Nat.lt_succ_self 0) rfl).1
      simp only [List.foldl_cons, List.foldl_nil] at hq
      rw [setP_fresh hfre] at hq
      rcases List.mem_append.1 hq with hq | hq
      · first | exact h.low q hq | exact h.high q hq
      · rw [List.mem_singleton.1 hq]; omega
    · first | exact h.low q hq | exact h.high q hq
theorem FlI.read {ps : List PinH} {fo now : Int} (h : FlI ps fo now) {p : PinH} (hp : p ∈ ps) (h0 : p.epoch > 0) : readV fo p.epoch now = (p.epoch, 0) := by
  have h1 := h.low p hp; have h2 := h.high p hp
  unfold readV
  rw [if_neg (show ¬ p.epoch = 0 by omega), if_neg (by omega), if_neg (by omega)]
theorem pinC_ok {ps : List PinH} {fo : Int} {p : PinH} (h : pinC ps fo [p] = 0) : fo ≤ p.epoch := by
  unfold pinC at h
  split at h
  · split at h
    · cases h
    · rename_i hh; simp at hh; exact hh
  · cases h
theorem read_ok {fo at_ now : Int} (h0 : at_ > 0) (h1 : fo ≤ at_) (h2 : at_ ≤ now) : readV fo at_ now = (at_, 0) := by
  unfold readV
  rw [if_neg (show ¬ at_ = 0 by omega), if_neg (by omega), if_neg (by omega)]
/-- all dropped, one by one -/
theorem delN_held {ps : List PinH} (ha : apartP ps) {k : Nat} (hk : k ≤ (sortP ps).length) : ((sortP ps).take k).foldl (fun a p => delP p.sort p.id a) ps |>.Perm ((sortP ps).drop k) := by
  induction k with
  | zero => simpa using (sortP_is ha).perm
  | succ k ih =>
    have hx : (sortP ps)[k]? = some (sortP ps)[k] := List.getElem?_eq_getElem (by omega)
    rw [← take_snoc hx, List.foldl_append]
    simp only [List.foldl_cons, List.foldl_nil]
    have ih := ih (by omega)
    generalize ((sortP ps).take k).foldl (fun a p => delP p.sort p.id a) ps = qs at ih
    have hap : apartP qs := (apart_perm ih).2 ((sorted_apart (sortP_is ha).up).sublist (List.drop_sublist _ _))
    have hmem : (sortP ps)[k] ∈ qs := ih.mem_iff.2 (by rw [List.drop_eq_getElem_cons (by omega)]; exact List.mem_cons_self ..)
    have hb : heldB (sortP ps)[k].sort (sortP ps)[k].id qs = true := List.any_eq_true.2 ⟨_, hmem, isP_self _⟩
    obtain ⟨j, r, h1, h2, h3, h4⟩ := held_ix hb
    have : (sortP ps)[k] = r := apart_uniq hap hmem (List.mem_of_getElem? h2) h3
    unfold delP; rw [h4]
    simp only
    have he := erase_perm h2
    rw [← this] at he
    rw [List.drop_eq_getElem_cons (by omega)] at ih
    exact List.Perm.cons_inv (he.trans ih)
theorem delN_is {ps : List PinH} (ha : apartP ps) {k : Nat} (hk : k < (sortP ps).length) {p : PinH} (hx : (sortP ps)[k]? = some p) : (heldV p.sort p.id (((sortP ps).take k).foldl (fun a p => delP p.sort p.id a) ps)).2 = true := by
  rw [heldV_B]
  have hp := delN_held ha (k := k) (by omega)
  refine List.any_eq_true.2 ⟨p, hp.mem_iff.2 ?_, isP_self p⟩
  rw [List.drop_eq_getElem_cons hk, (List.getElem?_eq_some_iff.1 hx).2]
  exact List.mem_cons_self ..
theorem delN_end {ps : List PinH} (ha : apartP ps) {k : Nat} (hk : k = (sortP ps).length) : ((sortP ps).take k).foldl (fun a p => delP p.sort p.id a) ps = [] := by
  have hp := delN_held ha (k := k) (by omega)
  rw [hk, List.drop_length] at hp
  rw [hk]
  exact List.perm_nil.1 hp
end Tp
