/- The arena's calls, as plain functions. -/
import Derived.Test.YtdaafologmjeeaaTpArena
namespace Tp
open Go

def ndZero : Nd := ⟨false, [], [], []⟩
def hdZero : Handle := ⟨0, 0⟩
def leastF (l : List RPlace) : Nat := l.findIdx fun p => !p.used
def rmake (l : List RPlace) (n : Nd) : List RPlace × Handle :=
  match l[leastF l]? with
  | some p => (l.set (leastF l) ⟨true, p.turn + 1, n⟩, ⟨leastF l, p.turn + 1⟩)
  | none => (l ++ [⟨true, 1, n⟩], ⟨leastF l, 1⟩)
def rnode (l : List RPlace) (i : Nat) : Nd := match l[i]? with | some p => p.node | none => ndZero
def rget (l : List RPlace) (h : Handle) : Nd × Int := if rhas l h then (rnode l h.at_.toNat, 0) else (ndZero, 110)
def rput (l : List RPlace) (h : Handle) (n : Nd) : List RPlace × Int := if rhas l h then (l.set h.at_.toNat ⟨true, h.turn, n⟩, 0) else (l, 110)
def free1 (l : List RPlace) (h : Handle) : List RPlace := l.set h.at_.toNat ⟨false, h.turn, ndZero⟩
def freeAll (l : List RPlace) (hs : List Handle) : List RPlace := hs.foldl free1 l
def freeable (l : List RPlace) (hs : List Handle) : Bool := hs.all (rhas l) && decide hs.Nodup
def rfree (l : List RPlace) (hs : List Handle) : List RPlace × Int := if freeable l hs then (freeAll l hs, 0) else (l, 110)
def used1 (l : List RPlace) (i : Nat) : List Handle := match l[i]? with | some p => if p.used then [⟨i, p.turn⟩] else [] | none => []
def usedTo (l : List RPlace) (i : Nat) : List Handle := (List.range i).flatMap (used1 l)
def rused (l : List RPlace) : List Handle := usedTo l l.length
def pickI (i n : Int) : Int := if n ≤ 0 then 0 else (i.tmod n + n).tmod n

section
variable {l : List RPlace} {ks : List Int} {i : Nat} {p : RPlace} {h : Handle} {t : Int} {n : Nd}
theorem rhas_iff : rhas l h = true ↔ 0 ≤ h.at_ ∧ ∃ p, l[h.at_.toNat]? = some p ∧ p.used = true ∧ p.turn = h.turn := by
  unfold rhas
  cases hp : l[h.at_.toNat]? with
  | none => simp
  | some p => simp
theorem rhas_place (hh : rhas l h = true) : ∃ p, l[h.at_.toNat]? = some p ∧ p.used = true ∧ p.turn = h.turn ∧ 0 ≤ h.at_ ∧ h.at_.toNat < l.length := by
  obtain ⟨h0, p, hp, h1, h2⟩ := rhas_iff.1 hh
  exact ⟨p, hp, h1, h2, h0, (List.getElem?_eq_some_iff.1 hp).1⟩
theorem isFree_nat : isFree l (i : Int) = (match l[i]? with | some p => !p.used | none => false) := by
  unfold isFree; rw [Int.toNat_natCast]; cases l[i]? <;> simp
theorem isFree_at (hp : l[i]? = some p) : isFree l (i : Int) = !p.used := by rw [isFree_nat, hp]
theorem isFree_at' {a : Int} (h0 : 0 ≤ a) (hp : l[a.toNat]? = some p) : isFree l a = !p.used := by
  have := isFree_at hp
  rwa [Int.toNat_of_nonneg h0] at this
theorem leastF_hit (hi : i < l.length) (hf : isFree l (i : Int) = true) (hb : ∀ j : Nat, j < i → isFree l (j : Int) = false) : leastF l = i := by
  unfold leastF
  rw [List.findIdx_eq hi]
  refine ⟨?_, fun j hj => ?_⟩
  · rw [isFree_nat, List.getElem?_eq_getElem hi] at hf; exact hf
  · have := hb j hj
    rw [isFree_nat, List.getElem?_eq_getElem (by omega)] at this; simpa using this
theorem leastF_all (hb : ∀ j : Nat, j < i → isFree l (j : Int) = false) (hi : l.length ≤ i) : leastF l = l.length := by
  unfold leastF
  rw [List.findIdx_eq_length]
  intro p hp
  obtain ⟨j, hj⟩ := List.getElem?_of_mem hp
  have hlt := (List.getElem?_eq_some_iff.1 hj).1
  have := hb j (by omega)
  rw [isFree_at hj] at this; simpa using this
theorem leastF_le : leastF l ≤ l.length := List.findIdx_le_length
theorem leastF_free (hp : l[leastF l]? = some p) : p.used = false := by
  have hlt := (List.getElem?_eq_some_iff.1 hp)
  have := List.findIdx_getElem (w := hlt.1)
  rw [← hlt.2]
  have h2 : (!(l[leastF l]'hlt.1).used) = true := this
  simpa using h2
theorem free_set_used (hK : FreeOk ks l) (hp : l[i]? = some p) (hu : p.used = true) : FreeOk ks (l.set i ⟨true, t, n⟩) := by
  refine ⟨hK.1, fun k => ?_⟩
  rw [hK.2]
  refine exists_congr fun j => and_congr_right fun _ => ?_
  rw [List.getElem?_set]
  by_cases e : i = j
  · subst e
    have := (List.getElem?_eq_some_iff.1 hp).1
    have e2 : l[i].used = true := by rw [(List.getElem?_eq_some_iff.1 hp).2]; exact hu
    simp [this, e2]
  · simp [e]
theorem free_make_old (hK : FreeOk ks l) (hi : i < l.length) : FreeOk (ks.erase (i : Int)) (l.set i ⟨true, t, n⟩) := by
  refine ⟨hK.1.erase _, fun k => ?_⟩
  rw [hK.1.mem_erase_iff, hK.2]
  constructor
  · rintro ⟨hne, j, rfl, q, hq, hu⟩
    refine ⟨j, rfl, q, ?_, hu⟩
    rw [List.getElem?_set, if_neg (fun e => hne (by rw [e]))]; exact hq
  · rintro ⟨j, rfl, q, hq, hu⟩
    rw [List.getElem?_set] at hq
    split at hq
    · simp [hi] at hq; subst hq; cases hu
    · rename_i hne; exact ⟨fun e => hne (by omega), j, rfl, q, hq, hu⟩
theorem free_make_new (hK : FreeOk ks l) (hi : i = l.length) : FreeOk (ks.erase (i : Int)) (l ++ [⟨true, t, n⟩]) := by
  subst hi
  refine ⟨hK.1.erase _, fun k => ?_⟩
  rw [hK.1.mem_erase_iff, hK.2]
  constructor
  · rintro ⟨hne, j, rfl, q, hq, hu⟩
    exact ⟨j, rfl, q, by rw [List.getElem?_append_left (List.getElem?_eq_some_iff.1 hq).1]; exact hq, hu⟩
  · rintro ⟨j, rfl, q, hq, hu⟩
    rcases Nat.lt_or_ge j l.length with hj | hj
    · rw [List.getElem?_append_left hj] at hq
      exact ⟨by omega, j, rfl, q, hq, hu⟩
    · rw [List.getElem?_append_right hj] at hq
      cases hjj : j - l.length with
      | zero => rw [hjj] at hq; simp at hq; subst hq; cases hu
      | succ m => rw [hjj] at hq; simp at hq
theorem free_free (hK : FreeOk ks l) (hi : i < l.length) : FreeOk (sadd (i : Int) ks) (l.set i ⟨false, t, n⟩) := by
  have hset : ∀ k : Int, (∃ j : Nat, k = j ∧ ∃ p, (l.set i ⟨false, t, n⟩)[j]? = some p ∧ p.used = false) ↔ k ∈ ks ∨ k = i := by
    intro k
    rw [hK.2]
    constructor
    · rintro ⟨j, rfl, q, hq, hu⟩
      rw [List.getElem?_set] at hq
      split at hq
      · rename_i e; right; rw [e]
      · left; exact ⟨j, rfl, q, hq, hu⟩
    · rintro (⟨j, rfl, q, hq, hu⟩ | rfl)
      · refine ⟨j, rfl, ?_⟩
        rw [List.getElem?_set]
        split
        · rename_i e; subst e; simp [hi]
        · exact ⟨q, hq, hu⟩
      · exact ⟨i, rfl, ⟨false, t, n⟩, by rw [List.getElem?_set]; simp [hi], rfl⟩
  unfold sadd
  split
  · rename_i hm
    refine ⟨hK.1, fun k => ?_⟩
    rw [hset]
    exact ⟨.inl, fun h => h.elim id fun e => e ▸ hm⟩
  · rename_i hm
    refine ⟨List.nodup_append.2 ⟨hK.1, by simp, fun a ha b hb e => ?_⟩, fun k => ?_⟩
    · simp at hb; subst hb; exact hm (e ▸ ha)
    · rw [hset]; simp
theorem rmake_old (hp : l[leastF l]? = some p) : rmake l n = (l.set (leastF l) ⟨true, p.turn + 1, n⟩, ⟨leastF l, p.turn + 1⟩) := by unfold rmake; rw [hp]
theorem rmake_new (he : leastF l = l.length) : rmake l n = (l ++ [⟨true, 1, n⟩], ⟨leastF l, 1⟩) := by
  unfold rmake; rw [List.getElem?_eq_none (by omega)]
theorem usedTo_succ (l : List RPlace) (i : Nat) : usedTo l (i + 1) = usedTo l i ++ used1 l i := by simp [usedTo, List.range_succ]
theorem used1_yes (hp : l[i]? = some p) (hu : p.used = true) : used1 l i = [⟨i, p.turn⟩] := by simp [used1, hp, hu]
theorem used1_no (hp : l[i]? = some p) (hu : p.used = false) : used1 l i = [] := by simp [used1, hp, hu]
theorem rhas_self (hp : l[i]? = some p) : rhas l ⟨(i : Int), p.turn⟩ = p.used := by
  unfold rhas; simp [hp]
theorem rhas_low (h0 : h.at_ < 0) : rhas l h = false := by unfold rhas; simp; omega
theorem rhas_high (h0 : (l.length : Int) ≤ h.at_) : rhas l h = false := by
  unfold rhas; rw [List.getElem?_eq_none (by omega)]; simp
theorem rhas_free (hf : isFree l h.at_ = true) : rhas l h = false := by
  unfold isFree at hf
  unfold rhas
  cases hp : l[h.at_.toNat]? with
  | none => simp
  | some p => rw [hp] at hf; simp at hf; simp [hf]
theorem rhas_turn (h0 : 0 ≤ h.at_) (hp : l[h.at_.toNat]? = some p) (hf : isFree l h.at_ = false) : rhas l h = (p.turn == h.turn) := by
  rw [isFree_at' h0 hp] at hf
  unfold rhas; rw [hp]; simp at hf; simp [h0, hf]
/-- an arena whose sizes are small -/
def SmallNd (n : Nd) : Prop := n.keys.length ≤ 1000000 ∧ n.kids.length ≤ 1000000 ∧ n.vals.length ≤ 1000000
def SmallA (l : List RPlace) : Prop := l.length ≤ 1000000 ∧ ∀ (i : Nat) (p : RPlace), l[i]? = some p → 0 ≤ p.turn ∧ p.turn ≤ 1000000 ∧ SmallNd p.node
theorem rget_hit (hh : rhas l h = true) (hp : l[h.at_.toNat]? = some p) : rget l h = (p.node, 0) := by unfold rget rnode; rw [if_pos hh, hp]
theorem rget_miss (hh : rhas l h = false) : rget l h = (ndZero, 110) := by unfold rget; rw [if_neg (by simp [hh])]
theorem rput_hit (hh : rhas l h = true) : rput l h n = (l.set h.at_.toNat ⟨true, h.turn, n⟩, 0) := by unfold rput; rw [if_pos hh]
theorem rput_miss (hh : rhas l h = false) : rput l h n = (l, 110) := by unfold rput; rw [if_neg (by simp [hh])]
end
end Tp
namespace Tp
open Go
section
variable {l : List RPlace} {ks : List Int} {i : Nat} {p : RPlace} {h : Handle} {t : Int} {n : Nd} {hs : List Handle}
theorem usedTo_len : (usedTo l i).length ≤ i := by
  induction i with
  | zero => simp [usedTo]
  | succ i ih =>
    rw [usedTo_succ, List.length_append]
    have : (used1 l i).length ≤ 1 := by unfold used1; split <;> (try split) <;> simp
    omega
theorem usedTo_yes (hp : l[i]? = some p) (hh : rhas l ⟨(i : Int), p.turn⟩ = true) : usedTo l (i + 1) = usedTo l i ++ [⟨(i : Int), p.turn⟩] := by
  rw [rhas_self hp] at hh; rw [usedTo_succ, used1_yes hp hh]
theorem usedTo_no (hp : l[i]? = some p) (hh : rhas l ⟨(i : Int), p.turn⟩ = false) : usedTo l (i + 1) = usedTo l i := by
  rw [rhas_self hp] at hh; rw [usedTo_succ, used1_no hp hh, List.append_nil]
theorem free_nil : FreeOk [] [] := ⟨List.nodup_nil, fun k => by simp⟩
theorem Mem.nodesNil {F X : Nat → Prop} {w w0 : World} {L : List Chunk} {R : List (World → Prop)} (M : Mem F X w0 L R w) : Mem F X w0 (nodesC (fun _ => False) [] [] :: L) R w :=
  M.own (Mod.refl _ _) ⟨fun _ h => h.elim, fun w' _ => ⟨rfl, fun i x h => by simp at h⟩⟩ fun _ h => h.elim
theorem free1_len : (free1 l h).length = l.length := by simp [free1]
theorem freeAll_len : (freeAll l hs).length = l.length := by
  unfold freeAll
  induction hs generalizing l with
  | nil => rfl
  | cons h hs ih => rw [List.foldl_cons, ih, free1_len]
theorem freeAll_snoc (hi : hs[i]? = some h) : freeAll l (hs.take (i + 1)) = free1 (freeAll l (hs.take i)) h := by
  rw [← take_snoc hi]; simp [freeAll]
theorem freeAll_turn (hall : ∀ h, h ∈ hs → rhas l h = true) : ∀ {p : RPlace}, (freeAll l hs)[i]? = some p → ∃ q, l[i]? = some q ∧ p.turn = q.turn := by
  suffices H : ∀ (hs : List Handle) (m : List RPlace), (∀ h, h ∈ hs → rhas l h = true) → (∀ p, m[i]? = some p → ∃ q, l[i]? = some q ∧ p.turn = q.turn) → ∀ p, (freeAll m hs)[i]? = some p → ∃ q, l[i]? = some q ∧ p.turn = q.turn from
    fun {p} hp => H hs l hall (fun p hp => ⟨p, hp, rfl⟩) p hp
  intro hs
  induction hs with
  | nil => intro m _ hm p hp; exact hm p hp
  | cons h hs ih =>
    intro m hall hm p hp
    refine ih (free1 m h) (fun x hx => hall x (by simp [hx])) (fun p hp => ?_) p hp
    unfold free1 at hp
    rw [List.getElem?_set] at hp
    split at hp
    · rename_i e
      split at hp
      · obtain ⟨q, hq, _, ht, _⟩ := rhas_place (hall h (by simp))
        simp at hp; subst hp; subst e
        exact ⟨q, hq, ht.symm⟩
      · cases hp
    · exact hm p hp
theorem freeable_iff : freeable l hs = true ↔ (∀ h, h ∈ hs → rhas l h = true) ∧ hs.Nodup := by simp [freeable]
/-- the check of a list, so far -/
def freeOkTo (l : List RPlace) (hs : List Handle) (i : Nat) : Prop := ∀ j h, j < i → hs[j]? = some h → rhas l h = true ∧ h ∉ hs.take j
theorem freeOkTo_step (ho : freeOkTo l hs i) (hi : hs[i]? = some h) (h1 : rhas l h = true) (h2 : decide (h ∈ hs.take i) = false) : freeOkTo l hs (i + 1) := by
  intro j x hj hx
  rcases Nat.lt_or_ge j i with hlt | hge
  · exact ho j x hlt hx
  · have : j = i := by omega
    subst this
    rw [hi] at hx; cases hx
    exact ⟨h1, by simpa using h2⟩
theorem freeable_of (ho : freeOkTo l hs i) (hi : hs.length ≤ i) : freeable l hs = true := by
  rw [freeable_iff]
  refine ⟨fun h hh => ?_, ?_⟩
  · obtain ⟨j, hj⟩ := List.getElem?_of_mem hh
    exact (ho j h (by have := (List.getElem?_eq_some_iff.1 hj).1; omega) hj).1
  · unfold List.Nodup
    rw [List.pairwise_iff_getElem]
    intro a b ha hb hab e
    refine (ho b hs[b] (by omega) (List.getElem?_eq_getElem hb)).2 ?_
    rw [← e]
    exact List.mem_of_getElem? (i := a) (by rw [List.getElem?_take, if_pos hab, List.getElem?_eq_getElem ha])
theorem freeable_not (hi : hs[i]? = some h) (hn : rhas l h = false ∨ decide (h ∈ hs.take i) = true) : freeable l hs = false := by
  cases hf : freeable l hs with
  | false => rfl
  | true =>
    exfalso
    obtain ⟨h1, h2⟩ := freeable_iff.1 hf
    rcases hn with hn | hn
    · rw [h1 h (List.mem_of_getElem? hi)] at hn; cases hn
    · have hm : h ∈ hs.take i := by simpa using hn
      obtain ⟨j, hj⟩ := List.getElem?_of_mem hm
      rw [List.getElem?_take] at hj
      split at hj
      · rename_i hlt
        obtain ⟨a1, a2⟩ := List.getElem?_eq_some_iff.1 hi
        obtain ⟨b1, b2⟩ := List.getElem?_eq_some_iff.1 hj
        exact List.pairwise_iff_getElem.1 h2 j i b1 a1 hlt (b2.trans a2.symm)
      · cases hj
theorem rfree_hit (hf : freeable l hs = true) : rfree l hs = (freeAll l hs, 0) := by unfold rfree; rw [if_pos hf]
theorem rfree_miss (hf : freeable l hs = false) : rfree l hs = (l, 110) := by unfold rfree; rw [if_neg (by simp [hf])]
end
end Tp
namespace Tp
def smallAB (l : List RPlace) : Bool := decide (l.length ≤ 1000000) && l.all fun p => decide (0 ≤ p.turn) && decide (p.turn ≤ 1000000) && decide (p.node.keys.length ≤ 1000000) && decide (p.node.kids.length ≤ 1000000) && decide (p.node.vals.length ≤ 1000000)
theorem smallA_of {l : List RPlace} (h : smallAB l = true) : SmallA l := by
  simp only [smallAB, Bool.and_eq_true, decide_eq_true_eq, List.all_eq_true] at h
  refine ⟨h.1, fun i p hp => ?_⟩
  obtain ⟨⟨⟨⟨h1, h2⟩, h3⟩, h4⟩, h5⟩ := h.2 p (List.mem_of_getElem? hp)
  exact ⟨h1, h2, h3, h4, h5⟩
end Tp
