/- Proved here: lemmas and walks on which the claim stands (part 2 of 7). No condition. -/
import Derived.Test.YtnlnpfpfggbheaaTs1
import Derived.Lib.MinMax
import Derived.Laws.Shifts
import Derived.RangeFuncIn
import Derived.Lib.AppendZerosOnto
import Derived.Lib.Overlaps
import Derived.Laws.Externs
set_option linter.all false
namespace Tp
open Go
def ndZero : Nd := ⟨false, [], [], []⟩
def hdZero : Handle := ⟨0, 0⟩
def leastF (l : List RPlace) : Nat := l.findIdx fun p => !p.used
def rmake (l : List RPlace) (n : Nd) : List RPlace × Handle :=
  match l[leastF l]? with
  | some p => (l.set (leastF l) ⟨true, p.turn + 1, n⟩, ⟨leastF l, p.turn + 1⟩)
  | none => (l ++ [⟨true, 1, n⟩], ⟨leastF l, 1⟩)
def rnode (l : List RPlace) (i : Nat) : Nd := match l[i]? with | some p => p.node | none => ndZero
def rget (l : List RPlace) (h : Handle) : Nd × Int := if rhas l h then (rnode l h.at_.toNat, 0) else (ndZero, 110)
def rput (l : List RPlace) (h : Handle) (n : Nd) : List RPlace × Int := if rhas l h then (l.set h.at_.toNat ⟨true, h.turn, n⟩, 0) else (l, 110)
def free1 (l : List RPlace) (h : Handle) : List RPlace := l.set h.at_.toNat ⟨false, h.turn, ndZero⟩
def freeAll (l : List RPlace) (hs : List Handle) : List RPlace := hs.foldl free1 l
def freeable (l : List RPlace) (hs : List Handle) : Bool := hs.all (rhas l) && decide hs.Nodup
def rfree (l : List RPlace) (hs : List Handle) : List RPlace × Int := if freeable l hs then (freeAll l hs, 0) else (l, 110)
def pickI (i n : Int) : Int := if n ≤ 0 then 0 else (i.tmod n + n).tmod n
section
variable {l : List RPlace} {ks : List Int} {i : Nat} {p : RPlace} {h : Handle} {t : Int} {n : Nd}
theorem rhas_iff : rhas l h = true ↔ 0 ≤ h.at_ ∧ ∃ p, l[h.at_.toNat]? = some p ∧ p.used = true ∧ p.turn = h.turn := by
  unfold rhas
  cases hp : l[h.at_.toNat]? with
  | none => simp
  | some p => simp
theorem rhas_place (hh : rhas l h = true) : ∃ p, l[h.at_.toNat]? = some p ∧ p.used = true ∧ p.turn = h.turn ∧ 0 ≤ h.at_ ∧ h.at_.toNat < l.length := by
  obtain ⟨h0, p, hp, h1, h2⟩ := rhas_iff.1 hh
  exact ⟨p, hp, h1, h2, h0, (List.getElem?_eq_some_iff.1 hp).1⟩
theorem isFree_nat : isFree l (i : Int) = (match l[i]? with | some p => !p.used | none => false) := by
  unfold isFree; rw [Int.toNat_natCast]; cases l[i]? <;> simp
theorem isFree_at (hp : l[i]? = some p) : isFree l (i : Int) = !p.used := by rw [isFree_nat, hp]
theorem isFree_at' {a : Int} (h0 : 0 ≤ a) (hp : l[a.toNat]? = some p) : isFree l a = !p.used := by
  have := isFree_at hp
  rwa [Int.toNat_of_nonneg h0] at this
theorem leastF_hit (hi : i < l.length) (hf : isFree l (i : Int) = true) (hb : ∀ j : Nat, j < i → isFree l (j : Int) = false) : leastF l = i := by
  unfold leastF
  rw [List.findIdx_eq hi]
  refine ⟨?_, fun j hj => ?_⟩
  · rw [isFree_nat, List.getElem?_eq_getElem hi] at hf; exact hf
  · have := hb j hj
    rw [isFree_nat, List.getElem?_eq_getElem (by omega)] at this; simpa using this
theorem leastF_all (hb : ∀ j : Nat, j < i → isFree l (j : Int) = false) (hi : l.length ≤ i) : leastF l = l.length := by
  unfold leastF
  rw [List.findIdx_eq_length]
  intro p hp
  obtain ⟨j, hj⟩ := List.getElem?_of_mem hp
  have hlt := (List.getElem?_eq_some_iff.1 hj).1
  have := hb j (by omega)
  rw [isFree_at hj] at this; simpa using this
theorem leastF_le : leastF l ≤ l.length := List.findIdx_le_length
theorem leastF_free (hp : l[leastF l]? = some p) : p.used = false := by
  have hlt := (List.getElem?_eq_some_iff.1 hp)
  have := List.findIdx_getElem (w := hlt.1)
  rw [← hlt.2]
  have h2 : (!(l[leastF l]'hlt.1).used) = true := this
  simpa using h2
theorem free_set_used (hK : FreeOk ks l) (hp : l[i]? = some p) (hu : p.used = true) : FreeOk ks (l.set i ⟨true, t, n⟩) := by
  refine ⟨hK.1, fun k => ?_⟩
  rw [hK.2]
  refine exists_congr fun j => and_congr_right fun _ => ?_
  rw [List.getElem?_set]
  by_cases e : i = j
  · subst e
    have := (List.getElem?_eq_some_iff.1 hp).1
    have e2 : l[i].used = true := by rw [(List.getElem?_eq_some_iff.1 hp).2]; exact hu
    simp [this, e2]
  · simp [e]
theorem free_make_old (hK : FreeOk ks l) (hi : i < l.length) : FreeOk (ks.erase (i : Int)) (l.set i ⟨true, t, n⟩) := by
  refine ⟨hK.1.erase _, fun k => ?_⟩
  rw [hK.1.mem_erase_iff, hK.2]
  constructor
  · rintro ⟨hne, j, rfl, q, hq, hu⟩
    refine ⟨j, rfl, q, ?_, hu⟩
    rw [List.getElem?_set, if_neg (fun e => hne (by rw [e]))]; exact hq
  · rintro ⟨j, rfl, q, hq, hu⟩
    rw [List.getElem?_set] at hq
    split at hq
    · simp [hi] at hq; subst hq; cases hu
    · rename_i hne; exact ⟨fun e => hne (by omega), j, rfl, q, hq, hu⟩
theorem free_make_new (hK : FreeOk ks l) (hi : i = l.length) : FreeOk (ks.erase (i : Int)) (l ++ [⟨true, t, n⟩]) := by
  subst hi
  refine ⟨hK.1.erase _, fun k => ?_⟩
  rw [hK.1.mem_erase_iff, hK.2]
  constructor
  · rintro ⟨hne, j, rfl, q, hq, hu⟩
    exact ⟨j, rfl, q, by rw [List.getElem?_append_left (List.getElem?_eq_some_iff.1 hq).1]; exact hq, hu⟩
  · rintro ⟨j, rfl, q, hq, hu⟩
    rcases Nat.lt_or_ge j l.length with hj | hj
    · rw [List.getElem?_append_left hj] at hq
      exact ⟨by omega, j, rfl, q, hq, hu⟩
    · rw [List.getElem?_append_right hj] at hq
      cases hjj : j - l.length with
      | zero => rw [hjj] at hq; simp at hq; subst hq; cases hu
      | succ m => rw [hjj] at hq; simp at hq
theorem free_free (hK : FreeOk ks l) (hi : i < l.length) : FreeOk (sadd (i : Int) ks) (l.set i ⟨false, t, n⟩) := by
  have hset : ∀ k : Int, (∃ j : Nat, k = j ∧ ∃ p, (l.set i ⟨false, t, n⟩)[j]? = some p ∧ p.used = false) ↔ k ∈ ks ∨ k = i := by
    intro k
    rw [hK.2]
    constructor
    · rintro ⟨j, rfl, q, hq, hu⟩
      rw [List.getElem?_set] at hq
      split at hq
      · rename_i e; right; rw [e]
      · left; exact ⟨j, rfl, q, hq, hu⟩
    · rintro (⟨j, rfl, q, hq, hu⟩ | rfl)
      · refine ⟨j, rfl, ?_⟩
        rw [List.getElem?_set]
        split
        · rename_i e; subst e; simp [hi]
        · exact ⟨q, hq, hu⟩
      · exact ⟨i, rfl, ⟨false, t, n⟩, by rw [List.getElem?_set]; simp [hi], rfl⟩
  unfold sadd
  split
  · rename_i hm
    refine ⟨hK.1, fun k => ?_⟩
    rw [hset]
    exact ⟨.inl, fun h => h.elim id fun e => e ▸ hm⟩
  · rename_i hm
    refine ⟨List.nodup_append.2 ⟨hK.1, by simp, fun a ha b hb e => ?_⟩, fun k => ?_⟩
    · simp at hb; subst hb; exact hm (e ▸ ha)
    · rw [hset]; simp
theorem rmake_old (hp : l[leastF l]? = some p) : rmake l n = (l.set (leastF l) ⟨true, p.turn + 1, n⟩, ⟨leastF l, p.turn + 1⟩) := by unfold rmake; rw [hp]
theorem rmake_new (he : leastF l = l.length) : rmake l n = (l ++ [⟨true, 1, n⟩], ⟨leastF l, 1⟩) := by
  unfold rmake; rw [List.getElem?_eq_none (by omega)]
theorem rhas_low (h0 : h.at_ < 0) : rhas l h = false := by unfold rhas; simp; omega
theorem rhas_high (h0 : (l.length : Int) ≤ h.at_) : rhas l h = false := by
  unfold rhas; rw [List.getElem?_eq_none (by omega)]; simp
theorem rhas_free (hf : isFree l h.at_ = true) : rhas l h = false := by
  unfold isFree at hf
  unfold rhas
  cases hp : l[h.at_.toNat]? with
  | none => simp
  | some p => rw [hp] at hf; simp at hf; simp [hf]
theorem rhas_turn (h0 : 0 ≤ h.at_) (hp : l[h.at_.toNat]? = some p) (hf : isFree l h.at_ = false) : rhas l h = (p.turn == h.turn) := by
  rw [isFree_at' h0 hp] at hf
  unfold rhas; rw [hp]; simp at hf; simp [h0, hf]
def SmallNd (n : Nd) : Prop := n.keys.length ≤ 1000000 ∧ n.kids.length ≤ 1000000 ∧ n.vals.length ≤ 1000000
def SmallA (l : List RPlace) : Prop := l.length ≤ 1000000 ∧ ∀ (i : Nat) (p : RPlace), l[i]? = some p → 0 ≤ p.turn ∧ p.turn ≤ 1000000 ∧ SmallNd p.node
theorem rget_hit (hh : rhas l h = true) (hp : l[h.at_.toNat]? = some p) : rget l h = (p.node, 0) := by unfold rget rnode; rw [if_pos hh, hp]
theorem rget_miss (hh : rhas l h = false) : rget l h = (ndZero, 110) := by unfold rget; rw [if_neg (by simp [hh])]
theorem rput_hit (hh : rhas l h = true) : rput l h n = (l.set h.at_.toNat ⟨true, h.turn, n⟩, 0) := by unfold rput; rw [if_pos hh]
theorem rput_miss (hh : rhas l h = false) : rput l h n = (l, 110) := by unfold rput; rw [if_neg (by simp [hh])]
end
end Tp
namespace Tp
open Go
section
variable {l : List RPlace} {ks : List Int} {i : Nat} {p : RPlace} {h : Handle} {t : Int} {n : Nd} {hs : List Handle}
theorem free_nil : FreeOk [] [] := ⟨List.nodup_nil, fun k => by simp⟩
theorem Mem.nodesNil {F X : Nat → Prop} {w w0 : World} {L : List Chunk} {R : List (World → Prop)} (M : Mem F X w0 L R w) : Mem F X w0 (nodesC (fun _ => False) [] [] :: L) R w :=
  M.own (Mod.refl _ _) ⟨fun _ h => h.elim, fun w' _ => ⟨rfl, fun i x h => by simp at h⟩⟩ fun _ h => h.elim
theorem free1_len : (free1 l h).length = l.length := by simp [free1]
theorem freeAll_len : (freeAll l hs).length = l.length := by
  unfold freeAll
  induction hs generalizing l with
  | nil => rfl
  | cons h hs ih => rw [List.foldl_cons, ih, free1_len]
theorem freeAll_snoc (hi : hs[i]? = some h) : freeAll l (hs.take (i + 1)) = free1 (freeAll l (hs.take i)) h := by
  rw [← take_snoc hi]; simp [freeAll]
theorem freeAll_turn (hall : ∀ h, h ∈ hs → rhas l h = true) : ∀ {p : RPlace}, (freeAll l hs)[i]? = some p → ∃ q, l[i]? = some q ∧ p.turn = q.turn := by
  suffices H : ∀ (hs : List Handle) (m : List RPlace), (∀ h, h ∈ hs → rhas l h = true) → (∀ p, m[i]? = some p → ∃ q, l[i]? = some q ∧ p.turn = q.turn) → ∀ p, (freeAll m hs)[i]? = some p → ∃ q, l[i]? = some q ∧ p.turn = q.turn from
    fun {p} hp => H hs l hall (fun p hp => ⟨p, hp, rfl⟩) p hp
  intro hs
  induction hs with
  | nil => intro m _ hm p hp; exact hm p hp
  | cons h hs ih =>
    intro m hall hm p hp
    refine ih (free1 m h) (fun x hx => hall x (by simp [hx])) (fun p hp => ?_) p hp
    unfold free1 at hp
    rw [List.getElem?_set] at hp
    split at hp
    · rename_i e
      split at hp
      · obtain ⟨q, hq, _, ht, _⟩ := rhas_place (hall h (by simp))
        simp at hp; subst hp; subst e
        exact ⟨q, hq, ht.symm⟩
      · cases hp
    · exact hm p hp
theorem freeable_iff : freeable l hs = true ↔ (∀ h, h ∈ hs → rhas l h = true) ∧ hs.Nodup := by simp [freeable]
def freeOkTo (l : List RPlace) (hs : List Handle) (i : Nat) : Prop := ∀ j h, j < i → hs[j]? = some h → rhas l h = true ∧ h ∉ hs.take j
theorem freeOkTo_step (ho : freeOkTo l hs i) (hi : hs[i]? = some h) (h1 : rhas l h = true) (h2 : decide (h ∈ hs.take i) = false) : freeOkTo l hs (i + 1) := by
  intro j x hj hx
  rcases Nat.lt_or_ge j i with hlt | hge
  · exact ho j x hlt hx
  · have : j = i := by omega
    subst this
    rw [hi] at hx; cases hx
    exact ⟨h1, by simpa using h2⟩
theorem freeable_of (ho : freeOkTo l hs i) (hi : hs.length ≤ i) : freeable l hs = true := by
  rw [freeable_iff]
  refine ⟨fun h hh => ?_, ?_⟩
  · obtain ⟨j, hj⟩ := List.getElem?_of_mem hh
    exact (ho j h (by have := (List.getElem?_eq_some_iff.1 hj).1; omega) hj).1
  · unfold List.Nodup
    rw [List.pairwise_iff_getElem]
    intro a b ha hb hab e
    refine (ho b hs[b] (by omega) (List.getElem?_eq_getElem hb)).2 ?_
    rw [← e]
    exact List.mem_of_getElem? (i := a) (by rw [List.getElem?_take, if_pos hab, List.getElem?_eq_getElem ha])
theorem freeable_not (hi : hs[i]? = some h) (hn : rhas l h = false ∨ decide (h ∈ hs.take i) = true) : freeable l hs = false := by
  cases hf : freeable l hs with
  | false => rfl
  | true =>
    exfalso
    obtain ⟨h1, h2⟩ := freeable_iff.1 hf
    rcases hn with hn | hn
    · rw [h1 h (List.mem_of_getElem? hi)] at hn; cases hn
    · have hm : h ∈ hs.take i := by simpa using hn
      obtain ⟨j, hj⟩ := List.getElem?_of_mem hm
      rw [List.getElem?_take] at hj
      split at hj
      · rename_i hlt
        obtain ⟨a1, a2⟩ := List.getElem?_eq_some_iff.1 hi
        obtain ⟨b1, b2⟩ := List.getElem?_eq_some_iff.1 hj
        exact List.pairwise_iff_getElem.1 h2 j i b1 a1 hlt (b2.trans a2.symm)
      · cases hj
theorem rfree_hit (hf : freeable l hs = true) : rfree l hs = (freeAll l hs, 0) := by unfold rfree; rw [if_pos hf]
theorem rfree_miss (hf : freeable l hs = false) : rfree l hs = (l, 110) := by unfold rfree; rw [if_neg (by simp [hf])]
end
end Tp
namespace Tp
def smallAB (l : List RPlace) : Bool := decide (l.length ≤ 1000000) && l.all fun p => decide (0 ≤ p.turn) && decide (p.turn ≤ 1000000) && decide (p.node.keys.length ≤ 1000000) && decide (p.node.kids.length ≤ 1000000) && decide (p.node.vals.length ≤ 1000000)
theorem smallA_of {l : List RPlace} (h : smallAB l = true) : SmallA l := by
  simp only [smallAB, Bool.and_eq_true, decide_eq_true_eq, List.all_eq_true] at h
  refine ⟨h.1, fun i p hp => ?_⟩
  obtain ⟨⟨⟨⟨h1, h2⟩, h3⟩, h4⟩, h5⟩ := h.2 p (List.mem_of_getElem? hp)
  exact ⟨h1, h2, h3, h4, h5⟩
end Tp
namespace Tp
open Go
def sLt (a b : ByteArray) : Bool := Op.bytesLess a.toList b.toList
theorem bl_irrefl : ∀ x : List UInt8, Op.bytesLess x x = false
  | [] => rfl
  | a :: x => by simp [Op.bytesLess, bl_irrefl x]
theorem bl_trans : ∀ x y z : List UInt8, Op.bytesLess x y = true → Op.bytesLess y z = true → Op.bytesLess x z = true
  | _, _, [], _, h => by simp [Op.bytesLess] at h
  | _, [], _ :: _, h, _ => by cases ‹List UInt8› <;> simp [Op.bytesLess] at h
  | [], _ :: _, _ :: _, _, _ => rfl
  | a :: x, b :: y, c :: z, h1, h2 => by
    simp only [Op.bytesLess, Bool.or_eq_true, Bool.and_eq_true, decide_eq_true_eq, beq_iff_eq] at *
    rcases h1 with h1 | ⟨rfl, h1⟩
    · rcases h2 with h2 | ⟨rfl, h2⟩
      · exact .inl (UInt8.lt_trans h1 h2)
      · exact .inl h1
    · rcases h2 with h2 | ⟨rfl, h2⟩
      · exact .inl h2
      · exact .inr ⟨rfl, bl_trans x y z h1 h2⟩
theorem bl_total : ∀ x y : List UInt8, Op.bytesLess x y = false → Op.bytesLess y x = false → x = y
  | [], [], _, _ => rfl
  | [], _ :: _, h, _ => by simp [Op.bytesLess] at h
  | _ :: _, [], _, h => by simp [Op.bytesLess] at h
  | a :: x, b :: y, h1, h2 => by
    simp only [Op.bytesLess, Bool.or_eq_false_iff, Bool.and_eq_false_imp, decide_eq_false_iff_not, beq_iff_eq] at *
    have e : a = b := by
      have h3 := h1.1; have h4 := h2.1
      rw [UInt8.lt_iff_toNat_lt] at h3 h4
      apply UInt8.toNat_inj.1; omega
    subst e
    rw [bl_total x y (h1.2 rfl) (h2.2 rfl)]
theorem sLt_irrefl (a : ByteArray) : sLt a a = false := bl_irrefl _
theorem sLt_trans {a b c : ByteArray} (h1 : sLt a b = true) (h2 : sLt b c = true) : sLt a c = true := bl_trans _ _ _ h1 h2
theorem sLt_total {a b : ByteArray} (h1 : sLt a b = false) (h2 : sLt b a = false) : a = b := toList_inj (bl_total _ _ h1 h2)
theorem sLt_asymm {a b : ByteArray} (h : sLt a b = true) : sLt b a = false := by
  cases h' : sLt b a with
  | false => rfl
  | true => have := sLt_trans h h'; rw [sLt_irrefl] at this; cases this
theorem sEq_iff {a b : ByteArray} : (a.toList == b.toList) = true ↔ a = b := by
  rw [beq_iff_eq]; exact ⟨toList_inj, fun h => by rw [h]⟩
theorem sEq_dec (a b : ByteArray) : (a.toList == b.toList) = decide (a = b) := by
  rw [Bool.eq_iff_iff, sEq_iff, decide_eq_true_iff]
theorem sLt_ne {a b : ByteArray} (h : sLt a b = true) : a ≠ b := fun e => by subst e; rw [sLt_irrefl] at h; cases h
end Tp
namespace Tp
open Go
def atA (l : List RPlace) (h : Handle) : Option Nd := if rhas l h then some (rnode l h.at_.toNat) else none
section
variable {l : List RPlace} {h h' : Handle} {n m : Nd}
theorem atA_has (e : atA l h = some n) : rhas l h = true := by
  unfold atA at e
  cases hh : rhas l h with
  | true => rfl
  | false => rw [hh] at e; cases e
theorem atA_get (e : atA l h = some n) : rget l h = (n, 0) := by
  have hh := atA_has e
  unfold atA at e
  rw [if_pos hh] at e
  unfold rget
  rw [if_pos hh, Option.some.inj e]
theorem atA_eq (l : List RPlace) (h : Handle) : atA l h = if 0 ≤ h.at_ then (match l[h.at_.toNat]? with | some p => if p.used = true ∧ p.turn = h.turn then some p.node else none | none => none) else none := by
  unfold atA rhas rnode
  by_cases h0 : 0 ≤ h.at_
  · simp only [h0, decide_true, Bool.true_and, if_true, ge_iff_le]
    cases hp : l[h.at_.toNat]? with
    | none => simp
    | some p => by_cases hu : p.used = true <;> by_cases ht : p.turn = h.turn <;> simp [hu, ht]
  · simp [h0]
theorem put_at (e : atA l h = some n) : atA (rput l h m).1 h' = if h' = h then some m else atA l h' := by
  have hh := atA_has e
  obtain ⟨p, hp, hu, ht, h0, hlt⟩ := rhas_place hh
  rw [rput_hit hh]
  simp only
  rw [atA_eq, atA_eq]
  by_cases h0' : 0 ≤ h'.at_
  · rw [if_pos h0', if_pos h0']
    by_cases hi : h.at_.toNat = h'.at_.toNat
    · rw [← hi, List.getElem?_set_self hlt, hp]
      simp only [hu, true_and]
      have ha : h.at_ = h'.at_ := by omega
      by_cases ht' : h.turn = h'.turn
      · rw [if_pos ht', if_pos (handle_ext ha.symm ht'.symm)]
      · rw [if_neg ht', if_neg (fun e => ht' (by rw [e])), if_neg (by rw [ht]; exact ht')]
    · rw [List.getElem?_set_ne hi, if_neg (fun e => hi (by rw [e]))]
  · rw [if_neg h0', if_neg h0', if_neg (fun e => h0' (by rw [e]; exact h0))]
theorem make_turn : (∃ p, l[leastF l]? = some p ∧ p.used = false ∧ rmake l m = (l.set (leastF l) ⟨true, p.turn + 1, m⟩, ⟨leastF l, p.turn + 1⟩)) ∨ (leastF l = l.length ∧ rmake l m = (l ++ [⟨true, 1, m⟩], ⟨leastF l, 1⟩)) := by
  rcases Nat.lt_or_ge (leastF l) l.length with hl | hl
  · obtain ⟨p, hp⟩ : ∃ p, l[leastF l]? = some p := ⟨_, List.getElem?_eq_getElem hl⟩
    exact .inl ⟨p, hp, leastF_free hp, rmake_old hp⟩
  · have : leastF l = l.length := Nat.le_antisymm leastF_le hl
    exact .inr ⟨this, rmake_new this⟩
theorem make_none : atA l (rmake l m).2 = none := by
  rcases make_turn (l := l) (m := m) with ⟨p, hp, hu, e⟩ | ⟨hl, e⟩
  · rw [e, atA_eq]; simp [hp, hu]
  · rw [e, atA_eq]; simp [hl]
theorem make_at : atA (rmake l m).1 h' = if h' = (rmake l m).2 then some m else atA l h' := by
  rcases make_turn (l := l) (m := m) with ⟨p, hp, hu, e⟩ | ⟨hl, e⟩
  · have hlt := (List.getElem?_eq_some_iff.1 hp).1
    rw [e]; simp only
    rw [atA_eq, atA_eq]
    by_cases h0' : 0 ≤ h'.at_
    · rw [if_pos h0', if_pos h0']
      by_cases hi : leastF l = h'.at_.toNat
      · rw [← hi, List.getElem?_set_self hlt, hp]
        have ha : (leastF l : Int) = h'.at_ := by omega
        simp only [hu]
        by_cases ht' : p.turn + 1 = h'.turn
        · rw [if_pos ⟨trivial, ht'⟩, if_pos (handle_ext ha.symm ht'.symm)]
        · rw [if_neg (fun q => ht' q.2), if_neg (fun e => ht' (by rw [e])), if_neg (by simp)]
      · rw [List.getElem?_set_ne hi, if_neg (fun e => hi (by rw [e]; simp))]
    · rw [if_neg h0', if_neg h0', if_neg (fun e => h0' (by rw [e]; exact Int.natCast_nonneg _))]
  · rw [e]; simp only
    rw [atA_eq, atA_eq]
    by_cases h0' : 0 ≤ h'.at_
    · rw [if_pos h0', if_pos h0']
      rcases Nat.lt_trichotomy h'.at_.toNat l.length with hlt | heq | hgt
      · rw [List.getElem?_append_left hlt, if_neg (fun e => by rw [e] at hlt; simp at hlt; omega)]
      · rw [heq, List.getElem?_append_right (Nat.le_refl _), List.getElem?_eq_none (Nat.le_refl l.length)]
        simp only [Nat.sub_self, List.getElem?_cons_zero, true_and]
        by_cases ht' : (1 : Int) = h'.turn
        · rw [if_pos ht', if_pos (handle_ext (by simp only; omega) ht'.symm)]
        · rw [if_neg ht', if_neg (fun e => ht' (by rw [e]))]
      · rw [List.getElem?_eq_none (by simp; omega), List.getElem?_eq_none (by omega), if_neg (fun e => by rw [e] at hgt; simp at hgt; omega)]
    · rw [if_neg h0', if_neg h0', if_neg (fun e => h0' (by rw [e]; exact Int.natCast_nonneg _))]
theorem free_is (hh : rhas l h = true) : rfree l [h] = (free1 l h, 0) := by
  rw [rfree_hit (by simp [freeable, hh])]; rfl
theorem free_at (e : atA l h = some n) : atA (rfree l [h]).1 h' = if h' = h then none else atA l h' := by
  have hh := atA_has e
  obtain ⟨p, hp, hu, ht, h0, hlt⟩ := rhas_place hh
  rw [free_is hh]
  simp only
  unfold free1
  rw [atA_eq, atA_eq]
  by_cases h0' : 0 ≤ h'.at_
  · rw [if_pos h0', if_pos h0']
    by_cases hi : h.at_.toNat = h'.at_.toNat
    · rw [← hi, List.getElem?_set_self hlt, hp]
      have ha : h.at_ = h'.at_ := by omega
      simp only [hu, true_and, Bool.false_eq_true, false_and, if_false]
      by_cases ht' : h'.turn = h.turn
      · rw [if_pos (handle_ext ha.symm ht')]
      · rw [if_neg (fun e => ht' (by rw [e])), if_neg (by rw [ht]; exact fun e => ht' e.symm)]
    · rw [List.getElem?_set_ne hi, if_neg (fun e => hi (by rw [e]))]
  · rw [if_neg h0', if_neg h0', if_neg (fun e => h0' (by rw [e]; exact h0))]
theorem usedN_set {i : Nat} {p q : RPlace} (hp : l[i]? = some p) : usedN (l.set i q) + (if p.used then 1 else 0) = usedN l + if q.used then 1 else 0 := by
  have hi := (List.getElem?_eq_some_iff.1 hp).1
  have hpe := (List.getElem?_eq_some_iff.1 hp).2
  unfold usedN
  rw [List.countP_set hi, hpe]
  have hc : (if p.used = true then 1 else 0) ≤ List.countP (fun x => x.used) l := by
    split
    · rename_i hu
      exact List.countP_pos_iff.2 ⟨p, List.mem_of_getElem? hp, hu⟩
    · exact Nat.zero_le _
  omega
theorem put_used (e : atA l h = some n) : usedN (rput l h m).1 = usedN l := by
  obtain ⟨p, hp, hu, ht, h0, hlt⟩ := rhas_place (atA_has e)
  rw [rput_hit (atA_has e)]
  have := usedN_set (q := ⟨true, h.turn, m⟩) hp
  simp [hu] at this
  simpa using this
theorem make_used : usedN (rmake l m).1 = usedN l + 1 := by
  rcases make_turn (l := l) (m := m) with ⟨p, hp, hu, e⟩ | ⟨hl, e⟩
  · rw [e]
    have := usedN_set (q := ⟨true, p.turn + 1, m⟩) hp
    simp [hu] at this
    simpa using this
  · rw [e]; simp [usedN]
theorem free_used (e : atA l h = some n) : usedN (rfree l [h]).1 + 1 = usedN l := by
  obtain ⟨p, hp, hu, ht, h0, hlt⟩ := rhas_place (atA_has e)
  rw [free_is (atA_has e)]
  have := usedN_set (q := ⟨false, h.turn, ndZero⟩) hp
  simp [hu] at this
  exact this
def tinyN (n : Nd) : Prop := n.keys.length ≤ 9 ∧ n.kids.length ≤ 10 ∧ n.vals.length ≤ 9
structure BigA (l : List RPlace) (K : Nat) : Prop where
  len : l.length ≤ K
  each : ∀ (i : Nat) (p : RPlace), l[i]? = some p → 0 ≤ p.turn ∧ p.turn ≤ K ∧ tinyN p.node
theorem BigA.small {K : Nat} (hB : BigA l K) (hK : K ≤ 1000000) : SmallA l := by
  refine ⟨by have := hB.len; omega, fun i p hp => ?_⟩
  obtain ⟨h1, h2, h3, h4, h5⟩ := hB.each i p hp
  exact ⟨h1, by omega, by omega, by omega, by omega⟩
theorem BigA.mono {K K' : Nat} (hB : BigA l K) (hK : K ≤ K') : BigA l K' := by
  refine ⟨by have := hB.len; omega, fun i p hp => ?_⟩
  obtain ⟨h1, h2, h3⟩ := hB.each i p hp
  exact ⟨h1, by omega, h3⟩
theorem BigA.nil : BigA [] 0 := ⟨by simp, fun i p hp => by simp at hp⟩
theorem BigA.at {K : Nat} (hB : BigA l K) (e : atA l h = some n) : tinyN n := by
  obtain ⟨p, hp, hu, ht, h0, hlt⟩ := rhas_place (atA_has e)
  have := atA_get e
  rw [rget_hit (atA_has e) hp] at this
  cases this
  exact (hB.each _ _ hp).2.2
theorem BigA.setp {K i : Nat} {q : RPlace} (hB : BigA l K) (h1 : 0 ≤ q.turn) (h2 : q.turn ≤ K) (h3 : tinyN q.node) : BigA (l.set i q) K := by
  refine ⟨by rw [List.length_set]; exact hB.len, fun j p hp => ?_⟩
  rcases Nat.lt_or_ge i l.length with hi | hi
  · rcases Nat.decEq i j with hij | rfl
    · rw [List.getElem?_set_ne hij] at hp; exact hB.each _ _ hp
    · rw [List.getElem?_set_self hi] at hp; cases hp; exact ⟨h1, h2, h3⟩
  · rw [List.set_eq_of_length_le hi] at hp; exact hB.each _ _ hp
theorem BigA.put {K : Nat} (hB : BigA l K) (e : atA l h = some n) (hm : tinyN m) : BigA (rput l h m).1 K := by
  obtain ⟨p, hp, hu, ht, h0, hlt⟩ := rhas_place (atA_has e)
  obtain ⟨h1, h2, _⟩ := hB.each _ _ hp
  rw [rput_hit (atA_has e)]
  exact hB.setp (by simp only; omega) (by simp only; omega) hm
theorem BigA.make {K : Nat} (hB : BigA l K) (hm : tinyN m) : BigA (rmake l m).1 (K + 1) := by
  rcases make_turn (l := l) (m := m) with ⟨p, hp, hu, e⟩ | ⟨hl, e⟩
  · obtain ⟨h1, h2, _⟩ := hB.each _ _ hp
    rw [e]
    exact (hB.mono (Nat.le_succ K)).setp (by simp only; omega) (by simp only; omega) hm
  · rw [e]
    refine ⟨by have := hB.len; simp; omega, fun i p hp => ?_⟩
    simp only at hp
    rcases Nat.lt_or_ge i l.length with hi | hi
    · rw [List.getElem?_append_left hi] at hp
      obtain ⟨h1, h2, h3⟩ := hB.each _ _ hp
      exact ⟨h1, by omega, h3⟩
    · rw [List.getElem?_append_right hi] at hp
      rcases Nat.eq_zero_or_pos (i - l.length) with h0 | h0
      · rw [h0] at hp; cases hp; exact ⟨by simp, by simp only; omega, hm⟩
      · rw [List.getElem?_eq_none (by simp; omega)] at hp; cases hp
theorem BigA.free {K : Nat} (hB : BigA l K) (e : atA l h = some n) : BigA (rfree l [h]).1 K := by
  obtain ⟨p, hp, hu, ht, h0, hlt⟩ := rhas_place (atA_has e)
  obtain ⟨h1, h2, _⟩ := hB.each _ _ hp
  rw [free_is (atA_has e)]
  exact hB.setp (by simp only; omega) (by simp only; omega) ⟨by simp [ndZero], by simp [ndZero], by simp [ndZero]⟩
end
end Tp
namespace Tp
open Go
structure THit where
  key : ByteArray
  val : Int
deriving DecidableEq, Inhabited
def upT (l : List THit) : Prop := l.Pairwise fun a b => sLt a.key b.key = true
def putL (l : List THit) (x : THit) : List THit := l.filter (fun a => sLt a.key x.key) ++ x :: l.filter (fun a => sLt x.key a.key)
def delL (l : List THit) (k : ByteArray) : List THit := l.filter fun a => !decide (a.key = k)
def getL (l : List THit) (k : ByteArray) : Int × Bool := match l.find? (fun a => decide (a.key = k)) with | some a => (a.val, true) | none => (0, false)
def lowT (l : List THit) (k : ByteArray) : Prop := ∀ a, a ∈ l → sLt a.key k = true
def highT (l : List THit) (k : ByteArray) : Prop := ∀ a, a ∈ l → sLt k a.key = true
section
variable {P Q c l : List THit} {x z a b : THit} {k : ByteArray}
theorem lowT_filter (h : lowT P k) : P.filter (fun a => sLt a.key k) = P := List.filter_eq_self.2 h
theorem lowT_filter' (h : lowT P k) : P.filter (fun a => sLt k a.key) = [] := List.filter_eq_nil_iff.2 fun a ha => by rw [sLt_asymm (h a ha)]; simp
theorem highT_filter (h : highT P k) : P.filter (fun a => sLt k a.key) = P := List.filter_eq_self.2 h
theorem highT_filter' (h : highT P k) : P.filter (fun a => sLt a.key k) = [] := List.filter_eq_nil_iff.2 fun a ha => by rw [sLt_asymm (h a ha)]; simp
theorem putL_mid (hP : lowT P x.key) (hQ : highT Q x.key) : putL (P ++ c ++ Q) x = P ++ putL c x ++ Q := by
  unfold putL
  simp only [List.filter_append, lowT_filter hP, lowT_filter' hP, highT_filter hQ, highT_filter' hQ, List.append_assoc, List.nil_append, List.append_nil, List.cons_append]
theorem putL_nil : putL [] x = [x] := rfl
theorem putL_one (h : z.key = x.key) : putL [z] x = [x] := by unfold putL; simp [h, sLt_irrefl]
theorem putL_hit (hP : lowT P x.key) (hQ : highT Q x.key) (h : z.key = x.key) : putL (P ++ z :: Q) x = P ++ x :: Q := by
  have := putL_mid (c := [z]) hP hQ
  rw [putL_one h] at this
  simpa using this
theorem putL_new (hP : lowT P x.key) (hQ : highT Q x.key) : putL (P ++ Q) x = P ++ x :: Q := by
  have := putL_mid (c := []) hP hQ
  rw [putL_nil] at this
  simpa using this
theorem low_ne (h : lowT P k) : ∀ a, a ∈ P → a.key ≠ k := fun a ha => sLt_ne (h a ha)
theorem high_ne (h : highT P k) : ∀ a, a ∈ P → a.key ≠ k := fun a ha e => sLt_ne (h a ha) e.symm
theorem delL_self (h : ∀ a, a ∈ P → a.key ≠ k) : delL P k = P := List.filter_eq_self.2 fun a ha => by simpa using h a ha
theorem delL_app : delL (P ++ Q) k = delL P k ++ delL Q k := List.filter_append ..
theorem delL_mid (hP : lowT P k) (hQ : highT Q k) : delL (P ++ c ++ Q) k = P ++ delL c k ++ Q := by
  rw [delL_app, delL_app, delL_self (low_ne hP), delL_self (high_ne hQ)]
theorem delL_hit (hP : lowT P k) (hQ : highT Q k) (h : z.key = k) : delL (P ++ z :: Q) k = P ++ Q := by
  rw [delL_app, delL_self (low_ne hP)]
  have : delL (z :: Q) k = delL Q k := by unfold delL; simp [h]
  rw [this, delL_self (high_ne hQ)]
theorem getL_skip (h : ∀ a, a ∈ P → a.key ≠ k) : getL (P ++ c) k = getL c k := by
  unfold getL
  rw [List.find?_append, List.find?_eq_none.2 (fun a ha => by simpa using h a ha)]
  rfl
theorem getL_skipR (h : ∀ a, a ∈ Q → a.key ≠ k) : getL (c ++ Q) k = getL c k := by
  unfold getL
  have hn : List.find? (fun a => decide (a.key = k)) Q = none := List.find?_eq_none.2 (fun a ha => by simpa using h a ha)
  rw [List.find?_append, hn]
  cases List.find? (fun a => decide (a.key = k)) c <;> rfl
theorem getL_mid (hP : lowT P k) (hQ : highT Q k) : getL (P ++ c ++ Q) k = getL c k := by
  rw [getL_skipR (high_ne hQ), getL_skip (low_ne hP)]
theorem getL_hit (hP : lowT P k) (h : z.key = k) : getL (P ++ z :: Q) k = (z.val, true) := by
  rw [getL_skip (low_ne hP)]; unfold getL; simp [h]
theorem getL_no (hP : lowT P k) (hQ : highT Q k) : getL (P ++ Q) k = (0, false) := by
  rw [getL_skip (low_ne hP)]
  have := getL_skipR (c := []) (high_ne hQ)
  rw [List.nil_append] at this
  rw [this]; rfl
theorem getL_mem (h : (getL l k).2 = true) : ∃ a, a ∈ l ∧ a.key = k := by
  unfold getL at h
  cases e : List.find? (fun a => decide (a.key = k)) l with
  | none => rw [e] at h; cases h
  | some a => exact ⟨a, List.mem_of_find?_eq_some e, by simpa using List.find?_some e⟩
theorem upT_app : upT (P ++ Q) ↔ upT P ∧ upT Q ∧ ∀ a, a ∈ P → ∀ b, b ∈ Q → sLt a.key b.key = true := List.pairwise_append
theorem upT_cons : upT (z :: Q) ↔ highT Q z.key ∧ upT Q := List.pairwise_cons
theorem lowT_last (h : upT (P ++ [z])) (hz : sLt z.key k = true) : lowT (P ++ [z]) k := by
  intro a ha
  rcases List.mem_append.1 ha with ha | ha
  · exact sLt_trans ((upT_app.1 h).2.2 a ha z (List.mem_singleton.2 rfl)) hz
  · rw [List.mem_singleton.1 ha]; exact hz
theorem highT_head (h : upT (z :: Q)) (hz : sLt k z.key = true) : highT (z :: Q) k := by
  intro a ha
  rcases List.mem_cons.1 ha with rfl | ha
  · exact hz
  · exact sLt_trans hz ((upT_cons.1 h).1 a ha)
theorem lowT_nil : lowT [] k := fun _ h => by cases h
theorem highT_nil : highT [] k := fun _ h => by cases h
theorem upT_parts (h : upT (P ++ z :: Q)) : lowT P z.key ∧ highT Q z.key := ⟨fun a ha => (upT_app.1 h).2.2 a ha z (by simp), (upT_cons.1 (upT_app.1 h).2.1).1⟩
theorem putL_up (h : upT l) : upT (putL l x) := by
  unfold putL
  rw [upT_app, upT_cons]
  refine ⟨h.filter _, ⟨fun a ha => (List.mem_filter.1 ha).2, h.filter _⟩, fun a ha b hb => ?_⟩
  have ha := (List.mem_filter.1 ha).2
  rcases List.mem_cons.1 hb with rfl | hb
  · exact ha
  · exact sLt_trans ha (List.mem_filter.1 hb).2
theorem delL_up (h : upT l) : upT (delL l k) := h.filter _
def bsI (ks : List ByteArray) (k : ByteArray) : Nat := ks.findIdx fun x => !sLt x k
def bsF (ks : List ByteArray) (k : ByteArray) : Bool := decide (ks[bsI ks k]? = some k)
theorem bsI_le (ks : List ByteArray) (k : ByteArray) : bsI ks k ≤ ks.length := List.findIdx_le_length
theorem bs_hit (h : upT l) (hf : bsF (l.map THit.key) k = true) : ∃ P z Q, l = P ++ z :: Q ∧ P.length = bsI (l.map THit.key) k ∧ z.key = k ∧ lowT P k ∧ highT Q k := by
  unfold bsF at hf
  rw [decide_eq_true_eq, List.getElem?_map] at hf
  cases hz : l[bsI (l.map THit.key) k]? with
  | none => rw [hz] at hf; cases hf
  | some z =>
    rw [hz] at hf
    simp only [Option.map_some, Option.some.injEq] at hf
    obtain ⟨hlt, he⟩ := List.getElem?_eq_some_iff.1 hz
    have hl : l = l.take (bsI (l.map THit.key) k) ++ z :: l.drop (bsI (l.map THit.key) k + 1) := by
      rw [← he, ← List.drop_eq_getElem_cons hlt, List.take_append_drop]
    have hp := upT_parts (hl ▸ h)
    exact ⟨_, z, _, hl, by rw [List.length_take]; omega, hf, hf ▸ hp.1, hf ▸ hp.2⟩
theorem bs_miss (h : upT l) (hf : bsF (l.map THit.key) k = false) : ∃ P Q, l = P ++ Q ∧ P.length = bsI (l.map THit.key) k ∧ lowT P k ∧ highT Q k := by
  refine ⟨l.take (bsI (l.map THit.key) k), l.drop (bsI (l.map THit.key) k), (List.take_append_drop ..).symm, by rw [List.length_take]; have := bsI_le (l.map THit.key) k; rw [List.length_map] at this; omega, ?_, ?_⟩
  · intro a ha
    obtain ⟨j, hj, he⟩ := List.mem_take_iff_getElem.1 ha
    have hlt : j < (l.map THit.key).findIdx fun x => !sLt x k := by unfold bsI at hj; omega
    have := List.not_of_lt_findIdx hlt
    simp at this
    rw [← he]; exact this
  · cases hd : l.drop (bsI (l.map THit.key) k) with
    | nil => exact highT_nil
    | cons z Q =>
      have hz : l[bsI (l.map THit.key) k]? = some z := by
        have := congrArg (fun q => q[0]?) hd
        simpa using this
      refine highT_head (by rw [← hd]; exact List.Pairwise.sublist (List.drop_sublist _ _) h) ?_
      have h1 : sLt z.key k = false := by
        have hlt := (List.getElem?_eq_some_iff.1 hz).1
        have := List.findIdx_getElem (p := fun x => !sLt x k) (xs := l.map THit.key) (w := by simpa [bsI] using hlt)
        simp only [List.getElem_map, Bool.not_eq_true'] at this
        rw [← (List.getElem?_eq_some_iff.1 hz).2]; exact this
      have h2 : z.key ≠ k := by
        intro e
        unfold bsF at hf
        rw [List.getElem?_map, hz] at hf
        simp [e] at hf
      cases h3 : sLt k z.key with
      | true => rfl
      | false => exact absurd (sLt_total h1 h3) h2
end
inductive BT where
  | mk (h : Handle) (ks : List THit) (ts : List BT)
namespace BT
def h : BT → Handle | mk h _ _ => h
def ks : BT → List THit | mk _ k _ => k
def ts : BT → List BT | mk _ _ t => t
end BT
def weave : List (List THit) → List THit → List THit
  | a :: ar_, k :: ks => a ++ k :: weave ar_ ks
  | a :: _, [] => a
  | [], ks => ks
def flatB : Nat → BT → List THit
  | 0, t => t.ks
  | d + 1, t => weave (t.ts.map (flatB d)) t.ks
def hsB : Nat → BT → List Handle
  | 0, t => [t.h]
  | d + 1, t => t.h :: t.ts.flatMap (hsB d)
def nodeB (d : Nat) (t : BT) : Nd := ⟨d == 0, t.ks.map THit.key, if d = 0 then [] else t.ts.map BT.h, t.ks.map THit.val⟩
def HoldsB (l : List RPlace) : Nat → BT → Prop
  | 0, t => atA l t.h = some (nodeB 0 t)
  | d + 1, t => atA l t.h = some (nodeB (d + 1) t) ∧ ∀ s, s ∈ t.ts → HoldsB l d s
def okB : Nat → Nat → BT → Prop
  | lo, 0, t => lo ≤ t.ks.length ∧ t.ks.length ≤ 4
  | lo, d + 1, t => lo ≤ t.ks.length ∧ t.ks.length ≤ 4 ∧ t.ts.length = t.ks.length + 1 ∧ ∀ s, s ∈ t.ts → okB 2 d s
section
variable {A B T1 T2 : List (List THit)} {K1 K2 : List THit} {c : List THit} {m : THit}
def preW (A : List (List THit)) (K : List THit) : List THit := (A.zip K).flatMap fun p => p.1 ++ [p.2]
def sufW (K : List THit) (B : List (List THit)) : List THit := (K.zip B).flatMap fun p => p.1 :: p.2
theorem weave_suf : ∀ {B : List (List THit)} {K2 c : List THit}, B.length = K2.length → weave (c :: B) K2 = c ++ sufW K2 B
  | [], [], c, _ => by simp [weave, sufW]
  | b :: B, k :: K, c, h => by
    have := weave_suf (c := b) (B := B) (K2 := K) (by simpa using h)
    simp only [weave, this, sufW, List.zip_cons_cons, List.flatMap_cons]
    simp [sufW]
  | [], _ :: _, _, h => by simp at h
  | _ :: _, [], _, h => by simp at h
theorem weave_pre : ∀ {A : List (List THit)} {K1 : List THit}, A.length = K1.length → ∀ (B : List (List THit)) (K2 : List THit), weave (A ++ B) (K1 ++ K2) = preW A K1 ++ weave B K2
  | [], [], _, B, K2 => by simp [preW]
  | a :: A, k :: K, h, B, K2 => by
    have := weave_pre (A := A) (K1 := K) (by simpa using h) B K2
    simp only [List.cons_append, weave, this, preW, List.zip_cons_cons, List.flatMap_cons]
    simp [preW]
  | [], _ :: _, h, _, _ => by simp at h
  | _ :: _, [], h, _, _ => by simp at h
theorem weave_mid (hA : A.length = K1.length) (hB : B.length = K2.length) : weave (A ++ c :: B) (K1 ++ K2) = preW A K1 ++ c ++ sufW K2 B := by
  rw [weave_pre hA, weave_suf hB, List.append_assoc]
theorem weave_app (h1 : T1.length = K1.length + 1) : weave (T1 ++ T2) (K1 ++ m :: K2) = weave T1 K1 ++ m :: weave T2 K2 := by
  obtain ⟨A, c, rfl⟩ : ∃ A c, T1 = A ++ [c] := ⟨T1.dropLast, T1.getLast (by rintro rfl; simp at h1), (List.dropLast_concat_getLast _).symm⟩
  have hA : A.length = K1.length := by simpa using h1
  have e1 := weave_pre hA (c :: T2) (m :: K2)
  have e2 := weave_pre hA [c] []
  simp only [List.append_nil] at e2
  rw [List.append_assoc, List.singleton_append, e1, e2]
  simp [weave]
theorem preW_snoc {a : List THit} (hA : A.length = K1.length) : preW (A ++ [a]) (K1 ++ [m]) = preW A K1 ++ (a ++ [m]) := by
  unfold preW
  rw [List.zip_append hA, List.flatMap_append]; simp
theorem sufW_cons {a : List THit} : sufW (m :: K2) (a :: B) = m :: (a ++ sufW K2 B) := by unfold sufW; simp
theorem preW_low {k : ByteArray} (hA : A.length = K1.length) (hu : upT (preW A K1)) (hk : lowT K1 k) : lowT (preW A K1) k := by
  rcases List.eq_nil_or_concat K1 with rfl | ⟨K, z, rfl⟩
  · simp [preW]; exact lowT_nil
  · obtain ⟨A', a, rfl⟩ : ∃ A' a, A = A' ++ [a] := ⟨A.dropLast, A.getLast (by rintro rfl; simp at hA), (List.dropLast_concat_getLast _).symm⟩
    have hA' : A'.length = K.length := by simpa using hA
    rw [List.concat_eq_append] at *
    rw [preW_snoc hA', ← List.append_assoc] at *
    exact lowT_last hu (hk z (by simp))
theorem sufW_high {k : ByteArray} (hB : B.length = K2.length) (hu : upT (sufW K2 B)) (hk : highT K2 k) : highT (sufW K2 B) k := by
  match K2, B, hB with
  | [], [], _ => simp [sufW]; exact highT_nil
  | z :: K, b :: B, _ => rw [sufW_cons] at *; exact highT_head hu (hk z (by simp))
end
end Tp
namespace Tp
open Go
def insAt {α : Type} (l : List α) (i : Nat) (x : α) : List α := l.take i ++ x :: l.drop i
theorem insAt_app {α : Type} {P Q : List α} {x : α} {i : Nat} (h : P.length = i) : insAt (P ++ Q) i x = P ++ x :: Q := by
  subst h; unfold insAt; simp
def settleF (l : List RPlace) (h : Handle) (n : Nd) : List RPlace × Option (THit × Handle) :=
  if n.keys.length ≤ 4 then ((rput l h n).1, none)
  else
    let l1 := (rput l h ⟨n.leaf, n.keys.take 2, if n.leaf then [] else n.kids.take 3, n.vals.take 2⟩).1
    let m := rmake l1 ⟨n.leaf, n.keys.drop 3, if n.leaf then [] else n.kids.drop 3, n.vals.drop 3⟩
    (m.1, some (⟨n.keys.getD 2 default, n.vals.getD 2 0⟩, m.2))
def insF : Nat → List RPlace → Handle → THit → List RPlace × (Int × Bool) × Option (THit × Handle)
  | d, l, h, x =>
    let n := (rget l h).1
    let i := bsI n.keys x.key
    if bsF n.keys x.key then ((rput l h ⟨n.leaf, n.keys, n.kids, n.vals.set i x.val⟩).1, (n.vals.getD i 0, true), none)
    else if n.leaf then
      let s := settleF l h ⟨n.leaf, insAt n.keys i x.key, n.kids, insAt n.vals i x.val⟩
      (s.1, (0, false), s.2)
    else match d with
      | 0 => (l, (0, false), none)
      | d + 1 =>
        let r := insF d l (n.kids.getD i hdZero) x
        match r.2.2 with
        | none => (r.1, r.2.1, none)
        | some u =>
          let s := settleF r.1 h ⟨n.leaf, insAt n.keys i u.1.key, insAt n.kids (i + 1) u.2, insAt n.vals i u.1.val⟩
          (s.1, r.2.1, s.2)
def SameA (l l' : List RPlace) (S : List Handle) : Prop := ∀ h n, h ∉ S → atA l h = some n → atA l' h = some n
section
variable {l l' l'' : List RPlace} {S S' S'' : List Handle} {d : Nat} {t s : BT} {h : Handle} {n m : Nd}
theorem SameA.refl : SameA l l S := fun _ _ _ h => h
theorem SameA.trans (h1 : SameA l l' S) (h2 : SameA l' l'' S) : SameA l l'' S := fun h n hn e => h2 h n hn (h1 h n hn e)
theorem SameA.mono (h1 : SameA l l' S) (hs : ∀ h, h ∈ S → h ∈ S') : SameA l l' S' := fun h n hn e => h1 h n (fun hh => hn (hs h hh)) e
theorem SameA.put (e : atA l h = some n) (hs : h ∈ S) : SameA l (rput l h m).1 S := fun h' n' hn e' => by
  rw [put_at e, if_neg (by rintro rfl; exact hn hs)]; exact e'
theorem SameA.make : SameA l (rmake l m).1 S := fun h' n' hn e' => by
  rw [make_at, if_neg]; exact e'
  rintro rfl; rw [make_none] at e'; cases e'
theorem SameA.free (e : atA l h = some n) (hs : h ∈ S) : SameA l (rfree l [h]).1 S := fun h' n' hn e' => by
  rw [free_at e, if_neg (by rintro rfl; exact hn hs)]; exact e'
theorem hsB_self (d : Nat) (t : BT) : t.h ∈ hsB d t := by cases d <;> simp [hsB]
theorem HoldsB.self (H : HoldsB l d t) : atA l t.h = some (nodeB d t) := by
  cases d with
  | zero => exact H
  | succ d => exact H.1
theorem HoldsB.same (hs : SameA l l' S) : ∀ {d : Nat} {t : BT}, HoldsB l d t → (∀ h, h ∈ hsB d t → h ∉ S) → HoldsB l' d t
  | 0, t, H, hn => hs _ _ (hn _ (hsB_self 0 t)) H
  | d + 1, t, H, hn => ⟨hs _ _ (hn _ (hsB_self _ t)) H.1, fun s hsm => HoldsB.same hs (H.2 s hsm) fun h hh => hn h (by simp only [hsB, List.mem_cons, List.mem_flatMap]; exact .inr ⟨s, hsm, hh⟩)⟩
theorem HoldsB.each : ∀ {d : Nat} {t : BT}, HoldsB l d t → ∀ h, h ∈ hsB d t → ∃ n, atA l h = some n
  | 0, t, H, h, hh => by simp only [hsB, List.mem_singleton] at hh; subst hh; exact ⟨_, H⟩
  | d + 1, t, H, h, hh => by
    simp only [hsB, List.mem_cons, List.mem_flatMap] at hh
    rcases hh with rfl | ⟨s, hs, hh⟩
    · exact ⟨_, H.1⟩
    · exact HoldsB.each (H.2 s hs) h hh
end
section
variable {d : Nat} {h : Handle} {ks K1 K2 : List THit} {ts A B : List BT} {c z : BT} {u x : THit}
theorem flatB_mid (hA : A.length = K1.length) (hB : B.length = K2.length) : flatB (d + 1) (.mk h (K1 ++ K2) (A ++ c :: B)) = preW (A.map (flatB d)) K1 ++ flatB d c ++ sufW K2 (B.map (flatB d)) := by
  simp only [flatB, BT.ts, BT.ks, List.map_append, List.map_cons]
  exact weave_mid (by simpa using hA) (by simpa using hB)
theorem flatB_two {z : BT} (hA : A.length = K1.length) (hB : B.length = K2.length) : flatB (d + 1) (.mk h (K1 ++ u :: K2) (A ++ c :: z :: B)) = preW (A.map (flatB d)) K1 ++ (flatB d c ++ u :: flatB d z) ++ sufW K2 (B.map (flatB d)) := by
  rw [flatB_mid (K2 := u :: K2) hA (by simp [hB]), List.map_cons, sufW_cons]
  simp
theorem flatB_app (hA : A.length = K1.length + 1) : flatB (d + 1) (.mk h (K1 ++ u :: K2) (A ++ B)) = flatB (d + 1) (.mk h K1 A) ++ u :: flatB (d + 1) (.mk h K2 B) := by
  simp only [flatB, BT.ts, BT.ks, List.map_append]
  exact weave_app (by simpa using hA)
end
theorem split_at {α : Type} {l : List α} {i : Nat} (h : i < l.length) : ∃ A c B, l = A ++ c :: B ∧ A.length = i := ⟨l.take i, l[i], l.drop (i + 1), by rw [← List.drop_eq_getElem_cons h, List.take_append_drop], by rw [List.length_take]; omega⟩
theorem split2 {α : Type} {l : List α} {i : Nat} (h : i ≤ l.length) : ∃ A B, l = A ++ B ∧ A.length = i := ⟨l.take i, l.drop i, (List.take_append_drop ..).symm, by rw [List.length_take]; omega⟩
structure PutB (l l' : List RPlace) (lo d : Nat) (S : List Handle) (h : Handle) (up : Option (THit × Handle)) (row : List THit) (K : Nat) : Prop where
  same : SameA l l' S
  big : BigA l' K
  parts : ∃ t', t'.h = h ∧ HoldsB l' d t' ∧ (∀ h, h ∈ hsB d t' → h ∈ S ∨ atA l h = none) ∧ (hsB d t').Nodup ∧
    ((up = none ∧ okB lo d t' ∧ row = flatB d t' ∧ usedN l' + S.length = usedN l + (hsB d t').length) ∨
     ∃ u t2, up = some (u, t2.h) ∧ okB 2 d t' ∧ okB 2 d t2 ∧ HoldsB l' d t2 ∧ row = flatB d t' ++ u :: flatB d t2 ∧ (∀ h, h ∈ hsB d t2 → h ∈ S ∨ atA l h = none) ∧ (hsB d t2).Nodup ∧ (∀ h, h ∈ hsB d t' → h ∉ hsB d t2) ∧
       usedN l' + S.length = usedN l + (hsB d t').length + (hsB d t2).length)
end Tp
namespace Tp
open Go
def kidsH (l : List RPlace) : Nat → List BT → Prop
  | 0, _ => True
  | d + 1, ts => ∀ s, s ∈ ts → HoldsB l d s
def hsK : Nat → List BT → List Handle
  | 0, _ => []
  | d + 1, ts => ts.flatMap (hsB d)
def okK : Nat → List THit → List BT → Prop
  | 0, _, _ => True
  | d + 1, ks, ts => ts.length = ks.length + 1 ∧ ∀ s, s ∈ ts → okB 2 d s
section
variable {l l' l1 : List RPlace} {d lo : Nat} {h : Handle} {ks K1 K2 : List THit} {ts T1 T2 A B : List BT} {c : BT} {u x : THit} {K : Nat} {S : List Handle}
theorem hsB_mk : hsB d (.mk h ks ts) = h :: hsK d ts := by cases d <;> rfl
theorem holds_mk : HoldsB l d (.mk h ks ts) ↔ atA l h = some (nodeB d (.mk h ks ts)) ∧ kidsH l d ts := by
  cases d with
  | zero => simp [HoldsB, kidsH, BT.h]
  | succ d => rfl
theorem ok_mk : okB lo d (.mk h ks ts) ↔ lo ≤ ks.length ∧ ks.length ≤ 4 ∧ okK d ks ts := by
  cases d with
  | zero => simp [okB, okK, BT.ks]
  | succ d => simp [okB, okK, BT.ks, BT.ts]
theorem kidsH_same (hs : SameA l l' S) (H : kidsH l d ts) (hn : ∀ h, h ∈ hsK d ts → h ∉ S) : kidsH l' d ts := by
  cases d with
  | zero => trivial
  | succ d => exact fun s hm => (H s hm).same hs fun h hh => hn h (List.mem_flatMap.2 ⟨s, hm, hh⟩)
theorem kidsH_each (H : kidsH l d ts) : ∀ h, h ∈ hsK d ts → ∃ n, atA l h = some n := by
  cases d with
  | zero => intro h hh; cases hh
  | succ d => intro h hh; obtain ⟨s, hs, hh⟩ := List.mem_flatMap.1 hh; exact (H s hs).each h hh
theorem node_tiny (h1 : ks.length ≤ 9) (h2 : okK d ks ts) : tinyN (nodeB d (.mk h ks ts)) := by
  cases d with
  | zero => simp [tinyN, nodeB, BT.ks, BT.ts]; omega
  | succ d => have := h2.1; simp [tinyN, nodeB, BT.ks, BT.ts]; omega
theorem nodeB_leaf : (nodeB d (.mk h ks ts)).leaf = (d == 0) := rfl
theorem nodeB_keys : (nodeB d (.mk h ks ts)).keys = ks.map THit.key := rfl
theorem nodeB_vals : (nodeB d (.mk h ks ts)).vals = ks.map THit.val := rfl
theorem nodeB_kids : (nodeB d (.mk h ks ts)).kids = if d = 0 then [] else ts.map BT.h := rfl
theorem five {ks : List THit} (h : ks.length = 5) : ∃ a b u c e, ks = [a, b, u, c, e] := by
  match ks, h with
  | [a, b, u, c, e], _ => exact ⟨a, b, u, c, e, rfl⟩
theorem settle_ok {old : Nd} (e : atA l h = some old) (hk : kidsH l d ts) (hn : (h :: hsK d ts).Nodup) (ho : okK d ks ts) (h1 : lo ≤ ks.length) (hlo : lo ≤ 2) (h5 : ks.length ≤ 5) (hB : BigA l K) :
    PutB l (settleF l h (nodeB d (.mk h ks ts))).1 lo d (h :: hsK d ts) h (settleF l h (nodeB d (.mk h ks ts))).2 (flatB d (.mk h ks ts)) (K + 1) := by
  obtain ⟨hn1, hn2⟩ := List.nodup_cons.1 hn
  have hself : ∀ q, q ∈ hsK d ts → q ∉ [h] := fun q hq hm => by rw [List.mem_singleton.1 hm] at hq; exact hn1 hq
  unfold settleF
  simp only [nodeB_keys, List.length_map]
  by_cases h4 : ks.length ≤ 4
  · rw [if_pos h4]
    simp only
    have hs : SameA l (rput l h (nodeB d (.mk h ks ts))).1 [h] := SameA.put e (by simp)
    refine ⟨hs.mono (by simp), (hB.put e (node_tiny (by omega) ho)).mono (by omega), .mk h ks ts, rfl, ?_, ?_, ?_, .inl ⟨rfl, ?_, rfl, ?_⟩⟩
    · exact holds_mk.2 ⟨by rw [put_at e, if_pos rfl], kidsH_same hs hk hself⟩
    · rw [hsB_mk]; exact fun q hq => .inl hq
    · rw [hsB_mk]; exact hn
    · exact ok_mk.2 ⟨h1, h4, ho⟩
    · rw [put_used e, hsB_mk]
  · rw [if_neg h4]
    obtain ⟨a, b, u, c, e', rfl⟩ := five (ks := ks) (by omega)
    -- the parts
    obtain ⟨T1, T2, hT, hT1, hT2⟩ : ∃ T1 T2, ts = T1 ++ T2 ∧ (d ≠ 0 → T1.length = 3) ∧ (d ≠ 0 → T2.length = 3) := by
      cases d with
      | zero => exact ⟨[], ts, rfl, fun h => absurd rfl h, fun h => absurd rfl h⟩
      | succ d =>
        have hl := ho.1
        simp at hl
        exact ⟨ts.take 3, ts.drop 3, (List.take_append_drop ..).symm, fun _ => by simp; omega, fun _ => by simp; omega⟩
    subst hT
    have eleft : (⟨(nodeB d (.mk h [a, b, u, c, e'] (T1 ++ T2))).leaf, (([a, b, u, c, e'] : List THit).map THit.key).take 2, if (nodeB d (.mk h [a, b, u, c, e'] (T1 ++ T2))).leaf then [] else (nodeB d (.mk h [a, b, u, c, e'] (T1 ++ T2))).kids.take 3, (nodeB d (.mk h [a, b, u, c, e'] (T1 ++ T2))).vals.take 2⟩ : Nd) = nodeB d (.mk h [a, b] T1) := by
      cases d with
      | zero => rfl
      | succ d =>
        have := hT1 (by simp)
        simp [nodeB, BT.ks, BT.ts, List.take_append, this]
    have eright : (⟨(nodeB d (.mk h [a, b, u, c, e'] (T1 ++ T2))).leaf, (([a, b, u, c, e'] : List THit).map THit.key).drop 3, if (nodeB d (.mk h [a, b, u, c, e'] (T1 ++ T2))).leaf then [] else (nodeB d (.mk h [a, b, u, c, e'] (T1 ++ T2))).kids.drop 3, (nodeB d (.mk h [a, b, u, c, e'] (T1 ++ T2))).vals.drop 3⟩ : Nd) = nodeB d (.mk h [c, e'] T2) := by
      cases d with
      | zero => rfl
      | succ d =>
        have := hT1 (by simp)
        simp [nodeB, BT.ks, BT.ts, List.drop_append, this]
    rw [eleft, eright]
    simp only [List.map_cons, List.map_nil, nodeB_vals, List.getD_cons_succ, List.getD_cons_zero]
    have ho1 : okK d [a, b] T1 := by
      cases d with
      | zero => trivial
      | succ d => exact ⟨by rw [hT1 (by simp)]; rfl, fun s hs => ho.2 s (List.mem_append_left _ hs)⟩
    have ho2 : okK d [c, e'] T2 := by
      cases d with
      | zero => trivial
      | succ d => exact ⟨by rw [hT2 (by simp)]; rfl, fun s hs => ho.2 s (List.mem_append_right _ hs)⟩
    have hk1 : kidsH l d T1 := by
      cases d with
      | zero => trivial
      | succ d => exact fun s hs => hk s (List.mem_append_left _ hs)
    have hk2 : kidsH l d T2 := by
      cases d with
      | zero => trivial
      | succ d => exact fun s hs => hk s (List.mem_append_right _ hs)
    have hsa : hsK d (T1 ++ T2) = hsK d T1 ++ hsK d T2 := by
      cases d with
      | zero => rfl
      | succ d => exact List.flatMap_append
    rw [hsa] at hn1 hn2 hself
    rw [List.mem_append, not_or] at hn1
    obtain ⟨hnA, hnB, hnC⟩ := List.nodup_append.1 hn2
    have hs1 : SameA l (rput l h (nodeB d (.mk h [a, b] T1))).1 [h] := SameA.put e (by simp)
    have e1 : atA (rput l h (nodeB d (.mk h [a, b] T1))).1 h = some (nodeB d (.mk h [a, b] T1)) := by rw [put_at e, if_pos rfl]
    generalize hl1 : (rput l h (nodeB d (.mk h [a, b] T1))).1 = l1 at hs1 e1
    have hb1 : BigA l1 K := by rw [← hl1]; exact hB.put e (node_tiny (by simp) ho1)
    have hu1 : usedN l1 = usedN l := by rw [← hl1]; exact put_used e
    have hs2 : SameA l1 (rmake l1 (nodeB d (.mk h [c, e'] T2))).1 [h] := SameA.make
    have e2 := make_at (l := l1) (m := nodeB d (.mk h [c, e'] T2)) (h' := (rmake l1 (nodeB d (.mk h [c, e'] T2))).2)
    rw [if_pos rfl] at e2
    have e3 := make_none (l := l1) (m := nodeB d (.mk h [c, e'] T2))
    have e4 : atA (rmake l1 (nodeB d (.mk h [c, e'] T2))).1 h = some (nodeB d (.mk h [a, b] T1)) := by
      rw [make_at, if_neg]; exact e1
      intro q; rw [← q, e1] at e3; cases e3
    have hb2 := hb1.make (m := nodeB d (.mk h [c, e'] T2)) (node_tiny (by simp) ho2)
    have hu2 := make_used (l := l1) (m := nodeB d (.mk h [c, e'] T2))
    generalize hm : rmake l1 (nodeB d (.mk h [c, e'] T2)) = m at hs2 e2 e3 e4 hb2 hu2
    have hs : SameA l m.1 [h] := hs1.trans hs2
    have hfresh : atA l m.2 = none := by
      cases e5 : atA l m.2 with
      | none => rfl
      | some n =>
        rcases Decidable.em (m.2 = h) with e6 | e6
        · rw [e6, e1] at e3; cases e3
        · have := hs1 _ _ (by simpa using e6) e5; rw [e3] at this; cases this
    have hm1 : m.2 ∉ hsK d T1 := fun q => by obtain ⟨n, hn⟩ := kidsH_each hk1 _ q; rw [hfresh] at hn; cases hn
    have hm2 : m.2 ∉ hsK d T2 := fun q => by obtain ⟨n, hn⟩ := kidsH_each hk2 _ q; rw [hfresh] at hn; cases hn
    have hm3 : m.2 ≠ h := fun q => by rw [q, e] at hfresh; cases hfresh
    refine ⟨hs.mono (by simp), hb2.mono (by omega), .mk h [a, b] T1, rfl, ?_, ?_, ?_, .inr ⟨u, .mk m.2 [c, e'] T2, rfl, ?_, ?_, ?_, ?_, ?_, ?_, ?_, ?_⟩⟩
    · exact holds_mk.2 ⟨e4, kidsH_same hs hk1 fun q hq => hself q (List.mem_append_left _ hq)⟩
    · rw [hsB_mk, hsa]
      exact fun q hq => .inl (by
        rcases List.mem_cons.1 hq with rfl | hq
        · exact List.mem_cons_self ..
        · exact List.mem_cons_of_mem _ (List.mem_append_left _ hq))
    · rw [hsB_mk]; exact List.nodup_cons.2 ⟨hn1.1, hnA⟩
    · exact ok_mk.2 ⟨by simp, by simp, ho1⟩
    · exact ok_mk.2 ⟨by simp, by simp, ho2⟩
    · exact holds_mk.2 ⟨by rw [e2]; rfl, kidsH_same hs hk2 fun q hq => hself q (List.mem_append_right _ hq)⟩
    · cases d with
      | zero => rfl
      | succ d => exact flatB_app (K1 := [a, b]) (K2 := [c, e']) (by rw [hT1 (by simp)]; rfl)
    · rw [hsB_mk, hsa]
      intro q hq
      rcases List.mem_cons.1 hq with rfl | hq
      · exact .inr hfresh
      · exact .inl (List.mem_cons_of_mem _ (List.mem_append_right _ hq))
    · rw [hsB_mk]; exact List.nodup_cons.2 ⟨hm2, hnB⟩
    · rw [hsB_mk, hsB_mk]
      intro q hq hq2
      rcases List.mem_cons.1 hq with rfl | hq
      · rcases List.mem_cons.1 hq2 with e6 | hq2
        · exact hm3 e6.symm
        · exact hn1.2 hq2
      · rcases List.mem_cons.1 hq2 with rfl | hq2
        · exact hm1 hq
        · exact hnC q hq q hq2 rfl
    · rw [hu2, hu1, hsB_mk, hsB_mk, hsa]; simp only [List.length_cons, List.length_append]; omega
end
end Tp
namespace Tp
open Go
theorem weave_sub : ∀ {T : List (List THit)} {K : List THit}, K.length ≤ T.length → K.Sublist (weave T K)
  | a :: T, k :: K, h => by
    simp only [weave]
    exact (List.Sublist.cons_cons k (weave_sub (by simpa using h))).trans (List.sublist_append_right _ _)
  | [], [], _ => by simp [weave]
  | a :: T, [], _ => List.nil_sublist _
  | [], _ :: _, h => by simp at h
section
variable {l l' l1 : List RPlace} {d lo : Nat} {h : Handle} {ks K1 K2 P Q : List THit} {ts T1 T2 A B : List BT} {c t : BT} {u x z : THit} {K : Nat} {S : List Handle}
theorem ks_up (ho : okB lo d (.mk h ks ts)) (hu : upT (flatB d (.mk h ks ts))) : upT ks := by
  cases d with
  | zero => exact hu
  | succ d => exact List.Pairwise.sublist (weave_sub (by have := (ok_mk.1 ho).2.2.1; simp [BT.ts, BT.ks]; omega)) hu
theorem flat_at (ho : okK (d + 1) (P ++ Q) ts) : ∃ A c B, ts = A ++ c :: B ∧ A.length = P.length ∧ B.length = Q.length ∧ flatB (d + 1) (.mk h (P ++ Q) ts) = preW (A.map (flatB d)) P ++ flatB d c ++ sufW Q (B.map (flatB d)) := by
  have hl := ho.1
  simp only [List.length_append] at hl
  obtain ⟨A, c, B, rfl, hA⟩ := split_at (l := ts) (i := P.length) (by omega)
  have hB : B.length = Q.length := by simp at hl; omega
  exact ⟨A, c, B, rfl, hA, hB, flatB_mid hA hB⟩
theorem pre_low (hA : A.length = P.length) (hu : upT (preW (A.map (flatB d)) P ++ flatB d c ++ sufW Q (B.map (flatB d)))) {k : ByteArray} (hk : lowT P k) : lowT (preW (A.map (flatB d)) P) k :=
  preW_low (by simpa using hA) (upT_app.1 (upT_app.1 hu).1).1 hk
theorem suf_high (hB : B.length = Q.length) (hu : upT (preW (A.map (flatB d)) P ++ flatB d c ++ sufW Q (B.map (flatB d)))) {k : ByteArray} (hk : highT Q k) : highT (sufW Q (B.map (flatB d))) k :=
  sufW_high (by simpa using hB) (upT_app.1 hu).2.1 hk
theorem mid_up (hu : upT (P ++ Q ++ ks)) : upT Q := (upT_app.1 (upT_app.1 hu).1).2.1
theorem getD_mid {α : Type} {A B : List α} {c dflt : α} {i : Nat} (h : A.length = i) : (A ++ c :: B).getD i dflt = c := by subst h; simp [List.getD]
theorem hsK_mid : hsK (d + 1) (A ++ c :: B) = hsK (d + 1) A ++ (hsB d c ++ hsK (d + 1) B) := by simp [hsK]
theorem ins_up {up : Option (THit × Handle)} {row : List THit} (hA : A.length = P.length) (hB : B.length = Q.length)
    (H : HoldsB l (d + 1) (.mk h (P ++ Q) (A ++ c :: B))) (hn : (hsB (d + 1) (.mk h (P ++ Q) (A ++ c :: B))).Nodup) (ho : okB lo (d + 1) (.mk h (P ++ Q) (A ++ c :: B))) (hlo : lo ≤ 2) (hl1 : 1 ≤ lo)
    (hp : PutB l l1 2 d (hsB d c) c.h up row K) :
    ∃ l2 up2, (match up with | none => (l1, none) | some u => settleF l1 h (nodeB (d + 1) (.mk h (P ++ u.1 :: Q) (A ++ c :: ((.mk u.2 [] []) :: B))))) = (l2, up2) ∧
      PutB l l2 lo (d + 1) (hsB (d + 1) (.mk h (P ++ Q) (A ++ c :: B))) h up2 (preW (A.map (flatB d)) P ++ row ++ sufW Q (B.map (flatB d))) (K + 1) := by
  obtain ⟨c', hc1, hc2, hc3, hc4, hc5⟩ := hp.parts
  rw [hsB_mk, hsK_mid] at hn ⊢
  obtain ⟨o1, o2, o3, o4⟩ := ok_mk.1 ho
  have hL1 : (P ++ Q).length = P.length + Q.length := List.length_append
  have hL2 : (A ++ c :: B).length = A.length + (B.length + 1) := by simp
  have hL3 : ∀ u : THit, (P ++ u :: Q).length = P.length + (Q.length + 1) := fun u => by simp
  have hL4 : ∀ a b : BT, (A ++ a :: b :: B).length = A.length + (B.length + 2) := fun a b => by simp
  obtain ⟨n1, n2⟩ := List.nodup_cons.1 hn
  rw [List.mem_append, List.mem_append, not_or, not_or] at n1
  obtain ⟨nA, n3, nAX⟩ := List.nodup_append.1 n2
  obtain ⟨nc, nB, ncB⟩ := List.nodup_append.1 n3
  have hH := holds_mk.1 H
  have kA : ∀ s, s ∈ A → HoldsB l1 d s := fun s hs => (hH.2 s (List.mem_append_left _ hs)).same hp.same fun q hq hm => nAX q (List.mem_flatMap.2 ⟨s, hs, hq⟩) q (List.mem_append_left _ hm) rfl
  have kB : ∀ s, s ∈ B → HoldsB l1 d s := fun s hs => (hH.2 s (by simp [hs])).same hp.same fun q hq hm => ncB q hm q (List.mem_flatMap.2 ⟨s, hs, hq⟩) rfl
  have hat : atA l1 h = some (nodeB (d + 1) (.mk h (P ++ Q) (A ++ c :: B))) := hp.same _ _ n1.2.1 hH.1
  have eA : ∀ q, q ∈ hsK (d + 1) A → ∃ n, atA l q = some n := fun q hq => kidsH_each (l := l) (d := d + 1) (ts := A) (fun s hs => hH.2 s (List.mem_append_left _ hs)) q hq
  have eB : ∀ q, q ∈ hsK (d + 1) B → ∃ n, atA l q = some n := fun q hq => kidsH_each (l := l) (d := d + 1) (ts := B) (fun s hs => hH.2 s (by simp [hs])) q hq
  have out : ∀ {T : List Handle}, (∀ q, q ∈ T → q ∈ hsB d c ∨ atA l q = none) → h ∉ T ∧ (∀ q, q ∈ hsK (d + 1) A → q ∉ T) ∧ ∀ q, q ∈ hsK (d + 1) B → q ∉ T := fun hT => by
    refine ⟨fun hm => ?_, fun q hq hm => ?_, fun q hq hm => ?_⟩
    · rcases hT _ hm with h1 | h1
      · exact n1.2.1 h1
      · rw [hH.1] at h1; cases h1
    · rcases hT _ hm with h1 | h1
      · exact nAX q hq q (List.mem_append_left _ h1) rfl
      · obtain ⟨n, hn⟩ := eA q hq; rw [h1] at hn; cases hn
    · rcases hT _ hm with h1 | h1
      · exact ncB q h1 q hq rfl
      · obtain ⟨n, hn⟩ := eB q hq; rw [h1] at hn; cases hn
  obtain ⟨f1, f2, f3⟩ := out hc3
  rcases hc5 with ⟨rfl, g1, g2, g3⟩ | ⟨u, t2, rfl, g1, g2, g3, g4, g5, g6, g7, g8⟩
  · refine ⟨_, _, rfl, hp.same.mono (fun q hq => by simp [hq]), hp.big.mono (by omega), .mk h (P ++ Q) (A ++ c' :: B), rfl, ?_, ?_, ?_, .inl ⟨rfl, ?_, ?_, ?_⟩⟩
    · refine holds_mk.2 ⟨?_, fun s hs => ?_⟩
      · rw [hat]; simp [nodeB, BT.ks, BT.ts, hc1]
      · rcases List.mem_append.1 hs with hs | hs
        · exact kA s hs
        · rcases List.mem_cons.1 hs with rfl | hs
          · exact hc2
          · exact kB s hs
    · rw [hsB_mk, hsK_mid]
      intro q hq
      simp only [List.mem_cons, List.mem_append] at hq ⊢
      rcases hq with hq | hq | hq | hq
      · exact .inl (.inl hq)
      · exact .inl (.inr (.inl hq))
      · exact (hc3 q hq).imp (fun h => .inr (.inr (.inl h))) id
      · exact .inl (.inr (.inr (.inr hq)))
    · rw [hsB_mk, hsK_mid]
      refine List.nodup_cons.2 ⟨by simp only [List.mem_append, not_or]; exact ⟨n1.1, f1, n1.2.2⟩, List.nodup_append.2 ⟨nA, List.nodup_append.2 ⟨hc4, nB, fun q hq q' hq' e => f3 q' hq' (e ▸ hq)⟩, fun q hq q' hq' e => ?_⟩⟩
      subst e
      rcases List.mem_append.1 hq' with hq' | hq'
      · exact f2 q hq hq'
      · exact nAX q hq q (List.mem_append_right _ hq') rfl
    · exact ok_mk.2 ⟨o1, o2, by simpa using o3, fun s hs => by
        rcases List.mem_append.1 hs with hs | hs
        · exact o4 s (List.mem_append_left _ hs)
        · rcases List.mem_cons.1 hs with rfl | hs
          · exact g1
          · exact o4 s (by simp [hs])⟩
    · rw [flatB_mid hA hB, g2]
    · rw [hsB_mk, hsK_mid]; simp only [List.length_cons, List.length_append]; omega
  · -- two of them
    obtain ⟨f4, f5, f6⟩ := out g5
    have en : (nodeB (d + 1) (.mk h (P ++ (u, t2.h).1 :: Q) (A ++ c :: ((.mk (u, t2.h).2 [] []) :: B)))) = nodeB (d + 1) (.mk h (P ++ u :: Q) (A ++ c' :: t2 :: B)) := by
      have hm : (BT.mk t2.h [] []).h = t2.h := rfl
      simp [nodeB, BT.ks, BT.ts, hc1, hm]
    refine ⟨(settleF l1 h (nodeB (d + 1) (.mk h (P ++ u :: Q) (A ++ c' :: t2 :: B)))).1, (settleF l1 h (nodeB (d + 1) (.mk h (P ++ u :: Q) (A ++ c' :: t2 :: B)))).2, by simp only [en], ?_⟩
    have hsk : hsK (d + 1) (A ++ c' :: t2 :: B) = hsK (d + 1) A ++ (hsB d c' ++ (hsB d t2 ++ hsK (d + 1) B)) := by simp [hsK]
    have nn : (h :: hsK (d + 1) (A ++ c' :: t2 :: B)).Nodup := by
      rw [hsk]
      refine List.nodup_cons.2 ⟨by simp only [List.mem_append, not_or]; exact ⟨n1.1, f1, f4, n1.2.2⟩, List.nodup_append.2 ⟨nA, List.nodup_append.2 ⟨hc4, List.nodup_append.2 ⟨g6, nB, fun q hq q' hq' e => f6 q' hq' (e ▸ hq)⟩, fun q hq q' hq' e => ?_⟩, fun q hq q' hq' e => ?_⟩⟩
      · subst e
        rcases List.mem_append.1 hq' with hq' | hq'
        · exact g7 q hq hq'
        · exact f3 q hq' hq
      · subst e
        rcases List.mem_append.1 hq' with hq' | hq'
        · exact f2 q hq hq'
        · rcases List.mem_append.1 hq' with hq' | hq'
          · exact f5 q hq hq'
          · exact nAX q hq q (List.mem_append_right _ hq') rfl
    have hs := settle_ok (lo := lo) (d := d + 1) (ks := P ++ u :: Q) (ts := A ++ c' :: t2 :: B) hat (fun s hs => by
        rcases List.mem_append.1 hs with hs | hs
        · exact kA s hs
        · rcases List.mem_cons.1 hs with rfl | hs
          · exact hc2
          · rcases List.mem_cons.1 hs with rfl | hs
            · exact g3
            · exact kB s hs) nn
      ⟨by rw [hL3, hL4]; omega, fun s hs => by
        rcases List.mem_append.1 hs with hs | hs
        · exact o4 s (List.mem_append_left _ hs)
        · rcases List.mem_cons.1 hs with rfl | hs
          · exact g1
          · rcases List.mem_cons.1 hs with rfl | hs
            · exact g2
            · exact o4 s (by simp [hs])⟩ (by rw [hL3]; omega) hlo (by rw [hL3]; omega) hp.big
    have back : ∀ q, q ∈ h :: hsK (d + 1) (A ++ c' :: t2 :: B) ∨ atA l1 q = none → q ∈ h :: (hsK (d + 1) A ++ (hsB d c ++ hsK (d + 1) B)) ∨ atA l q = none := by
      intro q hq
      rcases hq with hq | hq
      · rw [hsk] at hq
        simp only [List.mem_cons, List.mem_append] at hq ⊢
        rcases hq with hq | hq | hq | hq | hq
        · exact .inl (.inl hq)
        · exact .inl (.inr (.inl hq))
        · exact (hc3 q hq).imp (fun h => .inr (.inr (.inl h))) id
        · exact (g5 q hq).imp (fun h => .inr (.inr (.inl h))) id
        · exact .inl (.inr (.inr (.inr hq)))
      · cases e : atA l q with
        | none => exact .inr rfl
        | some n =>
          rcases Decidable.em (q ∈ hsB d c) with hm | hm
          · exact .inl (by simp [hm])
          · have := hp.same q n hm e; rw [hq] at this; cases this
    obtain ⟨t', k1, k2, k3, k4, k5⟩ := hs.parts
    have hlen : (h :: hsK (d + 1) (A ++ c' :: t2 :: B)).length + (hsB d c).length = (h :: (hsK (d + 1) A ++ (hsB d c ++ hsK (d + 1) B))).length + (hsB d c').length + (hsB d t2).length := by
      rw [hsk]; simp only [List.length_cons, List.length_append]; omega
    have same2 : SameA l (settleF l1 h (nodeB (d + 1) (.mk h (P ++ u :: Q) (A ++ c' :: t2 :: B)))).1 (h :: (hsK (d + 1) A ++ (hsB d c ++ hsK (d + 1) B))) := by
      intro q n hq e
      have hqc : q ∉ hsB d c := fun hm => hq (by simp [hm])
      refine hs.same q n (fun hm => ?_) (hp.same q n hqc e)
      rcases back q (.inl hm) with h1 | h1
      · exact hq h1
      · rw [e] at h1; cases h1
    have row2 : flatB (d + 1) (.mk h (P ++ u :: Q) (A ++ c' :: t2 :: B)) = preW (A.map (flatB d)) P ++ row ++ sufW Q (B.map (flatB d)) := by rw [flatB_two hA hB, g4]
    refine ⟨same2, hs.big, t', k1, k2, fun q hq => back q (k3 q hq), k4, ?_⟩
    rcases k5 with ⟨r1, r2, r3, r4⟩ | ⟨u', t3, r1, r2, r3, r4, r5, r6, r7, r8, r9⟩
    · exact .inl ⟨r1, r2, by rw [← row2, r3], by omega⟩
    · exact .inr ⟨u', t3, r1, r2, r3, r4, by rw [← row2, r5], fun q hq => back q (r6 q hq), r7, r8, by omega⟩
theorem set_mid {α : Type} {A B : List α} {c c' : α} {i : Nat} (h : A.length = i) : (A ++ c :: B).set i c' = A ++ c' :: B := by subst h; simp
theorem ins_ok : ∀ (d : Nat) {l : List RPlace} {t : BT} {x : THit} {K lo : Nat}, HoldsB l d t → (hsB d t).Nodup → okB lo d t → (1 ≤ lo ∨ d = 0) → lo ≤ 2 → upT (flatB d t) → BigA l K →
    PutB l (insF d l t.h x).1 (max lo 1) d (hsB d t) t.h (insF d l t.h x).2.2 (putL (flatB d t) x) (K + d + 1) ∧ (insF d l t.h x).2.1 = getL (flatB d t) x.key := by
  intro d
  induction d with
  | zero =>
    intro l t x K lo H hn ho hl1 hlo hu hB
    obtain ⟨h, ks, ts⟩ := t
    have hg : (rget l h).1 = nodeB 0 (.mk h ks ts) := by rw [atA_get (holds_mk.1 H).1]
    obtain ⟨o1, o2, o3⟩ := ok_mk.1 ho
    unfold insF
    simp only [BT.h, hg, nodeB_keys, nodeB_vals, nodeB_leaf]
    have hu' : upT ks := hu
    cases hf : bsF (ks.map THit.key) x.key with
    | true =>
      obtain ⟨P, z, Q, rfl, hP, hz, lP, hQ⟩ := bs_hit hu' hf
      simp only [if_true]
      have en : (⟨(0 : Nat) == 0, (P ++ z :: Q).map THit.key, (nodeB 0 (.mk h (P ++ z :: Q) ts)).kids, ((P ++ z :: Q).map THit.val).set (bsI ((P ++ z :: Q).map THit.key) x.key) x.val⟩ : Nd) = nodeB 0 (.mk h (P ++ x :: Q) ts) := by
        rw [← hP]; simp [nodeB, BT.ks, BT.ts, hz]
      rw [en]
      have e := (holds_mk.1 H).1
      refine ⟨⟨(SameA.put (S := [h]) e (by simp)).mono (by simp [hsB, BT.h]), (hB.put e (node_tiny (d := 0) (ks := P ++ x :: Q) (ts := ts) (by simp at o2 ⊢; omega) trivial)).mono (by omega), .mk h (P ++ x :: Q) ts, rfl, ?_, ?_, ?_, .inl ⟨rfl, ?_, ?_, ?_⟩⟩, ?_⟩
      · exact holds_mk.2 ⟨by rw [put_at e, if_pos rfl], trivial⟩
      · simp [hsB, BT.h]
      · simp [hsB]
      · exact ok_mk.2 ⟨by simp at o1 ⊢; omega, by simp at o2 ⊢; omega, trivial⟩
      · exact putL_hit lP hQ hz
      · rw [put_used e]; simp [hsB]
      · have hv : ((P ++ z :: Q).map THit.val).getD P.length 0 = z.val := by simp
        rw [← hP, hv]; exact (getL_hit lP hz).symm
    | false =>
      obtain ⟨P, Q, rfl, hP, lP, hQ⟩ := bs_miss hu' hf
      simp only [Bool.false_eq_true, if_false, beq_self_eq_true, if_true]
      have en : (⟨(true : Bool), insAt ((P ++ Q).map THit.key) (bsI ((P ++ Q).map THit.key) x.key) x.key, (nodeB 0 (.mk h (P ++ Q) ts)).kids, insAt ((P ++ Q).map THit.val) (bsI ((P ++ Q).map THit.key) x.key) x.val⟩ : Nd) = nodeB 0 (.mk h (P ++ x :: Q) ts) := by
        rw [List.map_append, List.map_append, insAt_app (by rw [List.length_map, hP, List.map_append]), insAt_app (by rw [List.length_map, hP, List.map_append])]
        simp [nodeB, BT.ks]
      rw [en]
      have hs := settle_ok (lo := max lo 1) (d := 0) (ks := P ++ x :: Q) (ts := ts) (holds_mk.1 H).1 trivial (by simp [hsK]) trivial (by simp at o1 ⊢; omega) (by omega) (by simp at o2 ⊢; omega) hB
      refine ⟨?_, (getL_no lP hQ).symm⟩
      have : flatB 0 (.mk h (P ++ x :: Q) ts) = putL (flatB 0 (.mk h (P ++ Q) ts)) x := (putL_new lP hQ).symm
      rw [this] at hs
      exact hs
  | succ d ih =>
    intro l t x K lo H hn ho hl1 hlo hu hB
    have hl1 : 1 ≤ lo := hl1.resolve_right (by simp)
    have hmx : max lo 1 = lo := by omega
    rw [hmx]
    obtain ⟨h, ks, ts⟩ := t
    have hg : (rget l h).1 = nodeB (d + 1) (.mk h ks ts) := by rw [atA_get (holds_mk.1 H).1]
    obtain ⟨o1, o2, o3⟩ := ok_mk.1 ho
    have hu' : upT ks := ks_up ho hu
    unfold insF
    simp only [BT.h, hg, nodeB_keys, nodeB_vals, nodeB_leaf]
    cases hf : bsF (ks.map THit.key) x.key with
    | true =>
      obtain ⟨P, z, Q, rfl, hP, hz, lP, hQ⟩ := bs_hit hu' hf
      simp only [if_true]
      have en : (⟨d + 1 == 0, (P ++ z :: Q).map THit.key, (nodeB (d + 1) (.mk h (P ++ z :: Q) ts)).kids, ((P ++ z :: Q).map THit.val).set (bsI ((P ++ z :: Q).map THit.key) x.key) x.val⟩ : Nd) = nodeB (d + 1) (.mk h (P ++ x :: Q) ts) := by
        rw [← hP]; simp [nodeB, BT.ks, BT.ts, hz]
      rw [en]
      have e := (holds_mk.1 H).1
      have ok2 : okK (d + 1) (P ++ x :: Q) ts := ⟨by have := o3.1; simp at this ⊢; omega, o3.2⟩
      obtain ⟨A, B, hAB, hA⟩ := split2 (l := ts) (i := P.length + 1) (by have := o3.1; simp at this; omega)
      subst hAB
      rw [flatB_app hA] at hu ⊢
      obtain ⟨p1, p2⟩ := upT_parts hu
      rw [hz] at p1 p2
      rw [hsB_mk] at hn ⊢
      obtain ⟨n1, n2⟩ := List.nodup_cons.1 hn
      refine ⟨⟨(SameA.put e (by simp)), (hB.put e (node_tiny (by simp at o2 ⊢; omega) ok2)).mono (by omega), .mk h (P ++ x :: Q) (A ++ B), rfl, ?_, ?_, ?_, .inl ⟨rfl, ?_, ?_, ?_⟩⟩, ?_⟩
      · refine holds_mk.2 ⟨by rw [put_at e, if_pos rfl], kidsH_same (S := [h]) (SameA.put e (by simp)) (holds_mk.1 H).2 fun q hq hm => ?_⟩
        rw [List.mem_singleton.1 hm] at hq; exact n1 hq
      · rw [hsB_mk]; exact fun q hq => .inl hq
      · rw [hsB_mk]; exact hn
      · exact ok_mk.2 ⟨by simp at o1 ⊢; omega, by simp at o2 ⊢; omega, ok2⟩
      · rw [flatB_app hA]; exact putL_hit p1 p2 hz
      · rw [put_used e, hsB_mk]
      · have hv : ((P ++ z :: Q).map THit.val).getD P.length 0 = z.val := by simp
        rw [← hP, hv]; exact (getL_hit p1 hz).symm
    | false =>
      obtain ⟨P, Q, rfl, hP, lP, hQ⟩ := bs_miss hu' hf
      have hd0 : ((d + 1 == 0) = true) ↔ False := by simp
      simp only [Bool.false_eq_true, if_false, hd0]
      obtain ⟨A, c, B, rfl, hA, hBl, hfl⟩ := flat_at (h := h) o3
      rw [hfl] at hu ⊢
      have low := pre_low hA hu lP
      have high := suf_high hBl hu hQ
      rw [putL_mid low high, getL_mid low high]
      have hc : ((nodeB (d + 1) (.mk h (P ++ Q) (A ++ c :: B))).kids.getD (bsI ((P ++ Q).map THit.key) x.key) hdZero) = c.h := by
        rw [nodeB_kids, if_neg (by simp), List.map_append, List.map_cons]
        exact getD_mid (by rw [List.length_map, hA, hP])
      rw [hc]
      have hnc : (hsB d c).Nodup := by
        rw [hsB_mk, hsK_mid] at hn
        exact (List.nodup_append.1 (List.nodup_append.1 (List.nodup_cons.1 hn).2).2.1).1
      obtain ⟨r1, r2⟩ := ih (x := x) (lo := 2) ((holds_mk.1 H).2 c (by simp)) hnc (o3.2 c (by simp)) (.inl (by omega)) (by omega) (mid_up hu) hB
      rw [show max 2 1 = 2 from rfl] at r1
      obtain ⟨l2, up2, e1, e2⟩ := ins_up hA hBl H hn ho hlo hl1 r1
      generalize insF d l c.h x = r at *
      obtain ⟨l1, wt, up⟩ := r
      simp only at *
      rw [← r2]
      cases up with
      | none =>
        simp only [Prod.mk.injEq] at e1
        obtain ⟨rfl, rfl⟩ := e1
        exact ⟨e2, by first | trivial | rfl⟩
      | some u =>
        have en : (⟨d + 1 == 0, insAt ((P ++ Q).map THit.key) (bsI ((P ++ Q).map THit.key) x.key) u.1.key, insAt (nodeB (d + 1) (.mk h (P ++ Q) (A ++ c :: B))).kids (bsI ((P ++ Q).map THit.key) x.key + 1) u.2, insAt ((P ++ Q).map THit.val) (bsI ((P ++ Q).map THit.key) x.key) u.1.val⟩ : Nd)
            = nodeB (d + 1) (.mk h (P ++ u.1 :: Q) (A ++ c :: (.mk u.2 [] []) :: B)) := by
          have k1 : insAt ((P ++ Q).map THit.key) P.length u.1.key = (P ++ u.1 :: Q).map THit.key := by
            rw [List.map_append, insAt_app (by simp)]; simp
          have k2 : insAt ((P ++ Q).map THit.val) P.length u.1.val = (P ++ u.1 :: Q).map THit.val := by
            rw [List.map_append, insAt_app (by simp)]; simp
          have k3 : insAt ((A ++ c :: B).map BT.h) (P.length + 1) u.2 = (A ++ c :: (.mk u.2 [] []) :: B).map BT.h := by
            rw [List.map_append, List.map_cons, List.append_cons, insAt_app (by simp [hA])]; simp [BT.h]
          rw [nodeB_kids, if_neg (by simp), ← hP, k1, k2, k3]
          rfl
        simp only [en]
        simp only at e1
        rw [e1]
        exact ⟨e2, by first | trivial | rfl⟩
end
end Tp
namespace Tp
open Go
def turnA (l : List RPlace) (h : Handle) (i : Nat) (leftward : Bool) : Nat :=
  let a := (rget l ((rget l h).1.kids.getD i hdZero)).1
  if leftward then a.keys.length + 1 else a.keys.length - 1
def turnF (l : List RPlace) (h : Handle) (i : Nat) (leftward : Bool) : List RPlace :=
  let n := (rget l h).1
  let a := (rget l (n.kids.getD i hdZero)).1
  let b := (rget l (n.kids.getD (i + 1) hdZero)).1
  let keys := a.keys ++ ((n.keys.drop i).take 1 ++ b.keys)
  let vals := a.vals ++ ((n.vals.drop i).take 1 ++ b.vals)
  let kids := a.kids ++ b.kids
  let at_ := turnA l h i leftward
  let l1 := (rput l (n.kids.getD i hdZero) ⟨a.leaf, keys.take at_, if a.leaf then a.kids else kids.take (at_ + 1), vals.take at_⟩).1
  let l2 := (rput l1 (n.kids.getD (i + 1) hdZero) ⟨b.leaf, keys.drop (at_ + 1), if a.leaf then b.kids else kids.drop (at_ + 1), vals.drop (at_ + 1)⟩).1
  (rput l2 h ⟨n.leaf, n.keys.set i (keys.getD at_ default), n.kids, n.vals.set i (vals.getD at_ 0)⟩).1
def joinF (l : List RPlace) (h : Handle) (i : Nat) : List RPlace :=
  let n := (rget l h).1
  let a := (rget l (n.kids.getD i hdZero)).1
  let b := (rget l (n.kids.getD (i + 1) hdZero)).1
  let l1 := (rput l (n.kids.getD i hdZero) ⟨a.leaf, a.keys ++ ((n.keys.drop i).take 1 ++ b.keys), a.kids ++ b.kids, a.vals ++ ((n.vals.drop i).take 1 ++ b.vals)⟩).1
  let l2 := (rfree l1 [n.kids.getD (i + 1) hdZero]).1
  (rput l2 h ⟨n.leaf, n.keys.eraseIdx i, n.kids.eraseIdx (i + 1), n.vals.eraseIdx i⟩).1
def richF (l : List RPlace) (n : Nd) (i : Int) : Bool := decide (0 ≤ i) && decide (i < n.kids.length) && decide (2 < (rget l (n.kids.getD i.toNat hdZero)).1.keys.length)
def mendF (l : List RPlace) (h : Handle) (i : Nat) : List RPlace :=
  let n := (rget l h).1
  if 2 ≤ (rget l (n.kids.getD i hdZero)).1.keys.length then l
  else if richF l n ((i : Int) - 1) then turnF l h (i - 1) false
  else if richF l n ((i : Int) + 1) then turnF l h i true
  else if 0 < i then joinF l h (i - 1)
  else joinF l h i
structure RemB (l l' : List RPlace) (lo d : Nat) (S : List Handle) (h : Handle) (row : List THit) (K : Nat) : Prop where
  same : SameA l l' S
  big : BigA l' K
  parts : ∃ t', t'.h = h ∧ HoldsB l' d t' ∧ (∀ h, h ∈ hsB d t' → h ∈ S) ∧ (hsB d t').Nodup ∧ okB lo d t' ∧ row = flatB d t' ∧ usedN l' + S.length = usedN l + (hsB d t').length
theorem okB_low {lo lo' d : Nat} {t : BT} (h : okB lo d t) (hl : lo' ≤ lo) : okB lo' d t := by
  cases d with
  | zero => exact ⟨Nat.le_trans hl h.1, h.2⟩
  | succ d => exact ⟨Nat.le_trans hl h.1, h.2⟩
theorem RemB.low {l l' : List RPlace} {lo lo' d : Nat} {S : List Handle} {h : Handle} {row : List THit} {K : Nat} (H : RemB l l' lo d S h row K) (hl : lo' ≤ lo) : RemB l l' lo' d S h row K :=
  ⟨H.same, H.big, let ⟨t, h1, h2, h3, h4, h5, h6⟩ := H.parts; ⟨t, h1, h2, h3, h4, okB_low h5 hl, h6⟩⟩
section
variable {l l' l1 : List RPlace} {d lo : Nat} {h : Handle} {ks P Q : List THit} {ts A B : List BT} {a b c t : BT} {u x z : THit} {K : Nat} {S : List Handle}
theorem bt_eta (t : BT) : BT.mk t.h t.ks t.ts = t := by cases t; rfl
theorem hsB_eta (d : Nat) (t : BT) : hsB d t = t.h :: hsK d t.ts := by rw [← bt_eta t, hsB_mk]; rfl
theorem two_flat (ha : okB 1 d a) (hb : okB 1 d b) : flatB d a ++ u :: flatB d b = flatB d (.mk h (a.ks ++ u :: b.ks) (a.ts ++ b.ts)) := by
  cases d with
  | zero => rfl
  | succ d =>
    have h1 := flatB_app (d := d) (h := h) (K1 := a.ks) (K2 := b.ks) (u := u) (A := a.ts) (B := b.ts) ha.2.2.1
    exact h1.symm
theorem parts_flat {at_ : Nat} (hk : okK d ks ts) (hat : at_ < ks.length) : flatB d (.mk h ks ts) = flatB d (.mk c.h (ks.take at_) (ts.take (at_ + 1))) ++ (ks.getD at_ default) :: flatB d (.mk b.h (ks.drop (at_ + 1)) (ts.drop (at_ + 1))) := by
  have hks : ks = ks.take at_ ++ ks.getD at_ default :: ks.drop (at_ + 1) := by
    rw [List.getD_eq_getElem?_getD, List.getElem?_eq_getElem hat, Option.getD_some, ← List.drop_eq_getElem_cons hat, List.take_append_drop]
  cases d with
  | zero => exact hks
  | succ d =>
    have h1 := flatB_app (d := d) (h := h) (K1 := ks.take at_) (K2 := ks.drop (at_ + 1)) (u := ks.getD at_ default) (A := ts.take (at_ + 1)) (B := ts.drop (at_ + 1)) (by rw [List.length_take, List.length_take]; have := hk.1; omega)
    rw [← hks, List.take_append_drop] at h1
    exact h1
theorem hsK_app : hsK d (A ++ B) = hsK d A ++ hsK d B := by
  cases d with
  | zero => rfl
  | succ d => exact List.flatMap_append
theorem kidsH_app : kidsH l d (A ++ B) ↔ kidsH l d A ∧ kidsH l d B := by
  cases d with
  | zero => simp [kidsH]
  | succ d => simp only [kidsH, List.mem_append]; exact ⟨fun h => ⟨fun s hs => h s (.inl hs), fun s hs => h s (.inr hs)⟩, fun h s hs => hs.elim (h.1 s) (h.2 s)⟩
theorem okK_two (ha : okB 1 d a) (hb : okB 1 d b) : okK d (a.ks ++ u :: b.ks) (a.ts ++ b.ts) := by
  cases d with
  | zero => trivial
  | succ d =>
    obtain ⟨_, _, h1, h2⟩ := ha
    obtain ⟨_, _, h3, h4⟩ := hb
    refine ⟨by simp [h1, h3]; omega, fun s hs => ?_⟩
    rcases List.mem_append.1 hs with hs | hs
    · exact h2 s hs
    · exact h4 s hs
theorem okK_take {at_ : Nat} (hk : okK d ks ts) (hat : at_ < ks.length) : okK d (ks.take at_) (ts.take (at_ + 1)) ∧ okK d (ks.drop (at_ + 1)) (ts.drop (at_ + 1)) := by
  cases d with
  | zero => exact ⟨trivial, trivial⟩
  | succ d =>
    obtain ⟨h1, h2⟩ := hk
    refine ⟨⟨by rw [List.length_take, List.length_take]; omega, fun s hs => h2 s (List.mem_of_mem_take hs)⟩, ⟨by rw [List.length_drop, List.length_drop]; omega, fun s hs => h2 s (List.mem_of_mem_drop hs)⟩⟩
theorem hsB_pair : hsK (d + 1) (A ++ a :: b :: B) = hsK (d + 1) A ++ (hsB d a ++ (hsB d b ++ hsK (d + 1) B)) := by simp [hsK]
theorem drop_one {α : Type} {P Q : List α} {u : α} : ((P ++ u :: Q).drop P.length).take 1 = [u] := by simp
structure PairB (l : List RPlace) (d : Nat) (h : Handle) (P Q : List THit) (u : THit) (A B : List BT) (a b : BT) : Prop where
  at_ : atA l h = some (nodeB (d + 1) (.mk h (P ++ u :: Q) (A ++ a :: b :: B)))
  kids : kidsH l (d + 1) (A ++ a :: b :: B)
  nodup : (h :: hsK (d + 1) (A ++ a :: b :: B)).Nodup
  lenA : A.length = P.length
  lenB : B.length = Q.length
  okA : ∀ s, s ∈ A → okB 2 d s
  okB_ : ∀ s, s ∈ B → okB 2 d s
  oka : okB 1 d a
  okb : okB 1 d b
theorem PairB.get (H : PairB l d h P Q u A B a b) : (rget l h).1 = nodeB (d + 1) (.mk h (P ++ u :: Q) (A ++ a :: b :: B)) := by rw [atA_get H.at_]
theorem PairB.kid (H : PairB l d h P Q u A B a b) : (rget l h).1.kids.getD P.length hdZero = a.h ∧ (rget l h).1.kids.getD (P.length + 1) hdZero = b.h := by
  rw [H.get, nodeB_kids, if_neg (by simp), List.map_append, List.map_cons, List.map_cons]
  exact ⟨getD_mid (by rw [List.length_map, H.lenA]), by rw [List.append_cons]; exact getD_mid (by simp [H.lenA])⟩
theorem PairB.ha (H : PairB l d h P Q u A B a b) : HoldsB l d a := H.kids a (by simp)
theorem PairB.hb (H : PairB l d h P Q u A B a b) : HoldsB l d b := H.kids b (by simp)
structure NodB (d : Nat) (h : Handle) (A B : List BT) (a b : BT) : Prop where
  hA : h ∉ hsK (d + 1) A
  ha : h ∉ hsB d a
  hb : h ∉ hsB d b
  hB : h ∉ hsK (d + 1) B
  nA : (hsK (d + 1) A).Nodup
  na : (hsB d a).Nodup
  nb : (hsB d b).Nodup
  nB : (hsK (d + 1) B).Nodup
  Aa : ∀ q, q ∈ hsK (d + 1) A → q ∉ hsB d a
  Ab : ∀ q, q ∈ hsK (d + 1) A → q ∉ hsB d b
  AB : ∀ q, q ∈ hsK (d + 1) A → q ∉ hsK (d + 1) B
  ab : ∀ q, q ∈ hsB d a → q ∉ hsB d b
  aB : ∀ q, q ∈ hsB d a → q ∉ hsK (d + 1) B
  bB : ∀ q, q ∈ hsB d b → q ∉ hsK (d + 1) B
theorem nodB_iff : (h :: hsK (d + 1) (A ++ a :: b :: B)).Nodup ↔ NodB d h A B a b := by
  rw [hsB_pair]
  simp only [List.nodup_cons, List.nodup_append, List.mem_append, not_or]
  constructor
  · rintro ⟨⟨h1, h2, h3, h4⟩, h5, ⟨h6, ⟨h7, h8, h9⟩, h10⟩, h11⟩
    exact ⟨h1, h2, h3, h4, h5, h6, h7, h8, fun q hq hm => h11 q hq q (.inl hm) rfl, fun q hq hm => h11 q hq q (.inr (.inl hm)) rfl, fun q hq hm => h11 q hq q (.inr (.inr hm)) rfl,
      fun q hq hm => h10 q hq q (.inl hm) rfl, fun q hq hm => h10 q hq q (.inr hm) rfl, fun q hq hm => h9 q hq q hm rfl⟩
  · intro H
    refine ⟨⟨H.hA, H.ha, H.hb, H.hB⟩, H.nA, ⟨H.na, ⟨H.nb, H.nB, fun q hq q' hq' e => H.bB q hq (e ▸ hq')⟩, fun q hq q' hq' e => ?_⟩, fun q hq q' hq' e => ?_⟩
    · subst e
      exact hq'.elim (H.ab q hq) (H.aB q hq)
    · subst e
      rcases hq' with hq' | hq' | hq'
      · exact H.Aa q hq hq'
      · exact H.Ab q hq hq'
      · exact H.AB q hq hq'
end
end Tp
namespace Tp
open Go
section
variable {l l' l1 l2 l3 : List RPlace} {d lo : Nat} {h : Handle} {ks P Q : List THit} {ts A B : List BT} {a b c t a' b' : BT} {u x z : THit} {K : Nat} {S : List Handle} {n m : Nd}
theorem hs_ne (h1 : h ∉ hsB d a) : h ≠ a.h := fun e => h1 (e ▸ hsB_self d a)
theorem nodB_ab (N : NodB d h A B a b) : a.h ≠ b.h := fun e => N.ab a.h (hsB_self d a) (e ▸ hsB_self d b)
theorem turn_ok {lw : Bool} (H : PairB l d h P Q u A B a b) (h1 : lo ≤ (P ++ u :: Q).length) (h4 : (P ++ u :: Q).length ≤ 4) (hB : BigA l K)
    (h2 : 2 ≤ turnA l h P.length lw) (h3 : turnA l h P.length lw ≤ 4) (h5 : turnA l h P.length lw + 3 ≤ (a.ks ++ u :: b.ks).length) (h6 : (a.ks ++ u :: b.ks).length ≤ turnA l h P.length lw + 5) :
    RemB l (turnF l h P.length lw) lo (d + 1) (h :: hsK (d + 1) (A ++ a :: b :: B)) h (flatB (d + 1) (.mk h (P ++ u :: Q) (A ++ a :: b :: B))) K := by
  obtain ⟨k1, k2⟩ := H.kid
  have ga : (rget l a.h).1 = nodeB d a := by rw [atA_get H.ha.self]
  have gb : (rget l b.h).1 = nodeB d b := by rw [atA_get H.hb.self]
  have gn := H.get
  generalize hat : turnA l h P.length lw = at_ at h2 h3 h5 h6
  have N := nodB_iff.1 H.nodup
  have okw := okK_two (u := u) H.oka H.okb
  obtain ⟨ok1, ok2⟩ := okK_take okw (at_ := at_) (by omega)
  -- what the three become
  let W := a.ks ++ u :: b.ks
  let TT := a.ts ++ b.ts
  have hW : W = a.ks ++ u :: b.ks := rfl
  have hWl : W.length = (a.ks ++ u :: b.ks).length := rfl
  have hTT : TT = a.ts ++ b.ts := rfl
  obtain ⟨a', ha'⟩ : ∃ a', a' = BT.mk a.h (W.take at_) (TT.take (at_ + 1)) := ⟨_, rfl⟩
  obtain ⟨b', hb'⟩ : ∃ b', b' = BT.mk b.h (W.drop (at_ + 1)) (TT.drop (at_ + 1)) := ⟨_, rfl⟩
  have ek : (nodeB d a).keys ++ (((nodeB (d + 1) (.mk h (P ++ u :: Q) (A ++ a :: b :: B))).keys.drop P.length).take 1 ++ (nodeB d b).keys) = W.map THit.key := by
    have : ((nodeB (d + 1) (.mk h (P ++ u :: Q) (A ++ a :: b :: B))).keys.drop P.length).take 1 = [u.key] := by
      rw [nodeB_keys, List.map_append, List.map_cons]
      have := drop_one (P := P.map THit.key) (Q := Q.map THit.key) (u := u.key)
      rwa [List.length_map] at this
    rw [this]; simp [hW, nodeB]
  have ev : (nodeB d a).vals ++ (((nodeB (d + 1) (.mk h (P ++ u :: Q) (A ++ a :: b :: B))).vals.drop P.length).take 1 ++ (nodeB d b).vals) = W.map THit.val := by
    have : ((nodeB (d + 1) (.mk h (P ++ u :: Q) (A ++ a :: b :: B))).vals.drop P.length).take 1 = [u.val] := by
      rw [nodeB_vals, List.map_append, List.map_cons]
      have := drop_one (P := P.map THit.val) (Q := Q.map THit.val) (u := u.val)
      rwa [List.length_map] at this
    rw [this]; simp [hW, nodeB]
  have ea : (⟨(nodeB d a).leaf, (W.map THit.key).take at_, if (nodeB d a).leaf then (nodeB d a).kids else ((nodeB d a).kids ++ (nodeB d b).kids).take (at_ + 1), (W.map THit.val).take at_⟩ : Nd) = nodeB d a' := by
    subst ha'
    cases d with
    | zero => simp [nodeB, BT.ks]
    | succ d => simp [nodeB, BT.ks, BT.ts, hTT]
  have eb : (⟨(nodeB d b).leaf, (W.map THit.key).drop (at_ + 1), if (nodeB d a).leaf then (nodeB d b).kids else ((nodeB d a).kids ++ (nodeB d b).kids).drop (at_ + 1), (W.map THit.val).drop (at_ + 1)⟩ : Nd) = nodeB d b' := by
    subst hb'
    cases d with
    | zero => simp [nodeB, BT.ks]
    | succ d => simp [nodeB, BT.ks, BT.ts, hTT]
  have hatW : at_ < W.length := by omega
  have en : (⟨(nodeB (d + 1) (.mk h (P ++ u :: Q) (A ++ a :: b :: B))).leaf, (nodeB (d + 1) (.mk h (P ++ u :: Q) (A ++ a :: b :: B))).keys.set P.length ((W.map THit.key).getD at_ default), (nodeB (d + 1) (.mk h (P ++ u :: Q) (A ++ a :: b :: B))).kids, (nodeB (d + 1) (.mk h (P ++ u :: Q) (A ++ a :: b :: B))).vals.set P.length ((W.map THit.val).getD at_ 0)⟩ : Nd)
      = nodeB (d + 1) (.mk h (P ++ W.getD at_ default :: Q) (A ++ a' :: b' :: B)) := by
    have g1 : (W.map THit.key).getD at_ default = (W.getD at_ default).key := by simp [List.getD, List.getElem?_eq_getElem hatW]
    have g2 : (W.map THit.val).getD at_ 0 = (W.getD at_ default).val := by simp [List.getD, List.getElem?_eq_getElem hatW]
    rw [g1, g2]
    subst ha'; subst hb'
    simp [nodeB, BT.ks, BT.ts, BT.h]
  have hF : turnF l h P.length lw = (rput (rput (rput l a.h (nodeB d a')).1 b.h (nodeB d b')).1 h (nodeB (d + 1) (.mk h (P ++ W.getD at_ default :: Q) (A ++ a' :: b' :: B)))).1 := by
    unfold turnF
    simp only [hat]
    rw [k1, k2, ga, gb, gn]
    rw [ek, ev, ea, eb, en]
  rw [hF]
  have e1 : atA l a.h = some (nodeB d a) := H.ha.self
  have e2 : atA (rput l a.h (nodeB d a')).1 b.h = some (nodeB d b) := by rw [put_at e1, if_neg (nodB_ab N).symm]; exact H.hb.self
  have e3 : atA (rput (rput l a.h (nodeB d a')).1 b.h (nodeB d b')).1 h = some (nodeB (d + 1) (.mk h (P ++ u :: Q) (A ++ a :: b :: B))) := by
    rw [put_at e2, if_neg (hs_ne N.hb), put_at e1, if_neg (hs_ne N.ha)]; exact H.at_
  have hs : SameA l (rput (rput (rput l a.h (nodeB d a')).1 b.h (nodeB d b')).1 h (nodeB (d + 1) (.mk h (P ++ W.getD at_ default :: Q) (A ++ a' :: b' :: B)))).1 [h, a.h, b.h] :=
    ((SameA.put e1 (by simp)).trans (SameA.put e2 (by simp))).trans (SameA.put e3 (by simp))
  have t1 : tinyN (nodeB d a') := by subst ha'; exact node_tiny (by rw [List.length_take]; omega) ok1
  have t2 : tinyN (nodeB d b') := by subst hb'; exact node_tiny (by rw [List.length_drop]; omega) ok2
  have t3 : tinyN (nodeB (d + 1) (.mk h (P ++ W.getD at_ default :: Q) (A ++ a' :: b' :: B))) := by
    have := hB.at H.at_
    simp only [tinyN, nodeB_keys, nodeB_vals, nodeB_kids, List.length_map, List.length_append, List.length_cons] at this ⊢
    simpa using this
  have hb1 := (((hB.put e1 t1).put e2 t2).put e3 t3)
  have hu : usedN (rput (rput (rput l a.h (nodeB d a')).1 b.h (nodeB d b')).1 h (nodeB (d + 1) (.mk h (P ++ W.getD at_ default :: Q) (A ++ a' :: b' :: B)))).1 = usedN l := by rw [put_used e3, put_used e2, put_used e1]
  have f1 : atA (rput (rput (rput l a.h (nodeB d a')).1 b.h (nodeB d b')).1 h (nodeB (d + 1) (.mk h (P ++ W.getD at_ default :: Q) (A ++ a' :: b' :: B)))).1 h = some (nodeB (d + 1) (.mk h (P ++ W.getD at_ default :: Q) (A ++ a' :: b' :: B))) := by rw [put_at e3, if_pos rfl]
  have f2 : atA (rput (rput (rput l a.h (nodeB d a')).1 b.h (nodeB d b')).1 h (nodeB (d + 1) (.mk h (P ++ W.getD at_ default :: Q) (A ++ a' :: b' :: B)))).1 a.h = some (nodeB d a') := by
    rw [put_at e3, if_neg (hs_ne N.ha).symm, put_at e2, if_neg (nodB_ab N), put_at e1, if_pos rfl]
  have f3 : atA (rput (rput (rput l a.h (nodeB d a')).1 b.h (nodeB d b')).1 h (nodeB (d + 1) (.mk h (P ++ W.getD at_ default :: Q) (A ++ a' :: b' :: B)))).1 b.h = some (nodeB d b') := by
    rw [put_at e3, if_neg (hs_ne N.hb).symm, put_at e2, if_pos rfl]
  generalize (rput (rput (rput l a.h (nodeB d a')).1 b.h (nodeB d b')).1 h (nodeB (d + 1) (.mk h (P ++ W.getD at_ default :: Q) (A ++ a' :: b' :: B)))).1 = l3 at hs hb1 hu f1 f2 f3
  -- the handles
  have na := N.na; have nb := N.nb; have nab := N.ab
  rw [hsB_eta] at na nb
  obtain ⟨na1, na2⟩ := List.nodup_cons.1 na
  obtain ⟨nb1, nb2⟩ := List.nodup_cons.1 nb
  have hsplit : hsK d (TT.take (at_ + 1)) ++ hsK d (TT.drop (at_ + 1)) = hsK d a.ts ++ hsK d b.ts := by rw [← hsK_app, List.take_append_drop, hTT, hsK_app]
  have hsa : hsB d a' = a.h :: hsK d (TT.take (at_ + 1)) := by subst ha'; exact hsB_mk
  have hsb : hsB d b' = b.h :: hsK d (TT.drop (at_ + 1)) := by subst hb'; exact hsB_mk
  have memT : ∀ q, (q ∈ hsK d (TT.take (at_ + 1)) ∨ q ∈ hsK d (TT.drop (at_ + 1))) ↔ (q ∈ hsK d a.ts ∨ q ∈ hsK d b.ts) := fun q => by rw [← List.mem_append, hsplit, List.mem_append]
  have ndT : (hsK d (TT.take (at_ + 1)) ++ hsK d (TT.drop (at_ + 1))).Nodup := by
    rw [hsplit]
    exact List.nodup_append.2 ⟨na2, nb2, fun q hq q' hq' e => nab q (by rw [hsB_eta]; simp [hq]) (by rw [hsB_eta, e]; simp [hq'])⟩
  obtain ⟨nd1, nd2, nd3⟩ := List.nodup_append.1 ndT
  have ina : ∀ q, q ∈ hsK d a.ts → q ∈ hsB d a := fun q hq => by rw [hsB_eta]; simp [hq]
  have inb : ∀ q, q ∈ hsK d b.ts → q ∈ hsB d b := fun q hq => by rw [hsB_eta]; simp [hq]
  have avoid : ∀ q, (q ∈ hsK d a.ts ∨ q ∈ hsK d b.ts) → q ≠ h ∧ q ≠ a.h ∧ q ≠ b.h := fun q hq => by
    rcases hq with hq | hq
    · exact ⟨fun e => N.ha (e ▸ ina q hq), fun e => na1 (e ▸ hq), fun e => nab q (ina q hq) (e ▸ hsB_self d b)⟩
    · exact ⟨fun e => N.hb (e ▸ inb q hq), fun e => nab q (e ▸ hsB_self d a) (inb q hq), fun e => nb1 (e ▸ hq)⟩
  have kab : kidsH l d TT := kidsH_app.2 ⟨by have := H.ha; rw [← bt_eta a, holds_mk] at this; exact this.2, by have := H.hb; rw [← bt_eta b, holds_mk] at this; exact this.2⟩
  rw [← List.take_append_drop (at_ + 1) TT] at kab
  obtain ⟨kab1, kab2⟩ := kidsH_app.1 kab
  have hold1 : HoldsB l3 d a' := by
    have := kidsH_same hs kab1 fun q hq => by
      have := avoid q ((memT q).1 (.inl hq)); simp [this.1, this.2.1, this.2.2]
    rw [ha'] at f2 ⊢
    exact holds_mk.2 ⟨f2, this⟩
  have hold2 : HoldsB l3 d b' := by
    have := kidsH_same hs kab2 fun q hq => by
      have := avoid q ((memT q).1 (.inr hq)); simp [this.1, this.2.1, this.2.2]
    rw [hb'] at f3 ⊢
    exact holds_mk.2 ⟨f3, this⟩
  have oth : ∀ s, s ∈ A ∨ s ∈ B → ∀ q, q ∈ hsB d s → q ∉ [h, a.h, b.h] := by
    intro s hs q hq hm
    simp only [List.mem_cons, List.not_mem_nil, or_false] at hm
    rcases hs with hs | hs
    · have hqA : q ∈ hsK (d + 1) A := List.mem_flatMap.2 ⟨s, hs, hq⟩
      rcases hm with rfl | rfl | rfl
      · exact N.hA hqA
      · exact N.Aa _ hqA (hsB_self d a)
      · exact N.Ab _ hqA (hsB_self d b)
    · have hqB : q ∈ hsK (d + 1) B := List.mem_flatMap.2 ⟨s, hs, hq⟩
      rcases hm with rfl | rfl | rfl
      · exact N.hB hqB
      · exact N.aB _ (hsB_self d a) hqB
      · exact N.bB _ (hsB_self d b) hqB
  have mem_ab : ∀ q, (q ∈ hsB d a' ∨ q ∈ hsB d b') → (q ∈ hsB d a ∨ q ∈ hsB d b) := fun q hq => by
    rw [hsa, hsb, List.mem_cons, List.mem_cons] at hq
    rcases hq with (rfl | hq) | (rfl | hq)
    · exact .inl (hsB_self d a)
    · exact ((memT q).1 (.inl hq)).imp (ina q) (inb q)
    · exact .inr (hsB_self d b)
    · exact ((memT q).1 (.inr hq)).imp (ina q) (inb q)
  have N' : NodB d h A B a' b' := by
    refine ⟨N.hA, fun q => (mem_ab h (.inl q)).elim N.ha N.hb, fun q => (mem_ab h (.inr q)).elim N.ha N.hb, N.hB, N.nA, ?_, ?_, N.nB, fun q hq hm => (mem_ab q (.inl hm)).elim (N.Aa q hq) (N.Ab q hq), fun q hq hm => (mem_ab q (.inr hm)).elim (N.Aa q hq) (N.Ab q hq), N.AB, ?_,
      fun q hq hm => (mem_ab q (.inl hq)).elim (fun h => N.aB q h hm) fun h => N.bB q h hm, fun q hq hm => (mem_ab q (.inr hq)).elim (fun h => N.aB q h hm) fun h => N.bB q h hm⟩
    · rw [hsa]; exact List.nodup_cons.2 ⟨fun q => (avoid _ ((memT _).1 (.inl q))).2.1 rfl, nd1⟩
    · rw [hsb]; exact List.nodup_cons.2 ⟨fun q => (avoid _ ((memT _).1 (.inr q))).2.2 rfl, nd2⟩
    · intro q hq hq2
      rw [hsa] at hq; rw [hsb] at hq2
      rcases List.mem_cons.1 hq with rfl | hq
      · rcases List.mem_cons.1 hq2 with e | hq2
        · exact nodB_ab N e
        · exact (avoid _ ((memT _).1 (.inr hq2))).2.1 rfl
      · rcases List.mem_cons.1 hq2 with rfl | hq2
        · exact (avoid _ ((memT _).1 (.inl hq))).2.2 rfl
        · exact nd3 q hq q hq2 rfl
  have hlen : (hsB d a').length + (hsB d b').length = (hsB d a).length + (hsB d b).length := by
    have := congrArg List.length hsplit
    simp only [List.length_append] at this
    rw [hsa, hsb, hsB_eta d a, hsB_eta d b]; simp only [List.length_cons]; omega
  refine ⟨hs.mono fun q hq => ?_, hb1, .mk h (P ++ W.getD at_ default :: Q) (A ++ a' :: b' :: B), rfl, ?_, ?_, ?_, ?_, ?_, ?_⟩
  · rw [hsB_pair]
    simp only [List.mem_cons, List.not_mem_nil, or_false, List.mem_append] at hq ⊢
    rcases hq with rfl | rfl | rfl
    · exact .inl rfl
    · exact .inr (.inr (.inl (hsB_self d a)))
    · exact .inr (.inr (.inr (.inl (hsB_self d b))))
  · refine holds_mk.2 ⟨f1, fun s hs' => ?_⟩
    rcases List.mem_append.1 hs' with hs' | hs'
    · exact (H.kids s (by simp [hs'])).same hs (oth s (.inl hs'))
    · rcases List.mem_cons.1 hs' with rfl | hs'
      · exact hold1
      · rcases List.mem_cons.1 hs' with rfl | hs'
        · exact hold2
        · exact (H.kids s (by simp [hs'])).same hs (oth s (.inr hs'))
  · rw [hsB_mk, hsB_pair, hsB_pair]
    intro q hq
    simp only [List.mem_cons, List.mem_append] at hq ⊢
    rcases hq with hq | hq | hq | hq | hq
    · exact .inl hq
    · exact .inr (.inl hq)
    · exact (mem_ab q (.inl hq)).elim (fun h => .inr (.inr (.inl h))) fun h => .inr (.inr (.inr (.inl h)))
    · exact (mem_ab q (.inr hq)).elim (fun h => .inr (.inr (.inl h))) fun h => .inr (.inr (.inr (.inl h)))
    · exact .inr (.inr (.inr (.inr hq)))
  · rw [hsB_mk]; exact nodB_iff.2 N'
  · refine ok_mk.2 ⟨by simpa using h1, by simpa using h4, by simp [H.lenA, H.lenB]; omega, fun s hs' => ?_⟩
    rcases List.mem_append.1 hs' with hs' | hs'
    · exact H.okA s hs'
    · rcases List.mem_cons.1 hs' with rfl | hs'
      · rw [ha']; exact ok_mk.2 ⟨by rw [List.length_take]; omega, by rw [List.length_take]; omega, ok1⟩
      · rcases List.mem_cons.1 hs' with rfl | hs'
        · rw [hb']; exact ok_mk.2 ⟨by rw [List.length_drop]; omega, by rw [List.length_drop]; omega, ok2⟩
        · exact H.okB_ s hs'
  · rw [flatB_two H.lenA H.lenB, flatB_two H.lenA H.lenB, two_flat (h := h) H.oka H.okb, parts_flat (c := a) (b := b) okw (at_ := at_) (by omega), ha', hb']
  · rw [hu, hsB_mk, hsB_pair, hsB_pair]; simp only [List.length_cons, List.length_append]; omega
theorem join_ok (H : PairB l d h P Q u A B a b) (h1 : lo + 1 ≤ (P ++ u :: Q).length) (h4 : (P ++ u :: Q).length ≤ 4) (hB : BigA l K) (h5 : 2 ≤ (a.ks ++ u :: b.ks).length) (h6 : (a.ks ++ u :: b.ks).length ≤ 4) :
    RemB l (joinF l h P.length) lo (d + 1) (h :: hsK (d + 1) (A ++ a :: b :: B)) h (flatB (d + 1) (.mk h (P ++ u :: Q) (A ++ a :: b :: B))) K := by
  obtain ⟨k1, k2⟩ := H.kid
  have ga : (rget l a.h).1 = nodeB d a := by rw [atA_get H.ha.self]
  have gb : (rget l b.h).1 = nodeB d b := by rw [atA_get H.hb.self]
  have gn := H.get
  have N := nodB_iff.1 H.nodup
  have okw := okK_two (u := u) H.oka H.okb
  obtain ⟨a', ha'⟩ : ∃ a', a' = BT.mk a.h (a.ks ++ u :: b.ks) (a.ts ++ b.ts) := ⟨_, rfl⟩
  have ek : (nodeB d a).keys ++ (((nodeB (d + 1) (.mk h (P ++ u :: Q) (A ++ a :: b :: B))).keys.drop P.length).take 1 ++ (nodeB d b).keys) = (a.ks ++ u :: b.ks).map THit.key := by
    have : ((nodeB (d + 1) (.mk h (P ++ u :: Q) (A ++ a :: b :: B))).keys.drop P.length).take 1 = [u.key] := by
      rw [nodeB_keys, List.map_append, List.map_cons]
      have := drop_one (P := P.map THit.key) (Q := Q.map THit.key) (u := u.key)
      rwa [List.length_map] at this
    rw [this]; simp [nodeB]
  have ev : (nodeB d a).vals ++ (((nodeB (d + 1) (.mk h (P ++ u :: Q) (A ++ a :: b :: B))).vals.drop P.length).take 1 ++ (nodeB d b).vals) = (a.ks ++ u :: b.ks).map THit.val := by
    have : ((nodeB (d + 1) (.mk h (P ++ u :: Q) (A ++ a :: b :: B))).vals.drop P.length).take 1 = [u.val] := by
      rw [nodeB_vals, List.map_append, List.map_cons]
      have := drop_one (P := P.map THit.val) (Q := Q.map THit.val) (u := u.val)
      rwa [List.length_map] at this
    rw [this]; simp [nodeB]
  have ea : (⟨(nodeB d a).leaf, (a.ks ++ u :: b.ks).map THit.key, (nodeB d a).kids ++ (nodeB d b).kids, (a.ks ++ u :: b.ks).map THit.val⟩ : Nd) = nodeB d a' := by
    subst ha'
    cases d with
    | zero => simp [nodeB, BT.ks]
    | succ d => simp [nodeB, BT.ks, BT.ts]
  have en : (⟨(nodeB (d + 1) (.mk h (P ++ u :: Q) (A ++ a :: b :: B))).leaf, (nodeB (d + 1) (.mk h (P ++ u :: Q) (A ++ a :: b :: B))).keys.eraseIdx P.length, (nodeB (d + 1) (.mk h (P ++ u :: Q) (A ++ a :: b :: B))).kids.eraseIdx (P.length + 1), (nodeB (d + 1) (.mk h (P ++ u :: Q) (A ++ a :: b :: B))).vals.eraseIdx P.length⟩ : Nd)
      = nodeB (d + 1) (.mk h (P ++ Q) (A ++ a' :: B)) := by
    have q1 : ((P ++ u :: Q).map THit.key).eraseIdx P.length = (P ++ Q).map THit.key := by
      rw [List.map_append, List.map_cons, List.eraseIdx_append_of_length_le (by simp)]; simp
    have q2 : ((P ++ u :: Q).map THit.val).eraseIdx P.length = (P ++ Q).map THit.val := by
      rw [List.map_append, List.map_cons, List.eraseIdx_append_of_length_le (by simp)]; simp
    have q3 : ((A ++ a :: b :: B).map BT.h).eraseIdx (P.length + 1) = (A ++ a' :: B).map BT.h := by
      rw [List.map_append, List.eraseIdx_append_of_length_le (by simp [H.lenA])]
      subst ha'; simp [H.lenA, BT.h]
    rw [nodeB_keys, nodeB_vals, nodeB_kids, if_neg (by simp), q1, q2, q3]; rfl
  have hF : joinF l h P.length = (rput (rfree (rput l a.h (nodeB d a')).1 [b.h]).1 h (nodeB (d + 1) (.mk h (P ++ Q) (A ++ a' :: B)))).1 := by
    unfold joinF
    simp only
    rw [k1, k2, ga, gb, gn]
    rw [ek, ev, ea, en]
  rw [hF]
  have e1 : atA l a.h = some (nodeB d a) := H.ha.self
  have e2 : atA (rput l a.h (nodeB d a')).1 b.h = some (nodeB d b) := by rw [put_at e1, if_neg (nodB_ab N).symm]; exact H.hb.self
  have e3 : atA (rfree (rput l a.h (nodeB d a')).1 [b.h]).1 h = some (nodeB (d + 1) (.mk h (P ++ u :: Q) (A ++ a :: b :: B))) := by
    rw [free_at e2, if_neg (hs_ne N.hb), put_at e1, if_neg (hs_ne N.ha)]; exact H.at_
  have hs : SameA l (rput (rfree (rput l a.h (nodeB d a')).1 [b.h]).1 h (nodeB (d + 1) (.mk h (P ++ Q) (A ++ a' :: B)))).1 [h, a.h, b.h] :=
    ((SameA.put e1 (by simp)).trans (SameA.free e2 (by simp))).trans (SameA.put e3 (by simp))
  have t1 : tinyN (nodeB d a') := by subst ha'; exact node_tiny (by omega) okw
  have t3 : tinyN (nodeB (d + 1) (.mk h (P ++ Q) (A ++ a' :: B))) := by
    have := hB.at H.at_
    simp only [tinyN, nodeB_keys, nodeB_vals, nodeB_kids, List.length_map, List.length_append, List.length_cons] at this ⊢
    obtain ⟨w1, w2, w3⟩ := this
    simp at w2 ⊢
    omega
  have hb1 := (((hB.put e1 t1).free e2).put e3 t3)
  have hu : usedN (rput (rfree (rput l a.h (nodeB d a')).1 [b.h]).1 h (nodeB (d + 1) (.mk h (P ++ Q) (A ++ a' :: B)))).1 + 1 = usedN l := by rw [put_used e3, free_used e2, put_used e1]
  have f1 : atA (rput (rfree (rput l a.h (nodeB d a')).1 [b.h]).1 h (nodeB (d + 1) (.mk h (P ++ Q) (A ++ a' :: B)))).1 h = some (nodeB (d + 1) (.mk h (P ++ Q) (A ++ a' :: B))) := by rw [put_at e3, if_pos rfl]
  have f2 : atA (rput (rfree (rput l a.h (nodeB d a')).1 [b.h]).1 h (nodeB (d + 1) (.mk h (P ++ Q) (A ++ a' :: B)))).1 a.h = some (nodeB d a') := by
    rw [put_at e3, if_neg (hs_ne N.ha).symm, free_at e2, if_neg (nodB_ab N), put_at e1, if_pos rfl]
  generalize (rput (rfree (rput l a.h (nodeB d a')).1 [b.h]).1 h (nodeB (d + 1) (.mk h (P ++ Q) (A ++ a' :: B)))).1 = l3 at hs hb1 hu f1 f2
  have na := N.na; have nb := N.nb; have nab := N.ab
  rw [hsB_eta] at na nb
  obtain ⟨na1, na2⟩ := List.nodup_cons.1 na
  obtain ⟨nb1, nb2⟩ := List.nodup_cons.1 nb
  have hsa : hsB d a' = a.h :: (hsK d a.ts ++ hsK d b.ts) := by subst ha'; rw [hsB_mk, hsK_app]
  have ina : ∀ q, q ∈ hsK d a.ts → q ∈ hsB d a := fun q hq => by rw [hsB_eta]; simp [hq]
  have inb : ∀ q, q ∈ hsK d b.ts → q ∈ hsB d b := fun q hq => by rw [hsB_eta]; simp [hq]
  have avoid : ∀ q, (q ∈ hsK d a.ts ∨ q ∈ hsK d b.ts) → q ≠ h ∧ q ≠ a.h ∧ q ≠ b.h := fun q hq => by
    rcases hq with hq | hq
    · exact ⟨fun e => N.ha (e ▸ ina q hq), fun e => na1 (e ▸ hq), fun e => nab q (ina q hq) (e ▸ hsB_self d b)⟩
    · exact ⟨fun e => N.hb (e ▸ inb q hq), fun e => nab q (e ▸ hsB_self d a) (inb q hq), fun e => nb1 (e ▸ hq)⟩
  have kab : kidsH l d (a.ts ++ b.ts) := kidsH_app.2 ⟨by have := H.ha; rw [← bt_eta a, holds_mk] at this; exact this.2, by have := H.hb; rw [← bt_eta b, holds_mk] at this; exact this.2⟩
  have hold1 : HoldsB l3 d a' := by
    have := kidsH_same hs kab fun q hq => by
      rw [hsK_app] at hq
      have := avoid q (List.mem_append.1 hq); simp [this.1, this.2.1, this.2.2]
    rw [ha'] at f2 ⊢
    exact holds_mk.2 ⟨f2, this⟩
  have oth : ∀ s, s ∈ A ∨ s ∈ B → ∀ q, q ∈ hsB d s → q ∉ [h, a.h, b.h] := by
    intro s hs q hq hm
    simp only [List.mem_cons, List.not_mem_nil, or_false] at hm
    rcases hs with hs | hs
    · have hqA : q ∈ hsK (d + 1) A := List.mem_flatMap.2 ⟨s, hs, hq⟩
      rcases hm with rfl | rfl | rfl
      · exact N.hA hqA
      · exact N.Aa _ hqA (hsB_self d a)
      · exact N.Ab _ hqA (hsB_self d b)
    · have hqB : q ∈ hsK (d + 1) B := List.mem_flatMap.2 ⟨s, hs, hq⟩
      rcases hm with rfl | rfl | rfl
      · exact N.hB hqB
      · exact N.aB _ (hsB_self d a) hqB
      · exact N.bB _ (hsB_self d b) hqB
  have mem_ab : ∀ q, q ∈ hsB d a' → (q ∈ hsB d a ∨ q ∈ hsB d b) := fun q hq => by
    rw [hsa, List.mem_cons, List.mem_append] at hq
    rcases hq with rfl | hq | hq
    · exact .inl (hsB_self d a)
    · exact .inl (ina q hq)
    · exact .inr (inb q hq)
  have na' : (hsB d a').Nodup := by
    rw [hsa]
    refine List.nodup_cons.2 ⟨fun q => ?_, List.nodup_append.2 ⟨na2, nb2, fun q hq q' hq' e => nab q (ina q hq) (e ▸ inb q' hq')⟩⟩
    exact (avoid _ (List.mem_append.1 q)).2.1 rfl
  have hsp : hsK (d + 1) (A ++ a' :: B) = hsK (d + 1) A ++ (hsB d a' ++ hsK (d + 1) B) := hsK_mid
  refine ⟨hs.mono fun q hq => ?_, hb1, .mk h (P ++ Q) (A ++ a' :: B), rfl, ?_, ?_, ?_, ?_, ?_, ?_⟩
  · rw [hsB_pair]
    simp only [List.mem_cons, List.not_mem_nil, or_false, List.mem_append] at hq ⊢
    rcases hq with rfl | rfl | rfl
    · exact .inl rfl
    · exact .inr (.inr (.inl (hsB_self d a)))
    · exact .inr (.inr (.inr (.inl (hsB_self d b))))
  · refine holds_mk.2 ⟨f1, fun s hs' => ?_⟩
    rcases List.mem_append.1 hs' with hs' | hs'
    · exact (H.kids s (by simp [hs'])).same hs (oth s (.inl hs'))
    · rcases List.mem_cons.1 hs' with rfl | hs'
      · exact hold1
      · exact (H.kids s (by simp [hs'])).same hs (oth s (.inr hs'))
  · rw [hsB_mk, hsB_pair, hsp]
    intro q hq
    simp only [List.mem_cons, List.mem_append] at hq ⊢
    rcases hq with hq | hq | hq | hq
    · exact .inl hq
    · exact .inr (.inl hq)
    · exact (mem_ab q hq).elim (fun h => .inr (.inr (.inl h))) fun h => .inr (.inr (.inr (.inl h)))
    · exact .inr (.inr (.inr (.inr hq)))
  · rw [hsB_mk, hsp]
    refine List.nodup_cons.2 ⟨?_, List.nodup_append.2 ⟨N.nA, List.nodup_append.2 ⟨na', N.nB, fun q hq q' hq' e => ?_⟩, fun q hq q' hq' e => ?_⟩⟩
    · simp only [List.mem_append, not_or]
      exact ⟨N.hA, fun q => (mem_ab h q).elim N.ha N.hb, N.hB⟩
    · subst e; exact (mem_ab q hq).elim (fun h => N.aB q h hq') fun h => N.bB q h hq'
    · subst e
      rcases List.mem_append.1 hq' with hq' | hq'
      · exact (mem_ab q hq').elim (N.Aa q hq) (N.Ab q hq)
      · exact N.AB q hq hq'
  · refine ok_mk.2 ⟨by simp at h1 ⊢; omega, by simp at h4 ⊢; omega, by simp [H.lenA, H.lenB]; omega, fun s hs' => ?_⟩
    rcases List.mem_append.1 hs' with hs' | hs'
    · exact H.okA s hs'
    · rcases List.mem_cons.1 hs' with rfl | hs'
      · rw [ha']; exact ok_mk.2 ⟨h5, h6, okw⟩
      · exact H.okB_ s hs'
  · rw [flatB_two H.lenA H.lenB, flatB_mid H.lenA H.lenB, two_flat (h := a.h) H.oka H.okb, ha']
  · have l1 : (hsB d a').length + 1 = (hsB d a).length + (hsB d b).length := by rw [hsa, hsB_eta d a, hsB_eta d b]; simp only [List.length_cons, List.length_append]; omega
    rw [hsB_mk, hsB_pair, hsp]; simp only [List.length_cons, List.length_append]; omega
end
end Tp
namespace Tp
open Go
def lastF : Nat → List RPlace → Handle → THit
  | d, l, h =>
    let n := (rget l h).1
    if n.leaf then ⟨n.keys.getD (n.keys.length - 1) default, n.vals.getD (n.vals.length - 1) 0⟩
    else match d with
      | 0 => default
      | d + 1 => lastF d l (n.kids.getD (n.kids.length - 1) hdZero)
def remF : Nat → List RPlace → Handle → ByteArray → List RPlace
  | d, l, h, k =>
    let n := (rget l h).1
    let i := bsI n.keys k
    if bsF n.keys k then
      if n.leaf then (rput l h ⟨n.leaf, n.keys.eraseIdx i, n.kids, n.vals.eraseIdx i⟩).1
      else match d with
        | 0 => l
        | d + 1 =>
          let x := lastF d l (n.kids.getD i hdZero)
          let l1 := (rput l h ⟨n.leaf, n.keys.set i x.key, n.kids, n.vals.set i x.val⟩).1
          mendF (remF d l1 (n.kids.getD i hdZero) x.key) h i
    else match d with
      | 0 => l
      | d + 1 => mendF (remF d l (n.kids.getD i hdZero) k) h i
section
variable {l l' l1 l2 l3 : List RPlace} {d lo : Nat} {h : Handle} {ks P Q : List THit} {ts A B : List BT} {a b c t a' b' : BT} {u x z : THit} {K : Nat} {S : List Handle} {n m : Nd}
theorem okB_up (h1 : okB 1 d c) (h2 : 2 ≤ c.ks.length) : okB 2 d c := by
  cases d with
  | zero => exact ⟨h2, h1.2⟩
  | succ d => exact ⟨h2, h1.2⟩
theorem okB_len (h1 : okB lo d c) : lo ≤ c.ks.length ∧ c.ks.length ≤ 4 := by
  cases d with
  | zero => exact h1
  | succ d => exact ⟨h1.1, h1.2.1⟩
theorem kid_at (e : atA l h = some (nodeB (d + 1) (.mk h ks (A ++ c :: B)))) {i : Nat} (hi : A.length = i) : (rget l h).1.kids.getD i hdZero = c.h := by
  rw [atA_get e]; simp only
  rw [nodeB_kids, if_neg (by simp), List.map_append, List.map_cons]
  exact getD_mid (by rw [List.length_map, hi])
theorem mend_ok (e : atA l h = some (nodeB (d + 1) (.mk h ks (A ++ c :: B)))) (hk : kidsH l (d + 1) (A ++ c :: B)) (hn : (h :: hsK (d + 1) (A ++ c :: B)).Nodup) (hl : (A ++ c :: B).length = ks.length + 1)
    (h1 : lo ≤ ks.length) (h1' : 1 ≤ ks.length) (h4 : ks.length ≤ 4) (hA : ∀ s, s ∈ A → okB 2 d s) (hc : okB 1 d c) (hB : ∀ s, s ∈ B → okB 2 d s) (hb : BigA l K) (hlo : 1 ≤ lo) :
    RemB l (mendF l h A.length) (lo - 1) (d + 1) (h :: hsK (d + 1) (A ++ c :: B)) h (flatB (d + 1) (.mk h ks (A ++ c :: B))) K := by
  have kc := kid_at e rfl
  have gc : (rget l c.h).1 = nodeB d c := by rw [atA_get (hk c (by simp)).self]
  have gn : (rget l h).1 = nodeB (d + 1) (.mk h ks (A ++ c :: B)) := by rw [atA_get e]
  have kl : (rget l h).1.kids.length = A.length + B.length + 1 := by rw [gn, nodeB_kids, if_neg (by simp), List.length_map, List.length_append, List.length_cons]; omega
  have hlen : A.length + B.length = ks.length := by simp at hl; omega
  have hck : (nodeB d c).keys.length = c.ks.length := by simp [nodeB]
  unfold mendF
  simp only [kc, gc, hck]
  by_cases h2 : 2 ≤ c.ks.length
  · rw [if_pos h2]
    refine ⟨SameA.refl, hb, .mk h ks (A ++ c :: B), rfl, holds_mk.2 ⟨e, hk⟩, by rw [hsB_mk]; exact fun _ h => h, by rw [hsB_mk]; exact hn, ok_mk.2 ⟨by omega, h4, hl, fun s hs => ?_⟩, rfl, by rw [hsB_mk]⟩
    rcases List.mem_append.1 hs with hs | hs
    · exact hA s hs
    · rcases List.mem_cons.1 hs with rfl | hs
      · exact okB_up hc h2
      · exact hB s hs
  · rw [if_neg h2]
    have c1 : c.ks.length = 1 := by have := (okB_len hc).1; omega
    -- the left neighbour
    have left : ∀ A' a, A = A' ++ [a] → ∃ P u Q, ks = P ++ u :: Q ∧ P.length = A.length - 1 ∧ PairB l d h P Q u A' B a c ∧ A' ++ a :: c :: B = A ++ c :: B ∧ richF l (rget l h).1 ((A.length : Int) - 1) = decide (2 < a.ks.length) ∧ 2 ≤ a.ks.length ∧ a.ks.length ≤ 4 := by
      rintro A' a rfl
      obtain ⟨P, u, Q, rfl, hP⟩ := split_at (l := ks) (i := A'.length) (by simp at hlen; omega)
      have hQ : B.length = Q.length := by simp at hlen; omega
      have ee : (A' ++ [a]) ++ c :: B = A' ++ a :: c :: B := by simp
      have oa := hA a (by simp)
      have ga : (rget l a.h).1 = nodeB d a := by rw [atA_get (hk a (by simp)).self]
      rw [ee] at e hk hn
      refine ⟨P, u, Q, rfl, by simp [hP], ⟨e, hk, hn, hP.symm, hQ, fun s hs => hA s (by simp [hs]), hB, okB_low oa (by omega), hc⟩, by simp, ?_, okB_len oa⟩
      have ka := kid_at e rfl
      unfold richF
      rw [kl]
      have ej : (((A' ++ [a]).length : Int) - 1) = (A'.length : Int) := by simp
      have hak : (nodeB d a).keys.length = a.ks.length := by simp [nodeB]
      rw [ej, Int.toNat_natCast, ka, ga, hak]
      have : (decide (0 ≤ (A'.length : Int)) && decide ((A'.length : Int) < (((A' ++ [a]).length + B.length + 1 : Nat) : Int))) = true := by simp; omega
      rw [this, Bool.true_and]
    have right : ∀ b B', B = b :: B' → ∃ P u Q, ks = P ++ u :: Q ∧ P.length = A.length ∧ PairB l d h P Q u A B' c b ∧ richF l (rget l h).1 ((A.length : Int) + 1) = decide (2 < b.ks.length) ∧ 2 ≤ b.ks.length ∧ b.ks.length ≤ 4 := by
      rintro b B' rfl
      obtain ⟨P, u, Q, rfl, hP⟩ := split_at (l := ks) (i := A.length) (by simp at hlen; omega)
      have hQ : B'.length = Q.length := by simp at hlen; omega
      have ob := hB b (by simp)
      have gb : (rget l b.h).1 = nodeB d b := by rw [atA_get (hk b (by simp)).self]
      refine ⟨P, u, Q, rfl, hP, ⟨e, hk, hn, hP.symm, hQ, hA, fun s hs => hB s (by simp [hs]), hc, okB_low ob (by omega)⟩, ?_, okB_len ob⟩
      have kb : (rget l h).1.kids.getD (A.length + 1) hdZero = b.h := by
        exact kid_at (A := A ++ [c]) (c := b) (B := B') (by rw [List.append_assoc]; exact e) (by simp)
      unfold richF
      rw [kl]
      have ej : ((A.length : Int) + 1).toNat = A.length + 1 := by omega
      have hbk : (nodeB d b).keys.length = b.ks.length := by simp [nodeB]
      rw [ej, kb, gb, hbk]
      have : (decide (0 ≤ (A.length : Int) + 1) && decide ((A.length : Int) + 1 < ((A.length + (b :: B').length + 1 : Nat) : Int))) = true := by simp; omega
      rw [this, Bool.true_and]
    by_cases hr1 : richF l (rget l h).1 ((A.length : Int) - 1) = true
    · rw [if_pos hr1]
      rcases List.eq_nil_or_concat A with rfl | ⟨A', a, hAe⟩
      · simp [richF] at hr1
      · rw [List.concat_eq_append] at hAe
        obtain ⟨P, u, Q, rfl, hP, H, ee, hr, a2, a4⟩ := left A' a hAe
        rw [hr, decide_eq_true_eq] at hr1
        have ga : (rget l a.h).1 = nodeB d a := by rw [atA_get H.ha.self]
        have hT : turnA l h P.length false = a.ks.length - 1 := by
          unfold turnA; rw [H.kid.1, ga]; simp [nodeB]
        have := turn_ok (lo := lo) (lw := false) H h1 h4 hb (by rw [hT]; omega) (by rw [hT]; omega) (by rw [hT]; simp [c1]; omega) (by rw [hT]; simp [c1]; omega)
        rw [ee, hP] at this
        exact this.low (by omega)
    · rw [if_neg hr1]
      by_cases hr2 : richF l (rget l h).1 ((A.length : Int) + 1) = true
      · rw [if_pos hr2]
        cases B with
        | nil =>
          exfalso
          have : richF l (rget l h).1 ((A.length : Int) + 1) = false := by
            unfold richF; rw [kl]; simp
          rw [this] at hr2; cases hr2
        | cons b B' =>
          obtain ⟨P, u, Q, rfl, hP, H, hr, b2, b4⟩ := right b B' rfl
          rw [hr, decide_eq_true_eq] at hr2
          have hT : turnA l h P.length true = 2 := by
            unfold turnA; rw [H.kid.1, gc]; simp [nodeB, c1]
          have := turn_ok (lo := lo) (lw := true) H h1 h4 hb (by rw [hT]; omega) (by rw [hT]; omega) (by rw [hT]; simp [c1]; omega) (by rw [hT]; simp [c1]; omega)
          rw [hP] at this
          exact this.low (by omega)
      · rw [if_neg hr2]
        rcases List.eq_nil_or_concat A with rfl | ⟨A', a, hAe⟩
        · simp only [List.length_nil, Nat.lt_irrefl, if_false]
          cases B with
          | nil => simp at hlen; omega
          | cons b B' =>
            obtain ⟨P, u, Q, rfl, hP, H, hr, b2, b4⟩ := right b B' rfl
            rw [hr, decide_eq_true_eq] at hr2
            have := join_ok (lo := lo - 1) H (by omega) h4 hb (by simp [c1]; omega) (by simp [c1]; omega)
            rw [hP] at this
            exact this
        · rw [List.concat_eq_append] at hAe
          obtain ⟨P, u, Q, rfl, hP, H, ee, hr, a2, a4⟩ := left A' a hAe
          rw [hr, decide_eq_true_eq] at hr1
          rw [if_pos (by rw [hAe]; simp)]
          have := join_ok (lo := lo - 1) H (by omega) h4 hb (by simp [c1]) (by simp [c1]; omega)
          rw [ee, hP] at this
          exact this
theorem last_ok : ∀ {d : Nat} {t : BT}, HoldsB l d t → okB 1 d t → ∃ F, flatB d t = F ++ [lastF d l t.h] := by
  intro d
  induction d with
  | zero =>
    intro t H ho
    obtain ⟨h, ks, ts⟩ := t
    have hg : (rget l h).1 = nodeB 0 (.mk h ks ts) := by rw [atA_get (holds_mk.1 H).1]
    have hl := (ok_mk.1 ho).1
    obtain ⟨F, z, rfl⟩ : ∃ F z, ks = F ++ [z] := ⟨ks.dropLast, ks.getLast (by rintro rfl; simp at hl), (List.dropLast_concat_getLast _).symm⟩
    refine ⟨F, ?_⟩
    unfold lastF
    simp [BT.h, hg, nodeB, BT.ks, flatB]
  | succ d ih =>
    intro t H ho
    obtain ⟨h, ks, ts⟩ := t
    have hg : (rget l h).1 = nodeB (d + 1) (.mk h ks ts) := by rw [atA_get (holds_mk.1 H).1]
    obtain ⟨o1, o2, o3, o4⟩ := ok_mk.1 ho
    obtain ⟨A, c, rfl⟩ : ∃ A c, ts = A ++ [c] := ⟨ts.dropLast, ts.getLast (by rintro rfl; simp at o3), (List.dropLast_concat_getLast _).symm⟩
    have hA : A.length = ks.length := by simpa using o3
    obtain ⟨F, hF⟩ := ih ((holds_mk.1 H).2 c (by simp)) (okB_low (o4 c (by simp)) (by omega))
    have hfl := flatB_mid (d := d) (h := h) (K1 := ks) (K2 := []) (A := A) (B := []) (c := c) hA rfl
    rw [List.append_nil] at hfl
    refine ⟨preW (A.map (flatB d)) ks ++ F, ?_⟩
    have hl : lastF (d + 1) l (BT.mk h ks (A ++ [c])).h = lastF d l c.h := by
      conv => lhs; unfold lastF
      simp [BT.h, hg, nodeB, BT.ks, BT.ts]
    rw [hl, hfl, hF]; simp [sufW]
theorem sub_rem {row : List THit} (e : atA l h = some (nodeB (d + 1) (.mk h (P ++ Q) (A ++ c :: B)))) (hk : kidsH l (d + 1) (A ++ c :: B)) (hn : (h :: hsK (d + 1) (A ++ c :: B)).Nodup) (hA : A.length = P.length) (hB : B.length = Q.length)
    (h1 : lo ≤ (P ++ Q).length) (hlo : 1 ≤ lo) (h4 : (P ++ Q).length ≤ 4) (oA : ∀ s, s ∈ A → okB 2 d s) (oB : ∀ s, s ∈ B → okB 2 d s) (R : RemB l l2 1 d (hsB d c) c.h row K) :
    RemB l (mendF l2 h P.length) (lo - 1) (d + 1) (h :: hsK (d + 1) (A ++ c :: B)) h (preW (A.map (flatB d)) P ++ row ++ sufW Q (B.map (flatB d))) K := by
  obtain ⟨c', hc1, hc2, hc3, hc4, hc5, hc6, hc7⟩ := R.parts
  have hn' := hn
  rw [hsK_mid] at hn'
  obtain ⟨n1, n2⟩ := List.nodup_cons.1 hn'
  rw [List.mem_append, List.mem_append, not_or, not_or] at n1
  obtain ⟨nA, n3, nAX⟩ := List.nodup_append.1 n2
  obtain ⟨nc, nB, ncB⟩ := List.nodup_append.1 n3
  have e2 : atA l2 h = some (nodeB (d + 1) (.mk h (P ++ Q) (A ++ c' :: B))) := by
    rw [R.same _ _ n1.2.1 e]; simp [nodeB, BT.ks, BT.ts, hc1]
  have k2 : kidsH l2 (d + 1) (A ++ c' :: B) := fun s hs => by
    rcases List.mem_append.1 hs with hs | hs
    · exact (hk s (by simp [hs])).same R.same fun q hq hm => nAX q (List.mem_flatMap.2 ⟨s, hs, hq⟩) q (List.mem_append_left _ hm) rfl
    · rcases List.mem_cons.1 hs with rfl | hs
      · exact hc2
      · exact (hk s (by simp [hs])).same R.same fun q hq hm => ncB q hm q (List.mem_flatMap.2 ⟨s, hs, hq⟩) rfl
  have nn : (h :: hsK (d + 1) (A ++ c' :: B)).Nodup := by
    rw [hsK_mid]
    refine List.nodup_cons.2 ⟨?_, List.nodup_append.2 ⟨nA, List.nodup_append.2 ⟨hc4, nB, fun q hq q' hq' e => ncB q (hc3 q hq) q' hq' e⟩, fun q hq q' hq' e => ?_⟩⟩
    · simp only [List.mem_append, not_or]; exact ⟨n1.1, fun q => n1.2.1 (hc3 h q), n1.2.2⟩
    · rcases List.mem_append.1 hq' with hq' | hq'
      · exact nAX q hq q' (List.mem_append_left _ (hc3 _ hq')) e
      · exact nAX q hq q' (List.mem_append_right _ hq') e
  have M := mend_ok (lo := lo) e2 k2 nn (by simp [hA, hB]; omega) h1 (by omega) h4 oA hc5 oB R.big hlo
  rw [hA] at M
  have hlen : (h :: hsK (d + 1) (A ++ c' :: B)).length + (hsB d c).length = (h :: hsK (d + 1) (A ++ c :: B)).length + (hsB d c').length := by
    rw [hsK_mid, hsK_mid]; simp only [List.length_cons, List.length_append]; omega
  have sub : ∀ q, q ∈ h :: hsK (d + 1) (A ++ c' :: B) → q ∈ h :: hsK (d + 1) (A ++ c :: B) := fun q hq => by
    rw [hsK_mid] at hq ⊢
    simp only [List.mem_cons, List.mem_append] at hq ⊢
    rcases hq with hq | hq | hq | hq
    · exact .inl hq
    · exact .inr (.inl hq)
    · exact .inr (.inr (.inl (hc3 q hq)))
    · exact .inr (.inr (.inr hq))
  obtain ⟨t', m1, m2, m3, m4, m5, m6, m7⟩ := M.parts
  refine ⟨(R.same.mono fun q hq => ?_).trans (M.same.mono sub), M.big, t', m1, m2, fun q hq => sub q (m3 q hq), m4, m5, ?_, by omega⟩
  · rw [hsK_mid]; simp [hq]
  · rw [← m6, flatB_mid hA hB, hc6]
theorem mem_of_bs {k : ByteArray} (lP : lowT P k) (hQ : highT Q k) (hm : ∃ a, a ∈ P ++ ks ++ Q ∧ a.key = k) : ∃ a, a ∈ ks ∧ a.key = k := by
  obtain ⟨a, ha, e⟩ := hm
  simp only [List.mem_append] at ha
  rcases ha with (ha | ha) | ha
  · exact absurd e (low_ne lP a ha)
  · exact ⟨a, ha, e⟩
  · exact absurd e (high_ne hQ a ha)
theorem rem_ok : ∀ (d : Nat) {l : List RPlace} {t : BT} {k : ByteArray} {K lo : Nat}, HoldsB l d t → (hsB d t).Nodup → okB lo d t → 1 ≤ lo → upT (flatB d t) → BigA l K → (∃ a, a ∈ flatB d t ∧ a.key = k) →
    RemB l (remF d l t.h k) (lo - 1) d (hsB d t) t.h (delL (flatB d t) k) K := by
  intro d
  induction d with
  | zero =>
    intro l t k K lo H hn ho hlo hu hB hm
    obtain ⟨h, ks, ts⟩ := t
    have hg : (rget l h).1 = nodeB 0 (.mk h ks ts) := by rw [atA_get (holds_mk.1 H).1]
    obtain ⟨o1, o2, o3⟩ := ok_mk.1 ho
    have hu' : upT ks := hu
    have hf : bsF (ks.map THit.key) k = true := by
      cases hf : bsF (ks.map THit.key) k with
      | true => rfl
      | false =>
        obtain ⟨P, Q, rfl, hP, lP, hQ⟩ := bs_miss hu' hf
        obtain ⟨a, ha, _⟩ := mem_of_bs (ks := []) lP hQ (by simpa using (show ∃ a, a ∈ P ++ Q ∧ a.key = k from hm))
        cases ha
    obtain ⟨P, z, Q, rfl, hP, hz, lP, hQ⟩ := bs_hit hu' hf
    unfold remF
    simp only [BT.h, hg, nodeB_keys, nodeB_vals, nodeB_leaf, hf, if_true, beq_self_eq_true]
    have e := (holds_mk.1 H).1
    have en : (⟨true, ((P ++ z :: Q).map THit.key).eraseIdx (bsI ((P ++ z :: Q).map THit.key) k), (nodeB 0 (.mk h (P ++ z :: Q) ts)).kids, ((P ++ z :: Q).map THit.val).eraseIdx (bsI ((P ++ z :: Q).map THit.key) k)⟩ : Nd) = nodeB 0 (.mk h (P ++ Q) ts) := by
      rw [← hP, List.map_append, List.map_append, List.eraseIdx_append_of_length_le (by simp), List.eraseIdx_append_of_length_le (by simp)]
      simp [nodeB, BT.ks]
    rw [en]
    refine ⟨(SameA.put (S := [h]) e (by simp)).mono (by simp [hsB, BT.h]), hB.put e (node_tiny (d := 0) (ks := P ++ Q) (ts := ts) (by simp at o2 ⊢; omega) trivial), .mk h (P ++ Q) ts, rfl, holds_mk.2 ⟨by rw [put_at e, if_pos rfl], trivial⟩, by simp [hsB, BT.h], by simp [hsB], ?_, ?_, ?_⟩
    · exact ok_mk.2 ⟨by simp at o1 ⊢; omega, by simp at o2 ⊢; omega, trivial⟩
    · exact delL_hit lP hQ hz
    · rw [put_used e]; simp [hsB]
  | succ d ih =>
    intro l t k K lo H hn ho hlo hu hB hm
    obtain ⟨h, ks, ts⟩ := t
    have hg : (rget l h).1 = nodeB (d + 1) (.mk h ks ts) := by rw [atA_get (holds_mk.1 H).1]
    obtain ⟨o1, o2, o3⟩ := ok_mk.1 ho
    have hu' : upT ks := ks_up ho hu
    have e := (holds_mk.1 H).1
    have hk := (holds_mk.1 H).2
    rw [hsB_mk] at hn ⊢
    unfold remF
    simp only [BT.h, hg, nodeB_keys, nodeB_vals, nodeB_leaf]
    have hd0 : ((d + 1 == 0) = true) ↔ False := by simp
    cases hf : bsF (ks.map THit.key) k with
    | true =>
      obtain ⟨P, z, Q, rfl, hP, hz, lP, hQ⟩ := bs_hit hu' hf
      simp only [if_true, hd0, if_false]
      obtain ⟨A, c, B, rfl, hA, hBl, hfl⟩ := flat_at (h := h) (P := P) (Q := z :: Q) o3
      have hAk := kid_at e (i := P.length) hA
      rw [hg] at hAk
      rw [← hP, hAk]
      rw [hfl] at hu hm ⊢
      have oc := o3.2 c (by simp)
      obtain ⟨F, hF⟩ := last_ok (hk c (by simp)) (okB_low oc (by omega))
      generalize lastF d l c.h = x at *
      have nhc : h ∉ hsB d c := by rw [hsK_mid] at hn; have := (List.nodup_cons.1 hn).1; simp only [List.mem_append, not_or] at this; exact this.2.1
      have en : (⟨d + 1 == 0, ((P ++ z :: Q).map THit.key).set P.length x.key, (nodeB (d + 1) (.mk h (P ++ z :: Q) (A ++ c :: B))).kids, ((P ++ z :: Q).map THit.val).set P.length x.val⟩ : Nd) = nodeB (d + 1) (.mk h (P ++ x :: Q) (A ++ c :: B)) := by
        rw [List.map_append, List.map_append, List.map_cons, List.map_cons, set_mid (by simp), set_mid (by simp)]
        simp [nodeB, BT.ks, BT.ts]
      rw [en]
      have s1 : SameA l (rput l h (nodeB (d + 1) (.mk h (P ++ x :: Q) (A ++ c :: B)))).1 [h] := SameA.put e (by simp)
      have e1 : atA (rput l h (nodeB (d + 1) (.mk h (P ++ x :: Q) (A ++ c :: B)))).1 h = some (nodeB (d + 1) (.mk h (P ++ x :: Q) (A ++ c :: B))) := by rw [put_at e, if_pos rfl]
      have u1 : usedN (rput l h (nodeB (d + 1) (.mk h (P ++ x :: Q) (A ++ c :: B)))).1 = usedN l := put_used e
      have b1 : BigA (rput l h (nodeB (d + 1) (.mk h (P ++ x :: Q) (A ++ c :: B)))).1 K := hB.put e (node_tiny (by simp at o2 ⊢; omega) ⟨by have := o3.1; simp at this ⊢; omega, o3.2⟩)
      generalize (rput l h (nodeB (d + 1) (.mk h (P ++ x :: Q) (A ++ c :: B)))).1 = l1 at s1 e1 u1 b1
      have k1 : kidsH l1 (d + 1) (A ++ c :: B) := kidsH_same s1 hk fun q hq hm => by rw [List.mem_singleton.1 hm] at hq; exact (List.nodup_cons.1 hn).1 hq
      have hnc : (hsB d c).Nodup := by
        rw [hsK_mid] at hn
        exact (List.nodup_append.1 (List.nodup_append.1 (List.nodup_cons.1 hn).2).2.1).1
      have hcu : upT (flatB d c) := mid_up hu
      have R := ih (k := x.key) (lo := 2) (k1 c (by simp)) hnc oc (by omega) hcu b1 ⟨x, by rw [hF]; simp, rfl⟩
      have hFx : delL (flatB d c) x.key = F := by
        rw [hF] at hcu ⊢
        have := delL_hit (P := F) (Q := []) (z := x) (k := x.key) (upT_parts hcu).1 highT_nil rfl
        simpa using this
      rw [hFx] at R
      have M := sub_rem (P := P) (Q := x :: Q) e1 k1 hn hA (by simpa using hBl) (lo := lo) (by simp at o1 ⊢; omega) hlo (by simp at o2 ⊢; omega) (fun s hs => o3.2 s (by simp [hs])) (fun s hs => o3.2 s (by simp [hs])) R
      obtain ⟨t', m1, m2, m3, m4, m5, m6, m7⟩ := M.parts
      refine ⟨(s1.mono fun q hq => by simp at hq; simp [hq]).trans M.same, M.big, t', m1, m2, m3, m4, m5, ?_, by omega⟩
      rw [← m6]
      -- the rows
      obtain ⟨b, B', rfl⟩ : ∃ b B', B = b :: B' := by cases B with | nil => simp at hBl | cons b B' => exact ⟨b, B', rfl⟩
      rw [List.map_cons, sufW_cons] at hu ⊢
      rw [sufW_cons]
      have hp := upT_parts hu
      rw [hz] at hp
      rw [delL_hit hp.1 hp.2 hz, hF]
      simp
    | false =>
      obtain ⟨P, Q, rfl, hP, lP, hQ⟩ := bs_miss hu' hf
      simp only [Bool.false_eq_true, if_false]
      obtain ⟨A, c, B, rfl, hA, hBl, hfl⟩ := flat_at (h := h) o3
      have hAk := kid_at e (i := P.length) hA
      rw [hg] at hAk
      rw [← hP, hAk]
      rw [hfl] at hu hm ⊢
      have low := pre_low hA hu lP
      have high := suf_high hBl hu hQ
      rw [delL_mid low high]
      have oc := o3.2 c (by simp)
      have hnc : (hsB d c).Nodup := by
        rw [hsK_mid] at hn
        exact (List.nodup_append.1 (List.nodup_append.1 (List.nodup_cons.1 hn).2).2.1).1
      have R := ih (k := k) (lo := 2) (hk c (by simp)) hnc oc (by omega) (mid_up hu) hB (mem_of_bs low high hm)
      exact sub_rem (P := P) (Q := Q) e hk hn hA hBl (lo := lo) o1 hlo o2 (fun s hs => o3.2 s (by simp [hs])) (fun s hs => o3.2 s (by simp [hs])) R
end
end Tp
namespace Tp
open Go
def upS (ks : List ByteArray) : Prop := ks.Pairwise fun a b => sLt a b = true
section
variable {ks : List ByteArray} {k s : ByteArray} {i : Nat}
theorem bsI_eq (hi : i ≤ ks.length) (h1 : ∀ j s, j < i → ks[j]? = some s → sLt s k = true) (h2 : ∀ s, ks[i]? = some s → sLt s k = false) : bsI ks k = i := by
  unfold bsI
  rcases Nat.lt_or_ge i ks.length with h | h
  · refine List.findIdx_eq h |>.2 ⟨by simp [h2 ks[i] (List.getElem?_eq_getElem h)], fun j hj => ?_⟩
    simp [h1 j _ hj (List.getElem?_eq_getElem (by omega))]
  · have : i = ks.length := by omega
    subst this
    refine List.findIdx_eq_length.2 fun x hx => ?_
    obtain ⟨j, hj, rfl⟩ := List.mem_iff_getElem.1 hx
    simp [h1 j _ hj (List.getElem?_eq_getElem hj)]
theorem up_below' (hs : upS ks) {m : Nat} (hm : ks[m]? = some s) (h : sLt s k = true) : ∀ j r, j < m + 1 → ks[j]? = some r → sLt r k = true := by
  intro j r hj hr
  rcases Nat.lt_or_ge j m with hjm | hjm
  · obtain ⟨h1, rfl⟩ := List.getElem?_eq_some_iff.1 hr
    obtain ⟨h2, rfl⟩ := List.getElem?_eq_some_iff.1 hm
    exact sLt_trans (List.pairwise_iff_getElem.1 hs j m h1 h2 hjm) h
  · have : j = m := by omega
    subst this
    rw [hm] at hr; cases hr; exact h
theorem up_above' (hs : upS ks) {m : Nat} (hm : ks[m]? = some s) (h : sLt s k = false) : ∀ j r, m ≤ j → ks[j]? = some r → sLt r k = false := by
  intro j r hj hr
  rcases Nat.lt_or_ge m j with hjm | hjm
  · obtain ⟨h1, rfl⟩ := List.getElem?_eq_some_iff.1 hr
    obtain ⟨h2, rfl⟩ := List.getElem?_eq_some_iff.1 hm
    cases e : sLt ks[j] k with
    | false => rfl
    | true => rw [sLt_trans (List.pairwise_iff_getElem.1 hs m j h2 h1 hjm) e] at h; cases h
  · have : j = m := by omega
    subst this
    rw [hm] at hr; cases hr; exact h
theorem bsF_lt (h : bsF ks k = true) : bsI ks k < ks.length := by
  rcases Nat.lt_or_ge (bsI ks k) ks.length with h1 | h1
  · exact h1
  · rw [bsF, List.getElem?_eq_none h1] at h; simp at h
theorem bsF_at (hx : ks[bsI ks k]? = some s) : bsF ks k = (s.toList == k.toList) := by
  unfold bsF; rw [hx, sEq_dec, Bool.eq_iff_iff]; simp
theorem bsF_end (hx : ks.length ≤ bsI ks k) : bsF ks k = false := by
  unfold bsF; rw [List.getElem?_eq_none hx]; simp
end
end Tp
namespace Tp
open Go
namespace Step
variable {P : Program} {ρ : Env} {w : World} {ty : TypeId}
theorem maxI {ts : Array TypeId} {x y : Operand} {k : IntKind} {a b : Int} (hx : ρ.ev x = .int k a) (hy : ρ.ev y = .int k b) :
    Step P (.call { callee := .builtin .max, args := #[x, y], argTypes := ts }) ty ρ w (.int k (max a b)) w := by
  intro d pos aft g
  left
  simp [execOp, resolve, invoke, builtin, hx, hy, Lib.run_max_ints]
end Step
end Tp
namespace Tp
open Go
def vSlice (size l h m : Nat) : Value → Value
  | .slice a _ _ => .slice (if m = l then a else a.map (·.add (l * size))) (h - l) (m - l)
  | v => v
def vCap : Value → Nat
  | .slice _ _ c => c
  | _ => 0
theorem vSlice_sl {size l h m : Nat} {v : Value} (hv : IsSl v) : IsSl (vSlice size l h m v) := by
  obtain ⟨a, n, c, rfl⟩ := hv; exact ⟨_, _, _, rfl⟩
theorem addr_add_none (b o k : Nat) : (⟨b, o, none⟩ : Addr).add k = ⟨b, o + k, none⟩ := by unfold Addr.add; split <;> simp_all
theorem slat_slice {size n l h m : Nat} {v : Value} {cs : List Value} {w : World} (H : SlAt size v n cs w) (hlh : l ≤ h) (hn : h ≤ n) (hm : h ≤ m) (hc : m ≤ vCap v) :
    SlAt size (vSlice size l h m v) (h - l) ((cs.drop (l * size)).take ((h - l) * size)) w := by
  rcases H with ⟨⟨a, rfl⟩, rfl, rfl⟩ | ⟨b, o, cap, c, e, fz, rfl, h1, h2, h3, h4, h5, h6⟩
  · have : h = 0 := by omega
    subst this
    have : l = 0 := by omega
    subst this
    have : m = 0 := by simpa [vCap] using hc
    subst this
    exact .inl ⟨⟨a, by simp [vSlice]⟩, rfl, by simp⟩
  · have hc' : m ≤ cap := hc
    by_cases e1 : m = l
    · have : h = l := by omega
      subst this
      subst e1
      exact .inl ⟨⟨some ⟨b, o, none⟩, by simp [vSlice]⟩, by omega, by simp⟩
    · refine .inr ⟨b, o + l * size, m - l, c, e, fz, ?_, by omega, by omega, h3, ?_, ?_, fun j hj => ?_⟩
      · simp [vSlice, e1, addr_add_none]
      · have : (m - l) * size + l * size = m * size := by rw [← Nat.add_mul]; congr 1; omega
        have : m * size ≤ cap * size := Nat.mul_le_mul_right _ hc'
        omega
      · rw [List.length_take, List.length_drop, h5]
        have : (h - l) * size + l * size = h * size := by rw [← Nat.add_mul]; congr 1; omega
        have : h * size ≤ n * size := Nat.mul_le_mul_right _ hn
        omega
      · have e2 : (h - l) * size + l * size = h * size := by rw [← Nat.add_mul]; congr 1; omega
        have e3 : h * size ≤ n * size := Nat.mul_le_mul_right _ hn
        rw [List.getElem?_take, if_pos hj, List.getElem?_drop, ← h6 _ (by omega), Nat.add_assoc]
theorem slat_sliceF {α : Type} {enc : α → List Value} {size : Nat} (he : ∀ x, (enc x).length = size) {v : Value} {xs : List α} {l h m : Nat} {w : World} (H : SlAt size v xs.length (xs.flatMap enc) w) (hlh : l ≤ h) (hn : h ≤ xs.length) (hm : h ≤ m) (hc : m ≤ vCap v) :
    SlAt size (vSlice size l h m v) ((xs.drop l).take (h - l)).length (((xs.drop l).take (h - l)).flatMap enc) w := by
  have := slat_slice H hlh hn hm hc
  rw [drop_flatMap he, take_flatMap he] at this
  rwa [show ((xs.drop l).take (h - l)).length = h - l by simp; omega]
theorem SlAt.cap {size n : Nat} {v : Value} {cs : List Value} {w : World} (H : SlAt size v n cs w) : n ≤ vCap v ∧ vCap v ≤ maxLen := by
  rcases H with ⟨⟨a, rfl⟩, rfl, _⟩ | ⟨b, o, cap, _, _, _, rfl, h, h', _⟩
  · exact ⟨Nat.le_refl _, Nat.zero_le _⟩
  · exact ⟨h, h'⟩
namespace Step
variable {P : Program} {ρ : Env} {w : World} {ty t e : TypeId} {x a b c : Operand} {v : Value} {size n l h m : Nat} {k k' k'' : IntKind} {z z' z'' : Int}
theorem sliceFrom {ad : Option Addr} {cap : Nat} (ht : Und P t (.slice e)) (hs : Sized P e size) (hx : ρ.ev x = v) (hi : ρ.ev a = .int k z) (hz : z = (l : Int)) (hv : v = .slice ad n cap) (hle : l ≤ n) :
    Step P (.slice t x (some a) none none) ty ρ w (vSlice size l n (vCap v) v) w := by
  intro d pos aft g
  left
  subst hz
  subst hv
  have h1 : (0 : Int) ≤ l ∧ (l : Int) ≤ n := ⟨by omega, by omega⟩
  have h3 : ¬ (n < l) := by omega
  simp [execOp, Instr.sliceAt, Instr.slice, hx, hi, ht.run, Instr.sliceBounds, Instr.sliceBound, asIntOf, hs w, h1, h3, vSlice, vCap, hle]
  try rfl
theorem sliceLH {ad : Option Addr} {cap : Nat} (ht : Und P t (.slice e)) (hs : Sized P e size) (hx : ρ.ev x = v) (hi : ρ.ev a = .int k z) (hz : z = (l : Int)) (hj : ρ.ev b = .int k' z') (hz' : z' = (h : Int)) (hv : v = .slice ad n cap) (hle : l ≤ h) (hc : h ≤ cap) :
    Step P (.slice t x (some a) (some b) none) ty ρ w (vSlice size l h (vCap v) v) w := by
  intro d pos aft g
  left
  subst hz
  subst hz'
  subst hv
  have h1 : (0 : Int) ≤ l ∧ (l : Int) ≤ h := ⟨by omega, by omega⟩
  have h2 : (0 : Int) ≤ h ∧ (h : Int) ≤ cap := ⟨by omega, by omega⟩
  have h3 : ¬ (cap < h) := by omega
  have h4 : ¬ (h < l) := by omega
  simp [execOp, Instr.sliceAt, Instr.slice, hx, hi, hj, ht.run, Instr.sliceBounds, Instr.sliceBound, asIntOf, hs w, h1, h2, h3, h4, vSlice, vCap, hle, hc]
  try rfl
theorem sliceH {ad : Option Addr} {cap : Nat} (ht : Und P t (.slice e)) (hs : Sized P e size) (hx : ρ.ev x = v) (hj : ρ.ev b = .int k' z') (hz' : z' = (h : Int)) (hv : v = .slice ad n cap) (hc : h ≤ cap) :
    Step P (.slice t x none (some b) none) ty ρ w (.slice ad h cap) w := by
  intro d pos aft g
  left
  subst hz'
  subst hv
  have h2 : (0 : Int) ≤ h ∧ (h : Int) ≤ cap := ⟨by omega, by omega⟩
  have h3 : ¬ (cap < h) := by omega
  have hadd : ∀ a : Addr, a.add 0 = a := fun a => by unfold Addr.add; split <;> simp_all
  have h5 : (Option.map (fun a : Addr => a.add 0) ad) = ad := by cases ad <;> simp [hadd]
  simp [execOp, Instr.sliceAt, Instr.slice, hx, hj, ht.run, Instr.sliceBounds, Instr.sliceBound, asIntOf, hs w, h2, h3, h5, hc]
end Step
section
variable {P : Program} {ops : Array Oper} {ld mk : List Nat} {Q : Env → World → Prop} {i : Nat} {d : Option Nat} {op : Op} {ty : TypeId} {pos : String} {aft : Array Edge} {g : Option (Nat × Bool)}
  {rest : List Nat} {ρ : Env} {F X : Nat → Prop} {w0 : World} {Lp L : List Chunk} {Rp R : List (World → Prop)}
theorem TW.doesM {c : Chunk} (C : Value → Chunk) (j : Nat) (hj : L[j]? = some c) (hi : ops[i]? = some ⟨d, op, ty, pos, aft, g⟩) (hl : i ∈ ld) (hw : ρ.want ops g = true)
    (hL : ∀ v, Lp.Sublist (L.set j (C v))) (hR : ∀ r, r ∈ Rp → r ∈ R)
    (h : ∀ A w, Mem F X w0 (fl A :: L) R w → Does P ⟨d, op, ty, pos, aft, g⟩ ρ w fun v w' => Mod c.foot w w' ∧ Mem F X w0 ((fl A :: L).set (j + 1) (C v)) R w')
    (k : ∀ v, (∃ A w, Mem F X w0 (fl A :: L.set j (C v)) R w) → TW P ops ld mk (Dm F X w0 Lp Rp) Q rest (ρ.put d v) (MemA F X w0 (L.set j (C v)) R)) (hm : i ∉ mk := by decide) : TW P ops ld mk (Dm F X w0 Lp Rp) Q (i :: rest) ρ (MemA F X w0 L R) := by
  refine .loud (hm := hm) (fun v A w => MemA F X w0 (L.set j (C v)) R A w) hi hl hw (fun v => good_mem (hL v) hR) (fun A w M => ?_) ?_
  · refine Does.mono (h A w M) fun v w' ⟨h1, h2⟩ => ⟨?_, fun b hb => ?_⟩
    · rwa [List.set_cons_succ] at h2
    · exact h1.block b ((Mem.chunk M 0 rfl).lt b hb) (Mem.disj_ne M (i := 0) (j := j + 1) rfl (by simpa using hj) (by omega) b hb)
  · rintro v ⟨A, w, hM⟩
    exact k v ⟨A, w, hM⟩
end
theorem Mem.appendF' {α : Type} {enc : α → List Value} {P : Program} {F X : Nat → Prop} {w0 w : World} {L : List Chunk} {R : List (World → Prop)} {ρ : Env} {d : Option Nat} {pos : String} {aft : Array Edge} {g : Option (Nat × Bool)} {t ty e : TypeId} {z : Value} {size bytes : Nat} {x y : Operand}
    {v sv : Value} (xs ys : List α) (M : Mem F X w0 L R w) (i : Nat) (ht : Und P t (.slice e)) (he : Elem P e z size bytes) (hzs : z.cells.size = size) (hsz : 0 < size)
    (hx : ρ.ev x = v) (hy : ρ.ev y = sv) (hi : L[i]? = some (Tp.own e size v xs.length (xs.flatMap enc))) (hsrc : SlAt size sv ys.length (ys.flatMap enc) w) (h1 : ∀ x, Step.Cellish (enc x))
    (h63 : xs.length + ys.length ≤ maxLen) (hb : (xs.length + ys.length) * bytes ≤ 140737488355328) :
    Does P ⟨d, .call { callee := .builtin .append, args := #[x, y], argTypes := #[t, t] }, ty, pos, aft, g⟩ ρ w fun v' w' =>
      Mod (Tp.own e size v xs.length (xs.flatMap enc)).foot w w' ∧ Mem F X w0 (L.set i (Tp.own e size v' (xs ++ ys).length ((xs ++ ys).flatMap enc))) R w' := by
  refine (M.append i ht he hzs hsz hx hy hi hsrc (cel_flatMap h1 ys).one h63 hb).mono fun v' w' ⟨_, h2, M'⟩ => ⟨h2, ?_⟩
  rw [List.length_append, List.flatMap_append]
  exact M'
end Tp
namespace Tp
open Go
def shrI (k : IntKind) (a b : Int) : Int := a / 2 ^ min b.toNat k.bits
theorem shrI_nonneg {k : IntKind} {a b : Int} (h : 0 ≤ a) : 0 ≤ shrI k a b := Int.ediv_nonneg h (Int.pow_nonneg (by decide))
namespace Step
variable {P : Program} {ρ : Env} {w : World} {ty : TypeId}
theorem conv {s t : TypeId} {x : Operand} {j j' k : IntKind} {a c : Int} (hs : Und P s (.int j)) (ht : Und P t (.int k)) (hx : ρ.ev x = .int j' a) (hc : k.wrap a = c) : Step P (.convert s t x) ty ρ w (.int k c) w := by
  intro d pos aft g
  left
  have h1 : P.underlying s = some (.int j) := hs
  have h2 : P.underlying t = some (.int k) := ht
  simp [execOp, hx, convert, Conv.intToInt, underlying, h1, h2, hc]
theorem shr {t ty' : TypeId} {x y : Operand} {k j : IntKind} {a b : Int} (hx : ρ.ev x = .int k a) (hy : ρ.ev y = .int j b) (hb : 0 ≤ b) : Step P (.binOp .shr t x y ty') ty ρ w (.int k (shrI k a b)) w := by
  intro d pos aft g
  left
  simp [execOp, eqGuard, hx, hy, binOp, shift_shr_any _ _ _ _ hb, shrI]
end Step
theorem wrap_u8 {a : Int} (h : 0 ≤ a ∧ a < 256) : IntKind.u8.wrap a = a := by
  obtain ⟨h1, h2⟩ := h
  simp [IntKind.wrap, IntKind.signed, IntKind.bits]; omega
end Tp
namespace Tp
open Go
theorem splice_whole {α : Type} {enc : α → List Value} {size : Nat} (he : ∀ x, (enc x).length = size) {xs : List α} {j : Nat} (hj : j < xs.length) (x' : α) :
    splice (xs.flatMap enc) (j * size + 0) (enc x') = (xs.set j x').flatMap enc := by
  refine splice_flat he (List.getElem?_eq_getElem hj) (by rw [he]; omega) ?_
  simp [splice, he]
namespace Mem
variable {F X : Nat → Prop} {w0 w w' : World} {L : List Chunk} {R : List (World → Prop)} {P : Program} {ρ : Env}
theorem storeF {α : Type} {enc : α → List Value} {t e ty : TypeId} {x y : Operand} {size j : Nat} {v u : Value} {xs : List α} (he : ∀ x, (enc x).length = size) (x' : α) (M : Mem F X w0 L R w) (i : Nat) (hi : L[i]? = some (Tp.own e size v xs.length (xs.flatMap enc)))
    (ht : Sized P t size) (ha : ρ.ev x = .pointer (some ⟨sBlk v, sOff v + j * size, none⟩)) (hv : ρ.ev y = u) (hnew : u.cells.toList = enc x') (hl : Step.Cellish (enc x')) (hj : j < xs.length) :
    ∃ w', Step P (.store t x y) ty ρ w undef w' ∧ Mem F X w0 (L.set i (Tp.own e size v (xs.set j x').length ((xs.set j x').flatMap enc))) R w' ∧ Mod (Tp.own e size v xs.length (xs.flatMap enc)).foot w w' := by
  have ht' : Sized P t (enc x').length := by rw [he]; exact ht
  have := M.storeRow (ty := ty) (k := 0) i hi ht' (by rw [ha]; rfl) hv hnew hl hj (by rw [he]; omega)
  rw [splice_whole he hj] at this
  rwa [List.length_set]
end Mem
end Tp
namespace Tp
open Go
def packL (Ls : List Chunk) : Chunk := ⟨Foots Ls, fun w => (Ls.Pairwise fun c d => ∀ b, c.foot b → ¬ d.foot b) ∧ ∀ c, c ∈ Ls → c.Ok w⟩
namespace Mem
variable {F X : Nat → Prop} {w0 w w' : World} {L L' Ls : List Chunk} {R R' : List (World → Prop)}
theorem packL (M : Mem F X w0 (Ls ++ L) R w) : Mem F X w0 (Tp.packL Ls :: L) R w :=
  Mem.take (C' := Ls) M _ rfl fun w' hok => ⟨(List.pairwise_append.1 M.disj).1, hok⟩
theorem unpackL (M : Mem F X w0 (Tp.packL Ls :: L) R w) : Mem F X w0 (Ls ++ L) R w := by
  obtain ⟨h3, h4⟩ := (M.chunk 0 rfl).inv
  have hf : ∀ c, c ∈ Ls → ∀ b, c.foot b → (Tp.packL Ls).foot b := fun c hc b hb => ⟨c, hc, hb⟩
  have hp := List.pairwise_cons.1 M.disj
  refine ⟨M.mod, fun c hc => ?_, List.pairwise_append.2 ⟨h3, hp.2, fun c hc d hd b hb => hp.1 d hd b (hf c hc b hb)⟩, fun c hc b hb => ?_, fun r hr => (M.sh r hr).mono fun b hb _ => ⟨hb.1, fun c hc hcb => ?_⟩⟩
  · rcases List.mem_append.1 hc with hc | hc
    · exact h4 c hc
    · exact M.ok c (by simp [hc])
  · rcases List.mem_append.1 hc with hc | hc
    · exact M.in_ (Tp.packL Ls) (by simp) b (hf c hc b hb)
    · exact M.in_ c (by simp [hc]) b hb
  · rcases List.mem_append.1 hc with hc | hc
    · exact hb.2 (Tp.packL Ls) (by simp) (hf c hc b hcb)
    · exact hb.2 c (by simp [hc]) hcb
end Mem
def loopC (n : Nat) (f : Nat → Value) (ps : Array Tmp) (ar_ bd : Code) (l : Nat) (st : LoopState) (pend : Option Code) : Chunk :=
  ⟨(· = l), fun w => ∃ r : Loop, w.heap[l]? = some (.loop r) ∧ r.state = st ∧ r.pending = pend ∧ r.params = ps ∧ r.assign = ar_ ∧ r.body = bd ∧ EnvOf n ⟨f, [], some l⟩ ⟨r.tmps, []⟩⟩
section
variable {n : Nat} {f : Nat → Value} {ps : Array Tmp} {ar_ bd : Code} {l : Nat} {st : LoopState} {pend : Option Code} {w : World}
theorem loopC_ok (h : (loopC n f ps ar_ bd l st pend).inv w) : (loopC n f ps ar_ bd l st pend).Ok w := by
  obtain ⟨r, h1, h2⟩ := h
  exact ⟨fun _ e => by rw [show _ = l from e]; exact lt_of_blk h1, fun _ h' => ⟨r, (h' l rfl).trans h1, h2⟩⟩
theorem putObj_mod (w : World) (b : Nat) (o : Obj) : Mod (· = b) w (w.putObj b o) := blkSet_mod w b o
variable {F X : Nat → Prop} {w0 : World} {L : List Chunk} {R : List (World → Prop)}
theorem Mem.loopSet (M : Mem F X w0 L R w) (i : Nat) (hi : L[i]? = some (loopC n f ps ar_ bd l st pend)) (st' : LoopState) (pend' : Option Code) :
    ∃ r : Loop, w.heap[l]? = some (.loop r) ∧ r.state = st ∧ r.pending = pend ∧ Mem F X w0 (L.set i (loopC n f ps ar_ bd l st' pend')) R (w.putObj l (.loop { r with state := st', pending := pend' })) := by
  obtain ⟨r, h1, h2, h3, h4⟩ := (M.chunk i hi).inv
  refine ⟨r, h1, h2, h3, M.turn i hi (putObj_mod w l _) (loopC_ok ⟨_, World.putObj_heap_same (lt_of_blk h1), rfl, rfl, h4⟩) fun _ h => .inl h⟩
theorem Mem.beginRound (M : Mem F X w0 L R w) (i : Nat) (hi : L[i]? = some (loopC n f ps ar_ bd l .ready pend)) :
    ∃ r : Loop, w.heap[l]? = some (.loop r) ∧ r.state = .ready ∧ Mem F X w0 (L.set i (loopC n f ps ar_ bd l .busy pend)) R (w.putObj l (.loop { r with state := .busy })) := by
  obtain ⟨r, h1, h2, h3, h4⟩ := M.loopSet i hi .busy pend
  exact ⟨r, h1, h2, by rw [← h3] at h4 ⊢; exact h4⟩
theorem Mem.endRound (M : Mem F X w0 L R w) (i : Nat) (hi : L[i]? = some (loopC n f ps ar_ bd l st pend)) (jump : Option Code) :
    ∃ r : Loop, w.heap[l]? = some (.loop r) ∧ Mem F X w0 (L.set i (loopC n f ps ar_ bd l (if jump.isNone then .ready else .done) jump)) R (w.putObj l (.loop { r with state := if jump.isNone then .ready else .done, pending := jump })) :=
  let ⟨r, h1, _, _, h4⟩ := M.loopSet i hi (if jump.isNone then .ready else .done) jump; ⟨r, h1, h4⟩
theorem Mem.endLoop (M : Mem F X w0 L R w) (i : Nat) (hi : L[i]? = some (loopC n f ps ar_ bd l st pend)) (hst : st ≠ .busy) :
    ∃ r : Loop, w.heap[l]? = some (.loop r) ∧ r.state ≠ .busy ∧ r.pending = pend ∧ Mem F X w0 (L.eraseIdx i) R (w.putObj l (.loop { r with state := .exhausted })) := by
  obtain ⟨r, h1, h2, h3, h4⟩ := (M.chunk i hi).inv
  exact ⟨r, h1, by rw [h2]; exact hst, h3, M.lose1 i hi (putObj_mod w l _)⟩
theorem Mem.strike {D : Nat} (M : Mem F X w0 L R w) (i : Nat) (hi : L[i]? = some (Tp.blk D (.deferred (some [])))) : w.heap[D]? = some (.deferred (some [])) ∧ Mem F X w0 (L.eraseIdx i) R (w.putObj D (.deferred none)) :=
  ⟨M.blk i hi, M.lose1 i hi (putObj_mod w D _)⟩
end
def RoundQ (l : Nat) (R : Value → World → Prop) (e : Exit) (_ : Env) (w : World) : Prop :=
  (e = .normal ∧ ∃ r : Loop, w.heap[l]? = some (.loop r) ∧ R (.bool true) (w.putObj l (.loop { r with state := .ready, pending := none }))) ∨
  (e = .ret ∧ ∃ r : Loop, w.heap[l]? = some (.loop r) ∧ R (.bool false) (w.putObj l (.loop { r with state := .done, pending := some .ret })))
def RoundA (P : Program) (n : Nat) (bd : Code) (l : Nat) (R : Value → World → Prop) (e : Exit) (ρ : Env) (w : World) : Prop :=
  e = .normal ∧ ∃ r : Loop, w.heap[l]? = some (.loop r) ∧ r.state = .ready ∧ W P n bd (RoundQ l R) ρ (w.putObj l (.loop { r with state := .busy }))
def Env.puts (ρ : Env) : List (Tmp × Value) → Env
  | [] => ρ
  | (t, v) :: l => (ρ.put (some t) v).puts l
theorem EnvOf.puts {n : Nat} : ∀ (l : List (Tmp × Value)) {ρ : Env} {a : Act}, EnvOf n ρ a → (∀ p, p ∈ l → p.1 < n) → EnvOf n (ρ.puts l) ⟨l.foldl (fun t p => t.setIfInBounds p.1 p.2) a.tmps, a.defers⟩
  | [], _, _, h, _ => h
  | (t, v) :: l, ρ, a, h, hl => EnvOf.puts l (h.put (some t) (by simpa using hl (t, v) (by simp)) v) fun p hp => hl p (by simp [hp])
theorem Env.puts_rd (ρ : Env) (l : List (Tmp × Value)) : (ρ.puts l).rd = ρ.rd := by
  induction l generalizing ρ with
  | nil => rfl
  | cons p l ih => rw [Env.puts, ih]; rfl
section
variable {P : Program} {n : Nat} {f : Nat → Value} {ps : Array Tmp} {ar_ bd : Code} {l : Nat} {w w0 : World} {F X : Nat → Prop} {L : List Chunk} {R : List (World → Prop)} {Q : Value → World → Prop}
theorem RetsV.yieldM {LC : LoopState → Option Code → Chunk} (hLC : loopC n f ps ar_ bd l = LC) (M : Mem F X w0 L R w) (i : Nat) (hi : L[i]? = some (LC .ready none)) (args : List Value) (hs : args.length = ps.size) (hps : ps.toList.all (· < n) = true)
    (h : W P n ar_ (RoundA P n bd l Q) (Env.puts ⟨f, [], some l⟩ (ps.toList.zip args)) w) : RetsV P (.func (.yield l) #[] #[]) args.toArray w Q := by
  subst hLC
  obtain ⟨r, h1, h2, h3, rfl, rfl, rfl, hE⟩ := (M.chunk i hi).inv
  refine ⟨.round l r.fn ((r.params.zip args.toArray).foldl (fun tmps (t, a) => tmps.setIfInBounds t a) r.tmps) r.assign r.body, rfl, ?_, ?_⟩
  · have := run_yield (P := P) (args := args.toArray) h1 (by simpa using hs)
    simp only [vcall, Deferred.ofValue, invoke, Sem.run_bind, Sem.run_pure, Result.andThen_ok, Array.empty_append]
    exact this
  · intro c cs
    let b : Frame := { (default : Frame) with fn := r.fn, kind := .normal, roundOf := some l }
    have hb0 : ∀ tm, nxFrame P (.round l r.fn tm r.assign r.body) = b.atR { tmps := tm, defers := [] } [.code r.assign, .beginRound, .code r.body] := fun tm => by
      simp [nxFrame, Frame.round, Frame.atR, b]
    have hE2 := EnvOf.puts (r.params.toList.zip args) hE (fun p hp => by
      have := List.all_eq_true.1 hps p.1 (List.of_mem_zip hp).1
      simpa using this)
    have hfold : (r.params.zip args.toArray).foldl (fun tmps (t, a) => tmps.setIfInBounds t a) r.tmps = (r.params.toList.zip args).foldl (fun t p => t.setIfInBounds p.1 p.2) r.tmps := by
      rw [← Array.foldl_toList, Array.toList_zip]
    rw [hfold, hb0]
    obtain ⟨e, a1, w1, ⟨ρ1, g1, g2, rfl, r1, g3, g4, g5⟩, harr⟩ := h _ hE2 b [.beginRound, .code r.body] (c :: cs) (by rw [Env.puts_rd])
    have s1 : Steps P (lone (b.atR a1 [.beginRound, .code r.body]) (c :: cs) w1) (lone (b.atR a1 [.code r.body]) (c :: cs) (w1.putObj l (.loop { r1 with state := .busy }))) :=
      .one (stepR_beginRound rfl (run_beginRound g3 g4))
    obtain ⟨e, a2, w2, ⟨ρ2, k1, k2, k3⟩, harr2⟩ := g5 a1 g1 b [] (c :: cs) (by rw [g2, Env.puts_rd])
    have s2 := Steps.trans harr s1
    rcases k3 with ⟨rfl, r2, q1, q2⟩ | ⟨rfl, r2, q1, q2⟩
    · exact ⟨_, _, q2, s2.trans (Steps.trans harr2 (.one (stepR_round_end (v := .bool true) rfl rfl (run_endRound none q1))))⟩
    · obtain ⟨k0, hs0⟩ := harr2
      exact ⟨_, _, q2, s2.trans (Steps.trans hs0 (.one (stepR_round_ret (v := .bool false) rfl rfl (run_endRound (some .ret) q1))))⟩
theorem RoundA.go {LC : LoopState → Option Code → Chunk} {pend : Option Code} {ρ : Env} (hLC : loopC n f ps ar_ bd l = LC) (M : Mem F X w0 L R w) (i : Nat) (hi : L[i]? = some (LC .ready pend))
    (k : ∀ w', Mem F X w0 (L.set i (LC .busy pend)) R w' → W P n bd (RoundQ l Q) ρ w') : RoundA P n bd l Q .normal ρ w := by
  subst hLC
  obtain ⟨r, h1, h2, h3⟩ := M.beginRound i hi
  exact ⟨rfl, r, h1, h2, k _ h3⟩
theorem RoundQ.go {LC : LoopState → Option Code → Chunk} {st : LoopState} {pend : Option Code} {ρ : Env} (hLC : loopC n f ps ar_ bd l = LC) (M : Mem F X w0 L R w) (i : Nat) (hi : L[i]? = some (LC st pend))
    (k : ∀ w', Mem F X w0 (L.set i (LC .ready none)) R w' → Q (.bool true) w') : RoundQ l Q .normal ρ w := by
  subst hLC
  obtain ⟨r, h1, h2⟩ := M.endRound i hi none
  exact .inl ⟨rfl, r, h1, k _ h2⟩
theorem RoundQ.stop {LC : LoopState → Option Code → Chunk} {st : LoopState} {pend : Option Code} {ρ : Env} (hLC : loopC n f ps ar_ bd l = LC) (M : Mem F X w0 L R w) (i : Nat) (hi : L[i]? = some (LC st pend))
    (k : ∀ w', Mem F X w0 (L.set i (LC .done (some .ret))) R w' → Q (.bool false) w') : RoundQ l Q .ret ρ w := by
  subst hLC
  obtain ⟨r, h1, h2⟩ := M.endRound i hi (some .ret)
  exact .inr ⟨rfl, r, h1, k _ h2⟩
theorem Mem.endLoop' {LC : LoopState → Option Code → Chunk} {st : LoopState} {pend : Option Code} (hLC : loopC n f ps ar_ bd l = LC) (M : Mem F X w0 L R w) (i : Nat) (hi : L[i]? = some (LC st pend)) (hst : st ≠ .busy) :
    ∃ r : Loop, w.heap[l]? = some (.loop r) ∧ r.state ≠ .busy ∧ r.pending = pend ∧ Mem F X w0 (L.eraseIdx i) R (w.putObj l (.loop { r with state := .exhausted })) := by
  subst hLC
  exact M.endLoop i hi hst
theorem W.range {g : Operand} {gf : FuncId} {first lb : Array Value} {ρ : Env} {Q : Exit → Env → World → Prop} (M : Mem F X w0 L R w) (hrd : ρ.rd = none) (hds : ρ.ds = []) (hg : ρ.ev g = .func (.func gf) first lb) (he : Enters P gf)
    (h : ∀ (D l : Nat) (w1 : World) (LC : LoopState → Option Code → Chunk), loopC n ρ.f ps ar_ bd l = LC → w0.heap.size ≤ D → w0.heap.size ≤ l → Mem F X w0 (LC .ready none :: blk D (.deferred (some [])) :: L) R w1 →
      Rets P gf (first.toList ++ [Value.func (.yield l) #[] #[]] ++ lb.toList).toArray w1 fun _ w' => ∃ r : Loop, w'.heap[l]? = some (.loop r) ∧ r.state ≠ .busy ∧
        ((r.pending = none ∧ Q .normal (ρ.mark D) (w'.putObj l (.loop { r with state := .exhausted }))) ∨ (r.pending = some .ret ∧ Q .ret (ρ.mark D) (w'.putObj l (.loop { r with state := .exhausted }))))) :
    W P n (.rangeFunc g ps ar_ bd) Q ρ w := by
  intro a ha b k cs hb
  have hb0 : b.roundOf = none := by rw [hb, hrd]
  have M1 := M.push (.deferred (some []))
  have M2 := M1.push (.loop { state := .ready, pending := none, fn := b.fn, tmps := a.tmps, params := ps, assign := ar_, body := bd, defers := w.heap.size })
  have hsz : (w.alloc (.deferred (some []))).heap.size = w.heap.size + 1 := by simp
  have hl : (loopC n ρ.f ps ar_ bd (w.heap.size + 1) .ready none).Ok ((w.alloc (.deferred (some []))).alloc (.loop { state := .ready, pending := none, fn := b.fn, tmps := a.tmps, params := ps, assign := ar_, body := bd, defers := w.heap.size })) := by
    have := M2.blk 0 rfl
    rw [hsz] at this
    exact loopC_ok ⟨_, this, rfl, rfl, rfl, rfl, rfl, ⟨ha.size, ha.get, rfl⟩⟩
  have M3 := M1.own (push_old _ (.loop { state := .ready, pending := none, fn := b.fn, tmps := a.tmps, params := ps, assign := ar_, body := bd, defers := w.heap.size })) hl (fun b hb => by rw [hsz]; exact Nat.le_of_eq (Eq.symm hb))
  obtain ⟨e, w2, fr, ⟨v, rfl, r, q1, q2, q3⟩, hc, _, hlv⟩ := h w.heap.size (w.heap.size + 1) _ _ rfl M.mod.size (Nat.le_trans M.mod.size (Nat.le_succ _)) M3 (b.atR { a with defers := [markD w.heap.size] ++ a.defers } (.inRangeFunc (w.heap.size + 1) :: k) :: cs)
  have hen : (Instr.enterLoop b.fn a.tmps ps ar_ bd b.roundOf).run P w = .ok (w.heap.size + 1, [markD w.heap.size]) ((w.alloc (.deferred (some []))).alloc (.loop { state := .ready, pending := none, fn := b.fn, tmps := a.tmps, params := ps, assign := ar_, body := bd, defers := w.heap.size })) := by
    rw [hb0]; exact run_enterLoop_outer _ _ _ _ _
  have harg : first ++ #[Value.func (.yield (w.heap.size + 1)) #[] #[]] ++ lb = (first.toList ++ [Value.func (.yield (w.heap.size + 1)) #[] #[]] ++ lb.toList).toArray := Array.ext' (by simp)
  have s0 := stepR_rangeFunc (P := P) (b := b) (a := a) (k := k) (cs := cs) (w := w) (g := g) (f := gf) (args := (first.toList ++ [Value.func (.yield (w.heap.size + 1)) #[] #[]] ++ lb.toList).toArray)
    (w₁' := (w.alloc (.deferred (some []))).alloc (.loop { state := .ready, pending := none, fn := b.fn, tmps := a.tmps, params := ps, assign := ar_, body := bd, defers := w.heap.size }))
    (w₂ := (w.alloc (.deferred (some []))).alloc (.loop { state := .ready, pending := none, fn := b.fn, tmps := a.tmps, params := ps, assign := ar_, body := bd, defers := w.heap.size })) hen (d := { target := .fn (.func gf) lb, args := first ++ #[Value.func (.yield (w.heap.size + 1)) #[] #[]] })
    (by simp only [resolve, ha.eval, hg, Deferred.ofValue, Sem.run_pure]; simp [Env.ev]) (by simp only [invoke]; rw [harg]; exact he _ _)
  have s1 := Steps.head s0 (Steps.trans hc (.one (step_leave_returned hlv)))
  rw [finish_atR_inRangeFunc] at s1
  have s2 := s1.trans (.one (stepR_endRangeFunc (run_endLoop q1 q2)))
  have hE : EnvOf n (ρ.mark w.heap.size) { a with defers := [markD w.heap.size] ++ a.defers } := ⟨ha.size, ha.get, by simp [Env.mark, ha.defers]⟩
  rcases q3 with ⟨e1, q⟩ | ⟨e1, q⟩
  · rw [show (Option.map Item.code r.pending).toList ++ k = k by rw [e1]; rfl] at s2
    exact ⟨.normal, _, _, ⟨_, hE, rfl, q⟩, s2⟩
  · rw [show (Option.map Item.code r.pending).toList ++ k = .code .ret :: k by rw [e1]; rfl] at s2
    exact ⟨.ret, _, _, ⟨_, hE, rfl, q⟩, k, s2⟩
end
theorem inBlk_normal {id : Nat} {Q : Exit → Env → World → Prop} {ρ : Env} {w : World} (h : Q .normal ρ w) : inBlk id Q .normal ρ w := h
theorem inBlk_ret {id : Nat} {Q : Exit → Env → World → Prop} {ρ : Env} {w : World} (h : Q .ret ρ w) : inBlk id Q .ret ρ w := h
theorem thn_ret {K : Env → World → Prop} {Q : Exit → Env → World → Prop} {ρ : Env} {w : World} (h : Q .ret ρ w) : thn K Q .ret ρ w := h
def propC (p : Prop) : Chunk := ⟨fun _ => False, fun _ => p⟩
theorem Mem.addProp {F X : Nat → Prop} {w w0 : World} {L : List Chunk} {R : List (World → Prop)} {p : Prop} (M : Mem F X w0 L R w) (h : p) : Mem F X w0 (propC p :: L) R w :=
  M.own (Mod.refl _ _) ⟨fun _ h => h.elim, fun _ _ => h⟩ fun _ h => h.elim
def badC : Chunk := ⟨fun _ => False, fun _ => False⟩
theorem Sh.self {F : Nat → Prop} {r : World → Prop} {w : World} (h : Sh F r w) : Sh F (fun w => Sh (fun _ => True) r w) w := by
  obtain ⟨G, h1, h2, h3⟩ := h
  refine ⟨G, h1, h2, fun w' hw => ⟨G, fun _ _ => trivial, fun b hb => ?_, fun w'' hw'' => h3 w'' fun b hb => (hw'' b hb).trans (hw b hb)⟩⟩
  have e := hw b hb
  rw [Array.getElem?_eq_getElem (h2 b hb)] at e
  exact (Array.getElem?_eq_some_iff.1 e).1
end Tp
namespace Tp
open Go
theorem vTake_eq {i n cap : Nat} {a : Option Addr} : vTake i (.slice a n cap) = .slice a i cap := rfl
theorem vSlice_cap {size l h n cap g o : Nat} : vSlice size l h (vCap (.slice (some ⟨g, o, none⟩) n cap)) (.slice (some ⟨g, o, none⟩) n cap) = .slice (if cap = l then some ⟨g, o, none⟩ else some ⟨g, o + l * size, none⟩) (h - l) (cap - l) := by
  simp [vSlice, vCap, addr_add_none]
theorem mem_zeroCells {zs : Array Value} {m : Nat} {u : Value} (h : u ∈ (Builtin.zeroCells zs m).toList) : u ∈ zs.toList := by
  unfold Builtin.zeroCells at h
  simp only [Array.toList_map, List.mem_map, Array.mem_toList_iff, Array.mem_range] at h
  obtain ⟨i, hi, rfl⟩ := h
  have hs : 0 < zs.size := by
    rcases Nat.eq_zero_or_pos zs.size with h0 | h0
    · rw [h0] at hi; simp at hi
    · exact h0
  have hlt := Nat.mod_lt i hs
  rw [getElem!_pos zs _ hlt]
  simp
section
variable {P : Program} {w : World} {t ty e : TypeId} {z : Value} {size bytes n : Nat} {v : Value} {cs : List Value}
theorem append_cut_run (ht : Und P t (.slice e)) (he : Elem P e z size bytes) (hown : w.ownsRow 0 e size v n cs) {a b : Nat} (hab : a ≤ b) (hb : b ≤ n) (hn : 0 < n) (h1 : ∀ u, u ∈ cs → u.oneCell' = true) :
    ∃ w', (Builtin.append_ #[t, t] ty #[vTake a v, vSlice size b n (vCap v) v]).run P w = .ok (vTake (a + (n - b)) v) w' ∧ w'.ownsRow 0 e size (vTake (a + (n - b)) v) (a + (n - b)) (cs.take (a * size) ++ cs.drop (b * size)) ∧ Mod (fun x => v.ownBlock = some x) w w' := by
  obtain ⟨i, hi, hz, hs, hby⟩ := he
  subst hs
  have hsl := own_slAt hown
  rcases hown.2 with ⟨_, rfl⟩ | ⟨g, cap, cur, rfl, h0, hg, hnc, hcm, hcs, htake⟩
  · omega
  have hlen := hown.1
  have e1 : b * i.size + (n - b) * i.size = n * i.size := by rw [← Nat.add_mul]; congr 1; omega
  have e2 : a * i.size ≤ b * i.size := Nat.mul_le_mul_right _ hab
  have e3 : n * i.size ≤ cap * i.size := Nat.mul_le_mul_right _ hnc
  have e4 : (a + (n - b)) * i.size = a * i.size + (n - b) * i.size := Nat.add_mul ..
  have hnews : (cs.drop (b * i.size)).length = (n - b) * i.size := by rw [List.length_drop, hlen]; omega
  have hread : ∀ (ad : Addr), ((n - b = 0) ∨ ad = ⟨g, b * i.size, none⟩) → ∀ j u, (cs.drop (b * i.size))[j]? = some u → w.cell? (ad.add j) = some u := by
    intro ad had j u hu
    have hj := (List.getElem?_eq_some_iff.1 hu).1
    rw [hnews] at hj
    rcases had with h0 | rfl
    · rw [h0] at hj; simp at hj
    · rw [addr_add_none, cell_blk hg, ← Array.getElem?_toList]
      rw [List.getElem?_drop] at hu
      rw [← htake, List.getElem?_take, if_pos (by omega)] at hu
      exact hu
  have hrun : ∀ ad : Addr, ((n - b = 0) ∨ ad = ⟨g, b * i.size, none⟩) → (Builtin.append_ #[t, t] ty #[.slice (some ⟨g, 0, none⟩) a cap, .slice (some ad) (n - b) (cap - b)]).run P w =
      .ok (.slice (some ⟨g, 0, none⟩) (a + (n - b)) cap) (w.setRow g (cur.toList.take (a * i.size) ++ cs.drop (b * i.size) ++ cur.toList.drop (a * i.size + (cs.drop (b * i.size)).length)).toArray) := fun ad had =>
    run_append_room (P := P) w t ty e i ht hi g a cap cur hg ad (n - b) (cap - b) (cs.drop (b * i.size)) hnews (hread ad had) (fun u hu => h1 u (List.mem_of_mem_drop hu)) (by omega) (by rw [hnews, hcs]; omega)
  obtain ⟨row, hrow⟩ : ∃ row : Array Value, row = (cur.toList.take (a * i.size) ++ cs.drop (b * i.size) ++ cur.toList.drop (a * i.size + (cs.drop (b * i.size)).length)).toArray := ⟨_, rfl⟩
  rw [← hrow] at hrun
  refine ⟨w.setRow g row, ?_, ⟨?_, .inr ⟨g, cap, row, rfl, Nat.zero_le _, setRow_heap w g cur row e _ hg, by omega, hcm, ?_, ?_⟩⟩, ⟨rfl, rfl, rfl, by simp, fun k _ hk => setRow_other w g k row (fun e => hk (by simp [Value.ownBlock, e])), Nat.le_refl _⟩⟩
  · rw [vSlice_cap]
    simp only [vTake_eq]
    by_cases ec : cap = b
    · rw [if_pos ec]; exact hrun _ (.inl (by omega))
    · rw [if_neg ec, Nat.zero_add]; exact hrun _ (.inr rfl)
  · rw [List.length_append, List.length_take, hnews, hlen, Nat.min_eq_left (by omega), e4]
  · rw [hrow]
    simp only [List.size_toArray, List.length_append, List.length_take, List.length_drop, Array.length_toList]
    rw [hlen, hcs]
    omega
  · have hta : cs.take (a * i.size) = cur.toList.take (a * i.size) := by rw [← htake, List.take_take, Nat.min_eq_left (by omega)]
    rw [hta]
    have hl2 : (cur.toList.take (a * i.size) ++ cs.drop (b * i.size)).length = (a + (n - b)) * i.size := by
      rw [List.length_append, List.length_take, hnews, Array.length_toList, hcs, Nat.min_eq_left (by omega), e4]
    rw [hrow, ← hl2]
    exact List.take_left
theorem clear_run (ht : Und P t (.slice e)) (he : Elem P e z size bytes) (hzs : z.cells.size = size) (hc : Step.Cellish z.cells.toList) {g o m c : Nat} {cur : Array Value} (hg : w.heap[g]? = some (.cells cur e (0, 0))) (hfit : o + m * size ≤ cur.size) :
    ∃ (zs : List Value) (w' : World), zs.length = m * size ∧ (Builtin.clear_ #[t] ty #[.slice (some ⟨g, o, none⟩) m c]).run P w = .ok (.tuple #[]) w' ∧ w' = World.blkSet w g (.cells (Step.put cur o zs) e) := by
  refine ⟨(Builtin.zeroCells z.cells m).toList, _, by rw [Array.length_toList, size_zeroCells, hzs], ?_, rfl⟩
  have hst := Step.storeCells_run (P := P) (b := g) (o := o) (e := e) (Builtin.zeroCells z.cells m).toList 0 cur w hg (by rw [Array.length_toList, size_zeroCells, hzs]; omega) (fun u hu => hc u (mem_zeroCells hu))
  rw [Nat.add_zero] at hst
  cases m with
  | zero =>
    have e0 : Builtin.zeroCells z.cells 0 = #[] := by
      apply Array.eq_empty_of_size_eq_zero; rw [size_zeroCells]; simp
    rw [e0] at hst ⊢
    simp only [Builtin.clear_, ht.run, Sem.run_bind, Result.andThen_ok, Sem.run_pure]
    have hw : World.blkSet w g (.cells (Step.put cur o ([] : List Value)) e) = w := by
      have := hst
      simp [storeCells] at this
      exact this.symm
    simp only [Array.toList_empty] at *
    first
      | (simp [Builtin.clear_, ht.run, hw]; done)
      | (rw [hw]; simp [Builtin.clear_, ht.run])
  | succ m =>
    simp [Builtin.clear_, ht.run, he.zero w, hst]
theorem put_other (c : Array Value) (o : Nat) (l : List Value) {k : Nat} (hk : k < o ∨ o + l.length ≤ k) : (Step.put c o l)[k]? = c[k]? := by
  induction l generalizing c o with
  | nil => rfl
  | cons v l ih =>
    rw [Step.put, ih _ _ (by simp at hk; omega), Array.getElem?_setIfInBounds_ne (by simp at hk; omega)]
theorem own_clear (ht : Und P t (.slice e)) (he : Elem P e z size bytes) (hzs : z.cells.size = size) (hc : Step.Cellish z.cells.toList) (hown : w.ownsRow 0 e size v n cs) {l h m : Nat} (hlh : l ≤ h) (hm : h ≤ vCap v) (hn : 0 < vCap v ∨ l < h) (hv : 0 < n ∨ v ≠ .slice none 0 0) (k : Nat) (hkn : k ≤ n) (hkl : k ≤ l) :
    ∃ w', (Builtin.clear_ #[t] ty #[vSlice size l h (vCap v) v]).run P w = .ok (.tuple #[]) w' ∧ w'.ownsRow 0 e size (vTake k v) k (cs.take (k * size)) ∧ Mod (fun x => v.ownBlock = some x) w w' := by
  rcases hown.2 with ⟨h1, rfl⟩ | ⟨g, cap, cur, rfl, h0, hg, hnc, hcm, hcs, htake⟩
  · rcases hv with hv | hv
    · omega
    · exact absurd h1 hv
  have hlen := hown.1
  have hcap : h ≤ cap := hm
  have e0 : l * size + (h - l) * size = h * size := by rw [← Nat.add_mul]; congr 1; omega
  have e1 : h * size ≤ cap * size := Nat.mul_le_mul_right _ hcap
  have e2 : k * size ≤ l * size := Nat.mul_le_mul_right _ hkl
  have e3 : k * size ≤ n * size := Nat.mul_le_mul_right _ hkn
  have e4 : n * size ≤ cap * size := Nat.mul_le_mul_right _ hnc
  have key : ∀ o, (h - l = 0 ∨ o = l * size) → ∃ w', (Builtin.clear_ #[t] ty #[.slice (some ⟨g, o, none⟩) (h - l) (cap - l)]).run P w = .ok (.tuple #[]) w' ∧ w'.ownsRow 0 e size (.slice (some ⟨g, 0, none⟩) k cap) k (cs.take (k * size)) ∧ Mod (fun x => (Value.slice (some ⟨g, 0, none⟩) n cap).ownBlock = some x) w w' := by
    intro o ho
    by_cases hz0 : h - l = 0
    · refine ⟨w, ?_, ⟨by rw [List.length_take, hlen]; omega, .inr ⟨g, cap, cur, rfl, Nat.zero_le _, hg, by omega, hcm, hcs, by rw [← htake, List.take_take, Nat.min_eq_left e3]⟩⟩, Mod.refl _ _⟩
      rw [hz0]; simp [Builtin.clear_, ht.run]
    · obtain rfl : o = l * size := ho.resolve_left hz0
      obtain ⟨zs, w', hzl, hr, rfl⟩ := clear_run (P := P) (ty := ty) ht he hzs hc (m := h - l) (c := cap - l) (o := l * size) hg (by rw [hcs]; omega)
      refine ⟨_, hr, ⟨by rw [List.length_take, hlen]; omega, .inr ⟨g, cap, _, rfl, Nat.zero_le _, blkSet_at _ (lt_of_blk hg), by omega, hcm, by rw [Step.put_size]; exact hcs, ?_⟩⟩, (blkSet_mod w g _).mono fun x _ hx => by simp [Value.ownBlock]; exact hx.symm⟩
      rw [← htake, List.take_take, Nat.min_eq_left e3]
      apply List.ext_getElem?
      intro j
      rw [List.getElem?_take, List.getElem?_take]
      split
      · rw [Array.getElem?_toList, Array.getElem?_toList, put_other _ _ _ (.inl (by omega))]
      · rfl
  rw [vSlice_cap]
  simp only [vTake_eq]
  by_cases ec : cap = l
  · rw [if_pos ec]; exact key 0 (.inl (by omega))
  · rw [if_neg ec, Nat.zero_add]; exact key _ (.inr rfl)
end
section
variable {P : Program} {F X : Nat → Prop} {w w0 : World} {L : List Chunk} {R : List (World → Prop)} {ρ : Env} {d : Option Nat} {pos : String} {aft : Array Edge} {g : Option (Nat × Bool)} {t ty e : TypeId} {z : Value} {size bytes : Nat} {x y : Operand} {v : Value} {n : Nat} {cs : List Value}
theorem Mem.appendCut {a b : Nat} (M : Mem F X w0 L R w) (i : Nat) (hi : L[i]? = some (Tp.own e size v n cs)) (ht : Und P t (.slice e)) (he : Elem P e z size bytes) (hx : ρ.ev x = vTake a v) (hy : ρ.ev y = vSlice size b n (vCap v) v)
    (hab : a ≤ b) (hb : b ≤ n) (hn : 0 < n) (h1 : ∀ u, u ∈ cs → u.oneCell' = true) :
    ∃ w', Step P (.call { callee := .builtin .append, args := #[x, y], argTypes := #[t, t] }) ty ρ w (vTake (a + (n - b)) v) w' ∧ Mem F X w0 (L.set i (Tp.own e size (vTake (a + (n - b)) v) (a + (n - b)) (cs.take (a * size) ++ cs.drop (b * size)))) R w' ∧ Mod (Tp.own e size v n cs).foot w w' := by
  obtain ⟨w', hr, h2, h3⟩ := append_cut_run (ty := ty) ht he (M.chunk i hi).inv hab hb hn h1
  refine ⟨w', fun d pos aft g => .inl ?_, M.turn i hi h3 (own_ok h2) fun b hb => .inl ?_, h3⟩
  · simp only [execOp, resolve, invoke, builtin, Sem.run_bind, Sem.run_pure, Result.andThen_ok, List.map_toArray, List.map_cons, List.map_nil, hx, hy, hr]
  · obtain ⟨ad, cap, rfl⟩ := (own_slAt (M.chunk i hi).inv).value
    cases ad <;> first | (simpa [Tp.own, vTake, Value.ownBlock] using hb) | (simp [Tp.own, vTake, Value.ownBlock] at hb)
theorem Mem.clearKeep {l h k : Nat} (M : Mem F X w0 L R w) (i : Nat) (hi : L[i]? = some (Tp.own e size v n cs)) (ht : Und P t (.slice e)) (he : Elem P e z size bytes) (hzs : z.cells.size = size) (hc : Step.Cellish z.cells.toList)
    (hx : ρ.ev x = vSlice size l h (vCap v) v) (hlh : l ≤ h) (hm : h ≤ vCap v) (hn : 0 < vCap v) (hv : v ≠ .slice none 0 0) (hkn : k ≤ n) (hkl : k ≤ l) :
    ∃ w', Step P (.call { callee := .builtin .clear, args := #[x], argTypes := #[t] }) ty ρ w undef w' ∧ Mem F X w0 (L.set i (Tp.own e size (vTake k v) k (cs.take (k * size)))) R w' ∧ Mod (Tp.own e size v n cs).foot w w' := by
  obtain ⟨w', hr, h2, h3⟩ := own_clear (ty := ty) (m := 0) ht he hzs hc (M.chunk i hi).inv hlh hm (.inl hn) (.inr hv) k hkn hkl
  refine ⟨w', fun d pos aft g => .inl ?_, M.turn i hi h3 (own_ok h2) fun b hb => .inl ?_, h3⟩
  · simp only [execOp, resolve, invoke, builtin, Sem.run_bind, Sem.run_pure, Result.andThen_ok, List.map_toArray, List.map_cons, List.map_nil, hx, hr]
    rfl
  · obtain ⟨ad, cap, rfl⟩ := (own_slAt (M.chunk i hi).inv).value
    cases ad <;> first | (simpa [Tp.own, vTake, Value.ownBlock] using hb) | (simp [Tp.own, vTake, Value.ownBlock] at hb)
end
section
variable {P : Program} {ops : Array Oper} {ld mk : List Nat} {Q : Env → World → Prop} {i : Nat} {d : Option Nat} {op : Op} {ty : TypeId} {pos : String} {aft : Array Edge} {g : Option (Nat × Bool)}
  {rest : List Nat} {ρ : Env} {F X : Nat → Prop} {w0 : World} {Lp L : List Chunk} {Rp R : List (World → Prop)}
end
def Shp (v : Value) (n : Nat) : Prop := ∃ a, v = .slice a n (vCap v) ∧ n ≤ vCap v ∧ vCap v ≤ maxLen
theorem SlAt.shp {size n : Nat} {v : Value} {cs : List Value} {w : World} (h : SlAt size v n cs w) : Shp v n := by
  rcases h with ⟨⟨a, rfl⟩, rfl, _⟩ | ⟨b, o, cap, _, _, _, rfl, h, h', _⟩
  · exact ⟨a, rfl, Nat.le_refl _, Nat.zero_le _⟩
  · exact ⟨_, rfl, h, h'⟩
theorem Shp.take {v : Value} {n k : Nat} (h : Shp v n) (hk : k ≤ vCap v) : Shp (vTake k v) k := by
  obtain ⟨a, e, _, h3⟩ := h
  rw [e] at hk h3 ⊢
  exact ⟨a, rfl, hk, h3⟩
theorem Shp.cap {v : Value} {n k : Nat} (h : Shp v n) : vCap (vTake k v) = vCap v := by
  obtain ⟨a, e, _⟩ := h
  rw [e]; rfl
theorem Shp.isSl {v : Value} {n : Nat} (h : Shp v n) : IsSl v := let ⟨a, e, _⟩ := h; ⟨a, n, _, e⟩
theorem Shp.self {v : Value} {n : Nat} (h : Shp v n) : vTake n v = v := by
  obtain ⟨a, e, _⟩ := h
  rw [e]; rfl
theorem Shp.ne {v : Value} {n : Nat} (h : Shp v n) (hn : 0 < vCap v) : v ≠ .slice none 0 0 := fun e => by rw [e] at hn; simp [vCap] at hn
namespace Step
variable {P : Program} {ρ : Env} {w : World} {ty t e : TypeId} {x a b c : Operand} {v : Value} {size n l h m : Nat} {k k' k'' : IntKind} {z z' z'' : Int}
theorem sliceToP (ht : Und P t (.slice e)) (hs : Sized P e size) (hx : ρ.ev x = v) (hj : ρ.ev b = .int k' z') (hz' : z' = (h : Int)) (hv : Shp v n) (hc : h ≤ vCap v) : Step P (.slice t x none (some b) none) ty ρ w (vTake h v) w := by
  obtain ⟨ad, e, _⟩ := hv
  have := sliceH (ty := ty) (w := w) ht hs hx hj hz' e hc
  rw [e] at this ⊢
  exact this
theorem sliceFromP (ht : Und P t (.slice e)) (hs : Sized P e size) (hx : ρ.ev x = v) (hi : ρ.ev a = .int k z) (hz : z = (l : Int)) (hv : Shp v n) (hle : l ≤ n) : Step P (.slice t x (some a) none none) ty ρ w (vSlice size l n (vCap v) v) w := by
  obtain ⟨ad, e, _⟩ := hv
  exact sliceFrom ht hs hx hi hz e hle
theorem sliceLHP (ht : Und P t (.slice e)) (hs : Sized P e size) (hx : ρ.ev x = v) (hi : ρ.ev a = .int k z) (hz : z = (l : Int)) (hj : ρ.ev b = .int k' z') (hz' : z' = (h : Int)) (hv : Shp v n) (hle : l ≤ h) (hc : h ≤ vCap v) :
    Step P (.slice t x (some a) (some b) none) ty ρ w (vSlice size l h (vCap v) v) w := by
  obtain ⟨ad, e, _⟩ := hv
  exact sliceLH ht hs hx hi hz hj hz' e hle hc
theorem slice4P (ht : Und P t (.slice e)) (hs : Sized P e size) (hx : ρ.ev x = v) (hi : ρ.ev a = .int k z) (hz : z = (l : Int)) (hj : ρ.ev b = .int k' z') (hz' : z' = (h : Int)) (hm : ρ.ev c = .int k'' z'') (hz'' : z'' = (m : Int)) (hv : Shp v n) (hle : l ≤ h) (hlm : h ≤ m) (hc : m ≤ vCap v) :
    Step P (.slice t x (some a) (some b) (some c)) ty ρ w (vSlice size l h m v) w := by
  obtain ⟨ad, e, _⟩ := hv
  intro d pos aft g
  left
  subst hz; subst hz'; subst hz''
  generalize vCap v = cap at e hc
  subst e
  have h1 : (0 : Int) ≤ l ∧ (l : Int) ≤ h := ⟨by omega, by omega⟩
  have h2 : (0 : Int) ≤ h ∧ (h : Int) ≤ m := ⟨by omega, by omega⟩
  have h3 : (0 : Int) ≤ m ∧ (m : Int) ≤ cap := ⟨by omega, by omega⟩
  have h4 : ¬ (cap < m) := by omega
  have h5 : ¬ (m < h) := by omega
  have h6 : ¬ (h < l) := by omega
  simp [execOp, Instr.sliceAt, Instr.slice, hx, hi, hj, hm, ht.run, Instr.sliceBounds, Instr.sliceBound, asIntOf, hs w, h1, h2, h3, h4, h5, h6, vSlice, hle, hlm, hc]
  try rfl
theorem lenP {t e : TypeId} {x : Operand} (ht : Und P t (.slice e)) (hx : ρ.ev x = v) (hv : Shp v n) : Step P (.call { callee := .builtin .len, args := #[x], argTypes := #[t] }) ty ρ w (.int .i64 n) w :=
  let ⟨_, e, _⟩ := hv; lenS ht hx e
end Step
section
variable {α : Type} {enc : α → List Value} {P : Program} {F X : Nat → Prop} {w w0 : World} {L : List Chunk} {R : List (World → Prop)} {ρ : Env} {t ty e : TypeId} {z : Value} {size bytes : Nat} {x y : Operand} {v : Value} {xs : List α}
theorem Mem.appendCutF (he : ∀ x, (enc x).length = size) {a b : Nat} (M : Mem F X w0 L R w) (i : Nat) (hi : L[i]? = some (Tp.own e size v xs.length (xs.flatMap enc))) (ht : Und P t (.slice e)) (hel : Elem P e z size bytes) (hx : ρ.ev x = vTake a v) (hy : ρ.ev y = vSlice size b xs.length (vCap v) v)
    (hab : a ≤ b) (hb : b ≤ xs.length) (hn : 0 < xs.length) (h1 : ∀ x, Step.Cellish (enc x)) :
    ∃ w', Step P (.call { callee := .builtin .append, args := #[x, y], argTypes := #[t, t] }) ty ρ w (vTake (a + (xs.length - b)) v) w' ∧ Mem F X w0 (L.set i (Tp.own e size (vTake (a + (xs.length - b)) v) (xs.take a ++ xs.drop b).length ((xs.take a ++ xs.drop b).flatMap enc))) R w' ∧ Mod (Tp.own e size v xs.length (xs.flatMap enc)).foot w w' := by
  obtain ⟨w', h2, h3, h4⟩ := M.appendCut (ty := ty) i hi ht hel hx hy hab hb hn (cel_flatMap h1 xs).one
  refine ⟨w', h2, ?_, h4⟩
  rw [take_flatMap he, drop_flatMap he, ← List.flatMap_append] at h3
  have : (xs.take a ++ xs.drop b).length = a + (xs.length - b) := by simp; omega
  rw [this]; exact h3
theorem Mem.clearTailF (he : ∀ x, (enc x).length = size) {l h : Nat} (M : Mem F X w0 L R w) (i : Nat) (hi : L[i]? = some (Tp.own e size v xs.length (xs.flatMap enc))) (ht : Und P t (.slice e)) (hel : Elem P e z size bytes) (hzs : z.cells.size = size) (hc : Step.Cellish z.cells.toList)
    (hx : ρ.ev x = vSlice size l h (vCap v) v) (hlh : l ≤ h) (hm : h ≤ vCap v) (hn : 0 < vCap v) (hkl : xs.length ≤ l) :
    ∃ w', Step P (.call { callee := .builtin .clear, args := #[x], argTypes := #[t] }) ty ρ w undef w' ∧ Mem F X w0 (L.set i (Tp.own e size v xs.length (xs.flatMap enc))) R w' ∧ Mod (Tp.own e size v xs.length (xs.flatMap enc)).foot w w' := by
  have hs := (own_slAt (M.chunk i hi).inv).shp
  obtain ⟨w', h2, h3, h4⟩ := M.clearKeep (ty := ty) (k := xs.length) i hi ht hel hzs hc hx hlh hm hn (hs.ne hn) (Nat.le_refl _) hkl
  refine ⟨w', h2, ?_, h4⟩
  rw [hs.self, ← length_flatMap he, List.take_length] at h3
  exact h3
end
section
variable {α : Type} {p : α → Bool} {xs : List α} {i : Nat} {x : α}
theorem below_stepG (hb : ∀ j u, j < i → xs[j]? = some u → p u = false) (hi : xs[i]? = some x) (hp : p x = false) : ∀ j u, j < i + 1 → xs[j]? = some u → p u = false := fun j u hj hu => by
  rcases Nat.lt_or_ge j i with h | h
  · exact hb j u h hu
  · have : j = i := by omega
    subst this; rw [hi] at hu; cases hu; exact hp
end
end Tp
namespace Tp
open Go
theorem Mem.law0 {W : World} {R : List (World → Prop)} (h : Facts (fun _ => True) W R) : Mem (fun _ => True) (fun _ => False) W [] R W := Mem.start W h.all
end Tp
namespace Tp
open Go
theorem Step.outer {P : Program} {ρ : Env} {w w' : World} {ty : TypeId} {c : Array Operand} {ts : Array TypeId} {f : FuncId} {args : List Value} {v : Value} (ha : c.toList.map ρ.ev = args) (h : (callFunc f args.toArray).run P w = .ok (.value v) w') :
    Step P (.call { callee := .value (.func f), args := c, argTypes := ts }) ty ρ w v w' := by
  intro d pos aft g
  left
  have hc : c.map ρ.ev = args.toArray := Array.ext' (by rw [Array.toList_map, ha])
  simp only [execOp, resolve, Env.ev, Deferred.ofValue, invoke, hc, Sem.run_bind, Sem.run_pure, Result.andThen_ok, Array.append_empty, Array.empty_append, h]
theorem Step.capS {P : Program} {ρ : Env} {w : World} {ty t e : TypeId} {x : Operand} {v : Value} {n : Nat} (ht : Und P t (.slice e)) (hx : ρ.ev x = v) (hv : Shp v n) :
    Step P (.call { callee := .builtin .cap, args := #[x], argTypes := #[t] }) ty ρ w (.int .i64 (vCap v)) w := by
  obtain ⟨a, e, _⟩ := hv
  intro d pos aft g
  left
  generalize vCap v = c at e
  subst e
  simp [execOp, resolve, invoke, builtin, hx, Builtin.cap_, ht.run]
  rfl
section
variable {P : Program} {w : World} {t tn ty e : TypeId} {z : Value} {size bytes n : Nat} {v : Value} {cs : List Value}
theorem copy_run (ht : Und P t (.slice e)) (hs : Sized P e size) {b off dl dc : Nat} {c : Array Value} {e' : TypeId} {a : Addr} {m mc kk : Nat} {cl : List Value} (hb : w.heap[b]? = some (.cells c e')) (hcl : cl.length = kk * size) (hm : Nat.min m dl = kk)
    (hsrc : ∀ j u, cl[j]? = some u → w.cell? (a.add j) = some u) (hfit : off + cl.length ≤ c.size) (h1 : Step.Cellish cl) :
    (Builtin.copy_ #[t, t] ty #[.slice (some ⟨b, off, none⟩) dl dc, .slice (some a) m mc]).run P w = .ok (goInt kk) (World.blkSet w b (.cells (Step.put c off cl) e')) := by
  have hl := run_loadCells_list (P := P) w a cl hsrc
  rw [hcl] at hl
  have hst := Step.storeCells_run (P := P) (o := off) cl 0 c w hb (by omega) h1
  simp only [Nat.add_zero] at hst
  simp [Builtin.copy_, ht.run, Builtin.lenOf, Builtin.firstCells, hs w, hm, hl, hst]
theorem append_zeros_run {kn : IntKind} (ht : Und P t (.slice e)) (htn : Und P tn (.int kn)) (he : Elem P e z size bytes) (hzs : z.cells.size = size) (hsz : 0 < size) (hown : w.ownsRow 0 e size v n cs) (hn : 0 < n) {i k : Nat} {kq : IntKind} (hin : i ≤ n) (hk : 0 < k) (hg : vCap v < i + k)
    (hik : i + k ≤ maxLen) (hb : (i + k) * bytes ≤ 140737488355328) :
    ∃ v' w' junk, (Builtin.append_ #[t, tn] ty #[vTake i v, .int kq k]).run P w = .ok v' w' ∧ w'.ownsRow 0 e size v' (i + k) (cs.take (i * size) ++ junk) ∧ junk.length = k * size ∧ Old w w' ∧ ∀ b, v'.ownBlock = some b → w.heap.size ≤ b := by
  obtain ⟨inf, hi, hz, hs, hby⟩ := he
  subst hs
  subst hby
  rcases hown.2 with ⟨_, rfl⟩ | ⟨g, cap, cur, rfl, h0, hgb, hnc, hcm, hcs, htake⟩
  · omega
  simp only [vCap] at hg
  have e1 : i * inf.size ≤ n * inf.size := Nat.mul_le_mul_right _ hin
  have e2 : n * inf.size ≤ cap * inf.size := Nat.mul_le_mul_right _ hnc
  have hol : (cs.take (i * inf.size)).length = i * inf.size := by rw [List.length_take, hown.1]; omega
  have hold : (Builtin.firstCells inf.size i (.slice (some ⟨g, 0, none⟩) i cap)).run P w.drew = .ok (cs.take (i * inf.size)).toArray w.drew := by
    have := run_loadCells_list (P := P) w.drew ⟨g, 0, none⟩ (cs.take (i * inf.size)) (fun j u hu => by
      have hj := (List.getElem?_eq_some_iff.1 hu).1
      rw [hol] at hj
      rw [addr_add_none]
      show w.cell? ⟨g, 0 + j, none⟩ = some u
      rw [cell_blk hgb, ← Array.getElem?_toList]
      rw [List.getElem?_take, if_pos hj, ← htake, List.getElem?_take, if_pos (by omega)] at hu
      rw [Nat.zero_add]; exact hu)
    rw [hol] at this
    simpa [Builtin.firstCells] using this
  have hsm : i + k ≤ 9223372036854775807 := by simp only [maxLen] at hik; omega
  have hkb : k * inf.bytes ≤ (i + k) * inf.bytes := Nat.mul_le_mul_right _ (by omega)
  have hr := Go.Lib.run_append_grow_zeros (P := P) w t tn ty e inf z kq kn ht htn hi hz (some ⟨g, 0, none⟩) i cap (cs.take (i * inf.size)) hold k hk hsz hg (by omega) (by omega) (growslice_fits (by omega) hb)
  have hge := grownCap_ge w (i + k) cap e
  have hcm' : grownCap w (i + k) cap e ≤ maxLen := grownCap_le_maxLen w (i + k) cap e hik
  have hjl : (Builtin.zeroCells z.cells k).toList.length = k * inf.size := by rw [Array.length_toList, size_zeroCells, hzs]
  refine ⟨_, _, (Builtin.zeroCells z.cells k).toList, hr, ⟨?_, .inr ⟨w.heap.size, _, _, rfl, Nat.zero_le _, heap_alloc_new w.drew _, hge, hcm', ?_, ?_⟩⟩, hjl, ⟨rfl, rfl, rfl, by simp, fun b hb _ => heap_alloc_old w.drew _ hb, Nat.le_succ _⟩, fun b hb => by simp [Value.ownBlock] at hb; omega⟩
  · rw [List.length_append, hol, hjl, Nat.add_mul]
  · simp only [Array.size_append, List.size_toArray, size_zeroCells, hzs, hol, ← Nat.add_mul]
    congr 1
    omega
  · simp only [Array.toList_append]
    have : (i + k) * inf.size = (cs.take (i * inf.size) ++ (Builtin.zeroCells z.cells k).toList).length := by rw [List.length_append, hol, hjl, Nat.add_mul]
    rw [this]
    exact List.take_left
end
theorem celF {α : Type} {enc : α → List Value} (h : ∀ x, Step.Cellish (enc x)) (xs : List α) : Step.Cellish (xs.flatMap enc) := by
  intro u hu
  obtain ⟨a, _, hu⟩ := List.mem_flatMap.1 hu
  exact h a u hu
def insL {α : Type} (xs : List α) (i : Nat) (x : α) : List α := xs.take i ++ x :: xs.drop i
theorem insL_len {α : Type} (xs : List α) {i : Nat} (h : i ≤ xs.length) (x : α) : (insL xs i x).length = xs.length + 1 := by simp [insL]; omega
theorem insL_end {α : Type} (xs : List α) (x : α) : insL xs xs.length x = xs ++ [x] := by simp [insL]
section
variable {α : Type} {enc : α → List Value} {size : Nat} (he : ∀ x, (enc x).length = size)
include he
theorem ins_grow {xs : List α} {i : Nat} (hi : i ≤ xs.length) (x : α) {junk : List Value} (hj : junk.length = (xs.length + 1 - i) * size) :
    splice (splice ((xs.flatMap enc).take (i * size) ++ junk) (i * size) (enc x)) ((i + 1) * size) ((xs.drop i).flatMap enc) = (insL xs i x).flatMap enc := by
  have h1 : ((xs.flatMap enc).take (i * size)).length = i * size := by
    rw [List.length_take, length_flatMap he]
    have : i * size ≤ xs.length * size := Nat.mul_le_mul_right _ hi
    omega
  have h2 : (xs.length + 1 - i) * size = size + (xs.length - i) * size := by
    rw [show xs.length + 1 - i = 1 + (xs.length - i) by omega, Nat.add_mul, Nat.one_mul]
  have h3 : ((xs.drop i).flatMap enc).length = (xs.length - i) * size := by rw [length_flatMap he, List.length_drop]
  have h4 : (enc x).length = size := he x
  have e1 : splice ((xs.flatMap enc).take (i * size) ++ junk) (i * size) (enc x) = (xs.flatMap enc).take (i * size) ++ enc x ++ junk.drop size := by
    simp only [splice]
    rw [h4]
    have a1 : ((xs.flatMap enc).take (i * size) ++ junk).take (i * size) = (xs.flatMap enc).take (i * size) := List.take_left' h1
    have a2 : ((xs.flatMap enc).take (i * size) ++ junk).drop (i * size + size) = junk.drop size := by
      rw [← List.drop_drop, List.drop_left' h1]
    rw [a1, a2]
  rw [e1]
  have h5 : ((xs.flatMap enc).take (i * size) ++ enc x).length = (i + 1) * size := by rw [List.length_append, h1, h4, Nat.add_mul, Nat.one_mul]
  simp only [splice]
  have hjd : (junk.drop size).drop ((xs.length - i) * size) = [] := by rw [List.drop_drop]; exact List.drop_of_length_le (by rw [hj, h2]; omega)
  rw [List.take_left' h5, h3, ← List.drop_drop, List.drop_left' h5, hjd, List.append_nil, take_flatMap he]
  simp [insL]
theorem ins_room {xs : List α} {i : Nat} (hi : i < xs.length) (x : α) : (xs.take (i + 1) ++ xs.drop i).set i x = insL xs i x := by
  have h1 : (xs.take i).length = i := by rw [List.length_take]; omega
  have h2 : xs.take (i + 1) = xs.take i ++ [xs[i]] := List.take_succ_eq_append_getElem hi
  rw [h2, List.append_assoc, List.set_append_right _ _ (by omega), h1]
  simp [insL]
end
namespace Mem
variable {P : Program} {F X : Nat → Prop} {w w0 : World} {L : List Chunk} {R : List (World → Prop)} {ρ : Env} {d : Option Nat} {pos : String} {aft : Array Edge} {g : Option (Nat × Bool)} {t tn ty e : TypeId} {z : Value} {size bytes : Nat} {x y : Operand} {v : Value} {n : Nat} {cs : List Value}
theorem copyRow {l m h : Nat} {sv : Value} {news : List Value} (M : Mem F X w0 L R w) (i : Nat) (hi : L[i]? = some (Tp.own e size v n cs)) (ht : Und P t (.slice e)) (hs : Sized P e size) (hx : ρ.ev x = vSlice size l h (vCap v) v) (hh : h = n) (hy : ρ.ev y = sv)
    (hsrc : SlAt size sv m news w) (hm : 0 < m) (hl : l + m ≤ n) (h1 : Step.Cellish news) :
    ∃ w', Step P (.call { callee := .builtin .copy, args := #[x, y], argTypes := #[t, t] }) ty ρ w (goInt m) w' ∧ Mem F X w0 (L.set i (Tp.own e size v n (splice cs (l * size) news))) R w' ∧ Mod (Tp.own e size v n cs).foot w w' := by
  rw [hh] at hx
  have hown := (M.chunk i hi).inv
  have hnl := hsrc.len
  have e0 : l * size + m * size ≤ n * size := by rw [← Nat.add_mul]; exact Nat.mul_le_mul_right _ hl
  obtain ⟨cur, b1, b2, b3, b4, b5⟩ := own_store (new := news) (o := l * size) hown (by omega) (by omega)
  rcases hown.2 with ⟨_, rfl⟩ | ⟨gb, cap, cur', rfl, h0, hg, hnc, hcm, hcs, htake⟩
  · omega
  obtain ⟨a, mc, hsv⟩ : ∃ a mc, sv = .slice (some a) m mc := by
    obtain ⟨cap, h⟩ := hsrc.base hm
    exact ⟨_, _, h⟩
  have hread := hsrc.srcCells a mc hsv
  subst hsv
  have hm' : Mod (Tp.own e size (.slice (some ⟨gb, 0, none⟩) n cap) n cs).foot w (World.blkSet w gb (.cells (Step.put cur (l * size) news) e)) := (blkSet_mod w gb _).mono fun b _ hb => by
    show (Value.slice (some ⟨gb, 0, none⟩) n cap).ownBlock = some b
    rw [b4]; exact congrArg some (show gb = b from hb.symm)
  have hr := copy_run (P := P) (ty := ty) (t := t) ht hs (b := gb) (off := l * size) (dl := n - l) (dc := cap - l) (a := a) (m := m) (mc := mc) (cl := news) b1 hnl (Nat.min_eq_left (by omega)) hread b3 h1
  refine ⟨_, fun d pos aft g => .inl ?_, M.turn i hi hm' (own_ok b5) fun b hb => .inl hb, hm'⟩
  have hx' : ρ.ev x = .slice (some ⟨gb, l * size, none⟩) (n - l) (cap - l) := by
    rw [hx, vSlice_cap, if_neg (by omega), Nat.zero_add]
  simp only [execOp, resolve, invoke, builtin, Sem.run_bind, Sem.run_pure, Result.andThen_ok, List.map_toArray, List.map_cons, List.map_nil, hx', hy, hr]
theorem copyGrow {α : Type} {enc : α → List Value} {xs : List α} {k : Nat} (he : ∀ x, (enc x).length = size) (M : Mem F X w0 L R w) (i : Nat) (hi : L[i]? = some (Tp.own e size v xs.length (xs.flatMap enc))) (ht : Und P t (.slice e)) (hs : Sized P e size)
    (hx : ρ.ev x = vSlice size (k + 1) (xs.length + 1) (vCap (vTake (xs.length + 1) v)) (vTake (xs.length + 1) v)) (hy : ρ.ev y = vSlice size k (xs.length + 1) (vCap (vTake (xs.length + 1) v)) (vTake (xs.length + 1) v))
    (hk : k < xs.length) (hroom : xs.length + 1 ≤ vCap v) (h1 : ∀ x, Step.Cellish (enc x)) :
    ∃ w', Step P (.call { callee := .builtin .copy, args := #[x, y], argTypes := #[t, t] }) ty ρ w (goInt ((xs.length - k : Nat) : Int)) w' ∧
      Mem F X w0 (L.set i (Tp.own e size (vTake (xs.length + 1) v) (xs.take (k + 1) ++ xs.drop k).length ((xs.take (k + 1) ++ xs.drop k).flatMap enc))) R w' ∧ Mod (Tp.own e size v xs.length (xs.flatMap enc)).foot w w' := by
  have hown := (M.chunk i hi).inv
  rcases hown.2 with ⟨_, h⟩ | ⟨gb, cap, cur, rfl, h0, hg, hnc, hcm, hcs, htake⟩
  · omega
  simp only [vCap] at hroom
  simp only [vTake_eq, vCap] at hx hy ⊢
  have hlen : (xs.take (k + 1) ++ xs.drop k).length = xs.length + 1 := by simp; omega
  have e0 : k * size ≤ xs.length * size := Nat.mul_le_mul_right _ (by omega)
  have e1 : (k + 1) * size = k * size + size := by rw [Nat.add_mul, Nat.one_mul]
  have e5 : (k + 1) * size ≤ xs.length * size := Nat.mul_le_mul_right _ (by omega)
  have e2 : (xs.length - k) * size + k * size = xs.length * size := by rw [← Nat.add_mul]; congr 1; omega
  have e3 : (xs.length + 1) * size = xs.length * size + size := by rw [Nat.add_mul, Nat.one_mul]
  have e4 : (xs.length + 1) * size ≤ cap * size := Nat.mul_le_mul_right _ hroom
  have hcl : ((xs.drop k).flatMap enc).length = (xs.length - k) * size := by rw [length_flatMap he, List.length_drop]
  have hread : ∀ j u, ((xs.drop k).flatMap enc)[j]? = some u → w.cell? ((⟨gb, k * size, none⟩ : Addr).add j) = some u := by
    intro j u hu
    have hj := (List.getElem?_eq_some_iff.1 hu).1
    rw [hcl] at hj
    rw [addr_add_none, cell_blk hg, ← Array.getElem?_toList]
    rw [← drop_flatMap he, List.getElem?_drop, ← htake, List.getElem?_take, if_pos (by omega)] at hu
    exact hu
  have hcel : Step.Cellish ((xs.drop k).flatMap enc) := by
    intro u hu
    obtain ⟨a, _, hu⟩ := List.mem_flatMap.1 hu
    exact h1 a u hu
  have hput := put_toList ((xs.drop k).flatMap enc) cur ((k + 1) * size) (by rw [hcl, hcs]; omega)
  have hr := copy_run (P := P) (ty := ty) (t := t) (w := w) ht hs (b := gb) (off := (k + 1) * size) (dl := xs.length + 1 - (k + 1)) (dc := cap - (k + 1)) (a := ⟨gb, k * size, none⟩) (m := xs.length + 1 - k) (mc := cap - k) (kk := xs.length - k) (cl := (xs.drop k).flatMap enc) hg hcl
    (by show min (xs.length + 1 - k) (xs.length + 1 - (k + 1)) = _; omega) hread (by rw [hcl, hcs]; omega) hcel
  have hx' : ρ.ev x = .slice (some ⟨gb, (k + 1) * size, none⟩) (xs.length + 1 - (k + 1)) (cap - (k + 1)) := by
    rw [hx]
    simp only [vSlice, Option.map_some, addr_add_none, Nat.zero_add]
    by_cases ec : cap = k + 1
    · exfalso; omega
    · rw [if_neg ec]
  have hy' : ρ.ev y = .slice (some ⟨gb, k * size, none⟩) (xs.length + 1 - k) (cap - k) := by
    rw [hy]
    simp only [vSlice, Option.map_some, addr_add_none, Nat.zero_add]
    rw [if_neg (by omega)]
  have hm' : Mod (Tp.own e size (.slice (some ⟨gb, 0, none⟩) xs.length cap) xs.length (xs.flatMap enc)).foot w (World.blkSet w gb (.cells (Step.put cur ((k + 1) * size) ((xs.drop k).flatMap enc)) e)) := (blkSet_mod w gb _).mono fun b _ hb => by
    show (Value.slice (some ⟨gb, 0, none⟩) xs.length cap).ownBlock = some b
    exact congrArg some (show gb = b from hb.symm)
  have hnew : (World.blkSet w gb (.cells (Step.put cur ((k + 1) * size) ((xs.drop k).flatMap enc)) e)).ownsRow 0 e size (.slice (some ⟨gb, 0, none⟩) (xs.length + 1) cap) (xs.take (k + 1) ++ xs.drop k).length ((xs.take (k + 1) ++ xs.drop k).flatMap enc) := by
    rw [hlen]
    refine ⟨by rw [length_flatMap he, hlen], .inr ⟨gb, cap, _, rfl, Nat.zero_le _, blkSet_at _ (lt_of_blk hg), hroom, hcm, by rw [Step.put_size]; exact hcs, ?_⟩⟩
    rw [hput]
    have hA : (cur.toList.take ((k + 1) * size)) = (xs.take (k + 1)).flatMap enc := by
      rw [← take_flatMap he, ← htake, List.take_take, Nat.min_eq_left (by omega)]
    simp only [splice]
    rw [hA, List.flatMap_append]
    refine List.take_left' ?_
    rw [List.length_append, hcl, length_flatMap he, List.length_take, Nat.min_eq_left (by omega)]
    omega
  refine ⟨_, fun d pos aft g => .inl ?_, M.turn i hi hm' (own_ok hnew) fun b hb => .inl hb, hm'⟩
  simp only [execOp, resolve, invoke, builtin, Sem.run_bind, Sem.run_pure, Result.andThen_ok, List.map_toArray, List.map_cons, List.map_nil, hx', hy', hr]
theorem growZeros {kn kq : IntKind} {a k : Nat} (M : Mem F X w0 L R w) (i : Nat) (hi : L[i]? = some (Tp.own e size v n cs)) (ht : Und P t (.slice e)) (htn : Und P tn (.int kn)) (he : Elem P e z size bytes) (hzs : z.cells.size = size) (hsz : 0 < size)
    (hx : ρ.ev x = vTake a v) (hy : ρ.ev y = .int kq (k : Int)) (hn : 0 < n) (ha : a ≤ n) (hk : 0 < k) (hg : vCap v < a + k) (hak : a + k ≤ maxLen) (hb : (a + k) * bytes ≤ 140737488355328) :
    Does P ⟨d, .call { callee := .builtin .append, args := #[x, y], argTypes := #[t, tn] }, ty, pos, aft, g⟩ ρ w fun v' w' => ∃ junk, junk.length = k * size ∧ Old w w' ∧ Mem F X w0 (Tp.own e size v' (a + k) (cs.take (a * size) ++ junk) :: L) R w' := by
  obtain ⟨v', w', junk, hr, h2, h3, h4, h5⟩ := append_zeros_run (ty := ty) (kq := kq) ht htn he hzs hsz (M.chunk i hi).inv hn ha hk hg hak hb
  refine .inl ⟨v', w', fun d pos aft g => .inl ?_, junk, h3, h4, M.own h4 (own_ok h2) h5⟩
  simp only [execOp, resolve, invoke, builtin, Sem.run_bind, Sem.run_pure, Result.andThen_ok, List.map_toArray, List.map_cons, List.map_nil, hx, hy, hr]
theorem overlaps {e2 : TypeId} {f : FuncId} {ts : Array TypeId} {b q : Nat} {c : Array Value} {l h m uc un : Nat} (M : Mem F X w0 L R w) (i : Nat) (hi : L[i]? = some (Tp.own e size v n cs)) (j : Nat) (hj : L[j]? = some (Tp.blk b (.cells c e2))) (hij : i ≠ j) (ht : Und P t (.slice e)) (hs : Sized P e size)
    (hx : ρ.ev x = .slice (some ⟨b, 0, none⟩) un uc) (hy : ρ.ev y = vSlice size l h m (vTake q v)) (hn : 0 < n) (hsz : 0 < size) (hfun : ∀ args : Array Value, (callFunc f args).run P w = ((Extern.SlicesOverlaps.overlaps #[t, t] #[ty] args).run P w).andThen fun v w' => .ok (.value v) w') :
    Step P (.call { callee := .value (.func f), args := #[x, y], argTypes := ts }) ty ρ w (.bool false) w := by
  have hown := (M.chunk i hi).inv
  have hbk : w.heap[b]? = some (.cells c e2) := M.blk j hj
  rcases hown.2 with ⟨_, h⟩ | ⟨gb, cap, cur, rfl, h0, hg, hnc, hcm, hcs, htake⟩
  · omega
  have hne : b ≠ gb := by
    intro e
    subst e
    exact M.disj_ne hi hj hij b rfl rfl
  have hsc : 0 < cap * size := Nat.mul_pos (by omega) hsz
  obtain ⟨o, l2, c2, hy2⟩ : ∃ o l2 c2, ρ.ev y = .slice (some ⟨gb, o, none⟩) l2 c2 := by
    rw [hy]
    simp only [vTake_eq, vSlice, Option.map_some, addr_add_none]
    split <;> exact ⟨_, _, _, rfl⟩
  have hr := Go.Lib.run_overlaps_apart (P := P) w t ty e ht size hs ⟨b, 0, none⟩ ⟨gb, o, none⟩ un uc l2 c2 hne e2 e c.size cur.size (by simp [World.shape?, hbk]) (by simp [World.shape?, hg]) (by omega) (by simp [World.frozen?, hbk]) (by simp [World.frozen?, hbk])
  refine Step.outer (args := [.slice (some ⟨b, 0, none⟩) un uc, .slice (some ⟨gb, o, none⟩) l2 c2]) (by simp [hx, hy2]) ?_
  rw [hfun, hr]
  rfl
end Mem
end Tp
namespace Tp
open Go
section
variable {α : Type} {size : Nat} {enc : α → List Value}
def slRep (size : Nat) (enc : α → List Value) (cs : List Value) (xs : List α) (w : World) : Prop := ∃ v, cs = [v] ∧ SlAt size v xs.length (xs.flatMap enc) w
def SlsT (size : Nat) (enc : α → List Value) : Ty (List α) := ⟨1, slRep size enc, fun _ _ _ ⟨_, h, _⟩ => by rw [h]; rfl⟩
theorem sls_open {F X : Nat → Prop} {w0 w : World} {L : List Chunk} {R : List (World → Prop)} {v : Value} {n : Nat} {cs : List Value} {xs : List (List α)} {i : Nat} {a : List α} (M : Mem F X w0 L R w) (j k : Nat)
    (hj : R[j]? = some (SlAt 1 v n cs)) (hk : R[k]? = some (RepL (SlsT size enc) cs xs)) (hn : n = xs.length) (hx : xs[i]? = some a) :
    ∃ lv, Mem F X w0 L (EC v 1 i [lv] :: SlAt size lv a.length (a.flatMap enc) :: R) w := by
  obtain ⟨lv, hcs, _⟩ := (M.rep k hk).2 i a hx
  have get : ∀ w, RepL (SlsT size enc) cs xs w → SlAt size lv a.length (a.flatMap enc) w := fun w h => by
    obtain ⟨lv', hcs', h'⟩ := h.2 i a hx
    rw [hcs] at hcs'
    simp only [List.cons.injEq, and_true] at hcs'
    subst hcs'
    exact h'
  refine ⟨lv, ?_⟩
  have M1 := M.add ((M.shr k hk).imp fun w h => get w h)
  refine M1.add (((M.shr j hj).and (M.shr k hk)).imp fun w ⟨h1, h2⟩ => ?_)
  subst hn
  obtain ⟨cs', h3, h4⟩ := RepS.elem (T := SlsT size enc) ⟨cs, h1, h2⟩ hx
  obtain ⟨hb, hc⟩ := h4
  refine ⟨hb, fun m hm => ?_⟩
  have hi : i < xs.length := (List.getElem?_eq_some_iff.1 hx).1
  rw [Nat.add_assoc, h1.cell _ (mul_add_lt hi hm)]
  have : ((cs.drop (i * 1)).take 1)[m]? = [lv][m]? := by rw [← hcs]; rfl
  rw [List.getElem?_take, if_pos hm, List.getElem?_drop] at this
  exact this
end
section
variable {F X : Nat → Prop} {w0 w : World} {L : List Chunk} {R : List (World → Prop)} {e : TypeId} {size n : Nat} {v : Value} {cs : List Value}
theorem Mem.ownTake (M : Mem F X w0 L R w) (i k : Nat) (hi : L[i]? = some (Tp.own e size v n cs)) (hk : k ≤ n) : Mem F X w0 (L.set i (Tp.own e size (vTake k v) k (cs.take (k * size)))) R w := by
  have hown := (M.chunk i hi).inv
  have hf : ∀ b, (Tp.own e size (vTake k v) k (cs.take (k * size))).foot b → (Tp.own e size v n cs).foot b := fun b hb => by
    rcases hown.2 with ⟨rfl, _⟩ | ⟨g, cap, cur, rfl, _⟩
    · exact absurd hb (by simp [Tp.own, vTake, Value.ownBlock])
    · exact hb
  refine M.turn i hi (Mod.refl _ _) (own_ok ?_) fun b hb => .inl (hf b hb)
  have hle : k * size ≤ n * size := Nat.mul_le_mul_right _ hk
  refine ⟨by rw [List.length_take, hown.1]; omega, ?_⟩
  rcases hown.2 with ⟨rfl, rfl⟩ | ⟨g, cap, cur, rfl, h0, hg, h1, h2, h3, h4⟩
  · exact .inl ⟨by rw [Nat.le_zero.1 hk]; rfl, Nat.le_zero.1 hk⟩
  · exact .inr ⟨g, cap, cur, rfl, h0, hg, by omega, h2, h3, by rw [← h4, List.take_take, Nat.min_eq_left hle]⟩
end
theorem drop_rest {α : Type} (l : List α) (n : Nat) : (l.drop n).take (l.length - n) = l.drop n := List.take_of_length_le (by rw [List.length_drop]; omega)
theorem wrap_u64 {a : Int} (h : 0 ≤ a ∧ a < 18446744073709551616) : IntKind.u64.wrap a = a := IntWalk.u64_in a ⟨h.1, by omega⟩
theorem shp_nil : Shp (.slice none 0 0) 0 := ⟨none, rfl, by simp [vCap, maxLen]⟩
namespace Mem
variable {P : Program} {F X : Nat → Prop} {w w0 : World} {L : List Chunk} {R : List (World → Prop)} {ρ : Env} {d : Option Nat} {pos : String} {aft : Array Edge} {g : Option (Nat × Bool)} {t tn ty e : TypeId} {z : Value} {size bytes : Nat} {x y : Operand}
theorem nilZeros {kn kq : IntKind} {k : Nat} (M : Mem F X w0 L R w) (ht : Und P t (.slice e)) (htn : Und P tn (.int kn)) (he : Elem P e z size bytes) (hzs : z.cells.size = size) (hsz : 0 < size)
    (hx : ρ.ev x = .slice none 0 0) (hy : ρ.ev y = .int kq (k : Int)) (hk : 0 < k) (hak : k ≤ maxLen) (hb : k * bytes ≤ 140737488355328) :
    Does P ⟨d, .call { callee := .builtin .append, args := #[x, y], argTypes := #[t, tn] }, ty, pos, aft, g⟩ ρ w fun v' w' => ∃ junk, junk.length = k * size ∧ Old w w' ∧ Mem F X w0 (Tp.own e size v' k junk :: L) R w' := by
  obtain ⟨inf, hi, hz, hs, hby⟩ := he
  subst hs
  subst hby
  have hr := Go.Lib.run_append_nil_zeros (P := P) w t tn ty e inf z kq kn ht htn hi hz k hk hsz (by simp only [maxLen] at hak; omega) (by omega)
  have hge := grownCap_ge w k 0 e
  have hcm := grownCap_le_maxLen w k 0 e hak
  have hjl : (Builtin.zeroCells z.cells k).toList.length = k * inf.size := by rw [Array.length_toList, size_zeroCells, hzs]
  have hown : (w.drew.alloc (.cells (Builtin.zeroCells z.cells k ++ Builtin.zeroCells z.cells (grownCap w k 0 e - k)) e)).ownsRow 0 e inf.size (.slice (some ⟨w.heap.size, 0, none⟩) k (grownCap w k 0 e)) k (Builtin.zeroCells z.cells k).toList := by
    refine ⟨hjl, .inr ⟨w.heap.size, _, _, rfl, Nat.zero_le _, heap_alloc_new w.drew _, hge, hcm, ?_, ?_⟩⟩
    · simp only [Array.size_append, size_zeroCells, hzs, ← Nat.add_mul]
      congr 1
      omega
    · simp only [Array.toList_append]
      rw [← hjl]
      exact List.take_left
  have hold : Old w (w.drew.alloc (.cells (Builtin.zeroCells z.cells k ++ Builtin.zeroCells z.cells (grownCap w k 0 e - k)) e)) := ⟨rfl, rfl, rfl, by simp, fun b hb _ => heap_alloc_old w.drew _ hb, Nat.le_succ _⟩
  refine .inl ⟨_, _, fun d pos aft g => .inl ?_, _, hjl, hold, M.own hold (own_ok hown) fun b hb => by simp [Tp.own, Value.ownBlock] at hb; omega⟩
  simp only [execOp, resolve, invoke, builtin, Sem.run_bind, Sem.run_pure, Result.andThen_ok, List.map_toArray, List.map_cons, List.map_nil, hx, hy, hr]
end Mem
theorem repL_nil {α : Type} {T : Ty α} {w : World} : RepL T [] [] w := ⟨by simp, fun i x h => by simp at h⟩
theorem repS_blk {α : Type} (T : Ty α) {w : World} {b : Nat} {c : Array Value} {e : TypeId} {fz : Nat × Nat} {n : Nat} {cs : List Value} {xs : List α} (h : w.heap[b]? = some (.cells c e fz)) (hc : c.toList = cs) (hn : n ≤ maxLen) (hl : RepL T cs xs w) (hx : xs.length = n := by rfl) : RepS T (.slice (some ⟨b, 0, none⟩) n n) xs w := by
  subst hx
  exact ⟨cs, hc ▸ SlAt.of_blk h (by rw [← Array.length_toList, hc]; exact hl.1) hn, hl⟩
def sumL {α : Type} (xss : List (List α)) : Nat := xss.flatten.length
theorem sumL_snoc {α : Type} {xss : List (List α)} {i : Nat} {a : List α} (hx : xss[i]? = some a) : sumL (xss.take (i + 1)) = sumL (xss.take i) + a.length := by
  unfold sumL; rw [← take_snoc hx]; simp
theorem sumL_le {α : Type} (xss : List (List α)) (i : Nat) : sumL (xss.take i) ≤ sumL xss := by
  unfold sumL
  have : xss.flatten = (xss.take i).flatten ++ (xss.drop i).flatten := by rw [← List.flatten_append, List.take_append_drop]
  rw [this]; simp
theorem flat_snoc {α : Type} {xss : List (List α)} {i : Nat} {a : List α} (hx : xss[i]? = some a) : (xss.take (i + 1)).flatten = (xss.take i).flatten ++ a := by
  rw [← take_snoc hx]; simp
end Tp
namespace Tp
open Go
def splCells (u : THit × Handle) : List Value := [.string u.1.key, .int .i64 u.1.val, .int .i64 u.2.at_, .int .i64 u.2.turn]
def upC (e : TypeId) (v : Value) (o : Option (THit × Handle)) : Chunk :=
  match o with
  | none => ⟨fun _ => False, fun _ => v = .pointer none⟩
  | some u => ⟨fun b => v = .pointer (some ⟨b, 0, none⟩), fun w => ∃ b, v = .pointer (some ⟨b, 0, none⟩) ∧ w.heap[b]? = some (.cells ⟨splCells u⟩ e)⟩
section
variable {F X : Nat → Prop} {w0 w : World} {L : List Chunk} {R : List (World → Prop)} {e : TypeId} {v : Value} {u : THit × Handle} {o : Option (THit × Handle)}
theorem Mem.upNone (M : Mem F X w0 L R w) (i : Nat) (hi : L[i]? = some (upC e v none)) : v = .pointer none := (M.chunk i hi).inv
theorem Mem.upSome (M : Mem F X w0 L R w) (i : Nat) (hi : L[i]? = some (upC e v (some u))) : ∃ b, v = .pointer (some ⟨b, 0, none⟩) ∧ Mem F X w0 (L.set i (Tp.blk b (.cells ⟨splCells u⟩ e))) R w := by
  obtain ⟨b, hv, hb⟩ := (M.chunk i hi).inv
  refine ⟨b, hv, M.turn i hi (Mod.refl _ _) (blk_ok hb) fun b' hb' => .inl ?_⟩
  show v = _
  rw [hv, show b' = b from hb']
theorem Mem.mkNone (M : Mem F X w0 L R w) (h : o = none) : Mem F X w0 (upC e (.pointer none) o :: L) R w := by
  subst h
  exact M.own (Mod.refl _ _) ⟨fun _ h => h.elim, fun _ _ => rfl⟩ fun _ h => h.elim
theorem Mem.mkSome {b : Nat} {cs : Array Value} (M : Mem F X w0 L R w) (i : Nat) (hi : L[i]? = some (Tp.blk b (.cells cs e))) (h : o = some u) (hc : cs = ⟨splCells u⟩) : Mem F X w0 (L.set i (upC e (.pointer (some ⟨b, 0, none⟩)) o)) R w := by
  subst h; subst hc
  have hb := M.blk i hi
  refine M.turn i hi (Mod.refl _ _) ⟨fun b' hb' => ?_, fun w' hw => ⟨b, rfl, (hw b rfl).trans hb⟩⟩ fun b' hb' => .inl ?_
  · have : b' = b := by
      have h2 : Value.pointer (some ⟨b, 0, none⟩) = .pointer (some ⟨b', 0, none⟩) := hb'
      cases h2; rfl
    rw [this]; exact lt_of_blk hb
  · have h2 : Value.pointer (some ⟨b, 0, none⟩) = .pointer (some ⟨b', 0, none⟩) := hb'
    cases h2; rfl
end
theorem SmallA.setp {l : List RPlace} {i : Nat} {q : RPlace} (hA : SmallA l) (h1 : 0 ≤ q.turn) (h2 : q.turn ≤ 1000000) (h3 : SmallNd q.node) : SmallA (l.set i q) := by
  refine ⟨by rw [List.length_set]; exact hA.1, fun j p hp => ?_⟩
  rcases Nat.lt_or_ge i l.length with hi | hi
  · rcases Nat.decEq i j with hij | rfl
    · rw [List.getElem?_set_ne hij] at hp; exact hA.2 _ _ hp
    · rw [List.getElem?_set_self hi] at hp; cases hp; exact ⟨h1, h2, h3⟩
  · rw [List.set_eq_of_length_le hi] at hp; exact hA.2 _ _ hp
theorem SmallA.put {l : List RPlace} {h : Handle} {m : Nd} (hA : SmallA l) (h1 : m.keys.length ≤ 1000000) (h2 : m.kids.length ≤ 1000000) (h3 : m.vals.length ≤ 1000000) : SmallA (rput l h m).1 := by
  cases hh : rhas l h with
  | false => rw [rput_miss hh]; exact hA
  | true =>
    obtain ⟨p, hp, hu, ht, h0, hlt⟩ := rhas_place hh
    obtain ⟨g1, g2, g3⟩ := hA.2 _ _ hp
    rw [rput_hit hh]
    exact hA.setp (by simp only; omega) (by simp only; omega) ⟨h1, h2, h3⟩
structure NodeOk (l : List RPlace) (n : Nd) : Prop where
  small : SmallA l
  tiny : tinyN n
  lens : n.vals.length = n.keys.length
  up : upS n.keys
def insOk : Nat → List RPlace → Handle → THit → Prop
  | 0, l, h, x => NodeOk l (rget l h).1 ∧ (bsF (rget l h).1.keys x.key = false → (rget l h).1.leaf = true)
  | d + 1, l, h, x => NodeOk l (rget l h).1 ∧ (bsF (rget l h).1.keys x.key = false → (rget l h).1.leaf = false →
      (rget l h).1.kids.length = (rget l h).1.keys.length + 1 ∧ insOk d l ((rget l h).1.kids.getD (bsI (rget l h).1.keys x.key) hdZero) x ∧ SmallA (insF d l ((rget l h).1.kids.getD (bsI (rget l h).1.keys x.key) hdZero) x).1)
section
variable {l : List RPlace} {h : Handle} {n : Nd} {x : THit} {d : Nat}
theorem insOk_node (hO : insOk d l h x) (hn : (rget l h).1 = n) : NodeOk l n := by
  subst hn
  cases d with
  | zero => exact hO.1
  | succ d => exact hO.1
theorem insOk_kid (hO : insOk d l h x) (hn : (rget l h).1 = n) (hf : bsF n.keys x.key = false) (hl : n.leaf = false) : ∃ e, d = e + 1 ∧ n.kids.length = n.keys.length + 1 ∧ insOk e l (n.kids.getD (bsI n.keys x.key) hdZero) x ∧ SmallA (insF e l (n.kids.getD (bsI n.keys x.key) hdZero) x).1 := by
  subst hn
  cases d with
  | zero => rw [hO.2 hf] at hl; cases hl
  | succ d => exact ⟨d, rfl, hO.2 hf hl⟩
theorem insF_hit (hn : (rget l h).1 = n) (hf : bsF n.keys x.key = true) : insF d l h x = ((rput l h ⟨n.leaf, n.keys, n.kids, n.vals.set (bsI n.keys x.key) x.val⟩).1, (n.vals.getD (bsI n.keys x.key) 0, true), none) := by
  subst hn; cases d <;> (unfold insF; simp [hf])
theorem insF_leaf (hn : (rget l h).1 = n) (hf : bsF n.keys x.key = false) (hl : n.leaf = true) : insF d l h x = ((settleF l h ⟨n.leaf, insAt n.keys (bsI n.keys x.key) x.key, n.kids, insAt n.vals (bsI n.keys x.key) x.val⟩).1, (0, false), (settleF l h ⟨n.leaf, insAt n.keys (bsI n.keys x.key) x.key, n.kids, insAt n.vals (bsI n.keys x.key) x.val⟩).2) := by
  subst hn; cases d <;> (unfold insF; simp [hf, hl])
theorem insF_none (hn : (rget l h).1 = n) (hf : bsF n.keys x.key = false) (hl : n.leaf = false) (hu : (insF d l (n.kids.getD (bsI n.keys x.key) hdZero) x).2.2 = none) :
    insF (d + 1) l h x = ((insF d l (n.kids.getD (bsI n.keys x.key) hdZero) x).1, (insF d l (n.kids.getD (bsI n.keys x.key) hdZero) x).2.1, none) := by
  subst hn
  conv => lhs; unfold insF
  simp only [hf, hl, Bool.false_eq_true, if_false]
  rw [hu]
theorem insF_some {u : THit × Handle} (hn : (rget l h).1 = n) (hf : bsF n.keys x.key = false) (hl : n.leaf = false) (hu : (insF d l (n.kids.getD (bsI n.keys x.key) hdZero) x).2.2 = some u) :
    insF (d + 1) l h x = ((settleF (insF d l (n.kids.getD (bsI n.keys x.key) hdZero) x).1 h ⟨n.leaf, insAt n.keys (bsI n.keys x.key) u.1.key, insAt n.kids (bsI n.keys x.key + 1) u.2, insAt n.vals (bsI n.keys x.key) u.1.val⟩).1, (insF d l (n.kids.getD (bsI n.keys x.key) hdZero) x).2.1,
      (settleF (insF d l (n.kids.getD (bsI n.keys x.key) hdZero) x).1 h ⟨n.leaf, insAt n.keys (bsI n.keys x.key) u.1.key, insAt n.kids (bsI n.keys x.key + 1) u.2, insAt n.vals (bsI n.keys x.key) u.1.val⟩).2) := by
  subst hn
  conv => lhs; unfold insF
  simp only [hf, hl, Bool.false_eq_true, if_false]
  rw [hu]
theorem settle_small {n : Nd} (h4 : n.keys.length ≤ 4) : settleF l h n = ((rput l h n).1, none) := by unfold settleF; rw [if_pos h4]
theorem settle_big {n : Nd} (h4 : ¬ n.keys.length ≤ 4) : settleF l h n =
    ((rmake (rput l h ⟨n.leaf, n.keys.take 2, if n.leaf then [] else n.kids.take 3, n.vals.take 2⟩).1 ⟨n.leaf, n.keys.drop 3, if n.leaf then [] else n.kids.drop 3, n.vals.drop 3⟩).1,
      some (⟨n.keys.getD 2 default, n.vals.getD 2 0⟩, (rmake (rput l h ⟨n.leaf, n.keys.take 2, if n.leaf then [] else n.kids.take 3, n.vals.take 2⟩).1 ⟨n.leaf, n.keys.drop 3, if n.leaf then [] else n.kids.drop 3, n.vals.drop 3⟩).2)) := by unfold settleF; rw [if_neg h4]
end
end Tp
namespace Tp
open Go
structure NodeMay (l : List RPlace) (n : Nd) : Prop where
  tiny : tinyN n
  lens : n.vals.length = n.keys.length
def lastOk : Nat → List RPlace → Handle → Prop
  | 0, l, h => NodeMay l (rget l h).1 ∧ 1 ≤ (rget l h).1.keys.length ∧ (rget l h).1.leaf = true
  | d + 1, l, h => NodeMay l (rget l h).1 ∧ 1 ≤ (rget l h).1.keys.length ∧ ((rget l h).1.leaf = false → 1 ≤ (rget l h).1.kids.length ∧ lastOk d l ((rget l h).1.kids.getD ((rget l h).1.kids.length - 1) hdZero))
section
variable {l : List RPlace} {h c1 c2 : Handle} {n a b : Nd} {x : THit} {k : ByteArray} {d i : Nat} {lw : Bool}
theorem lastOk_node (hO : lastOk d l h) (hn : (rget l h).1 = n) : tinyN n ∧ n.vals.length = n.keys.length ∧ 1 ≤ n.keys.length := by
  subst hn
  cases d with
  | zero => exact ⟨hO.1.1, hO.1.2, hO.2.1⟩
  | succ d => exact ⟨hO.1.1, hO.1.2, hO.2.1⟩
theorem lastOk_kid (hO : lastOk d l h) (hn : (rget l h).1 = n) (hl : n.leaf = false) : ∃ e, d = e + 1 ∧ 1 ≤ n.kids.length ∧ lastOk e l (n.kids.getD (n.kids.length - 1) hdZero) := by
  subst hn
  cases d with
  | zero => rw [hO.2.2] at hl; cases hl
  | succ d => exact ⟨d, rfl, hO.2.2 hl⟩
theorem lastF_leaf (hn : (rget l h).1 = n) (hl : n.leaf = true) : lastF d l h = ⟨n.keys.getD (n.keys.length - 1) default, n.vals.getD (n.vals.length - 1) 0⟩ := by
  subst hn; cases d <;> (unfold lastF; simp [hl])
theorem lastF_kid (hn : (rget l h).1 = n) (hl : n.leaf = false) : lastF (d + 1) l h = lastF d l (n.kids.getD (n.kids.length - 1) hdZero) := by
  subst hn
  conv => lhs; unfold lastF
  simp only [hl, Bool.false_eq_true, if_false]
structure PairOk (l : List RPlace) (h : Handle) (i : Nat) (n a b : Nd) : Prop where
  small : SmallA l
  n_ : tinyN n
  a_ : tinyN a
  b_ : tinyN b
  nl : n.vals.length = n.keys.length
  al : a.vals.length = a.keys.length
  bl : b.vals.length = b.keys.length
  ik : i < n.keys.length
  kk : n.kids.length = n.keys.length + 1
  a1 : 1 ≤ a.keys.length
  b1 : 1 ≤ b.keys.length
  lf : b.leaf = a.leaf
  ak : a.leaf = false → a.kids.length = a.keys.length + 1
  bk : a.leaf = false → b.kids.length = b.keys.length + 1
def pairOk (l : List RPlace) (h : Handle) (i : Nat) : Prop := PairOk l h i (rget l h).1 (rget l ((rget l h).1.kids.getD i hdZero)).1 (rget l ((rget l h).1.kids.getD (i + 1) hdZero)).1
theorem pairOk_at (hO : pairOk l h i) (hn : (rget l h).1 = n) (h1 : n.kids.getD i hdZero = c1) (h2 : n.kids.getD (i + 1) hdZero = c2) (ha : (rget l c1).1 = a) (hb : (rget l c2).1 = b) : PairOk l h i n a b := by
  subst hn; subst h1; subst h2; subst ha; subst hb; exact hO
theorem pairOk_n (hO : pairOk l h i) (hn : (rget l h).1 = n) : SmallA l ∧ tinyN n ∧ n.vals.length = n.keys.length ∧ i < n.keys.length ∧ n.kids.length = n.keys.length + 1 := by
  subst hn; exact ⟨hO.small, hO.n_, hO.nl, hO.ik, hO.kk⟩
theorem turnF_eq {at_ : Nat} (hn : (rget l h).1 = n) (h1 : n.kids.getD i hdZero = c1) (h2 : n.kids.getD (i + 1) hdZero = c2) (ha : (rget l c1).1 = a) (hb : (rget l c2).1 = b) (hat : (if lw then a.keys.length + 1 else a.keys.length - 1) = at_) :
    turnF l h i lw = (rput (rput (rput l c1 ⟨a.leaf, (a.keys ++ ((n.keys.drop i).take 1 ++ b.keys)).take at_, if a.leaf then a.kids else (a.kids ++ b.kids).take (at_ + 1), (a.vals ++ ((n.vals.drop i).take 1 ++ b.vals)).take at_⟩).1 c2
      ⟨b.leaf, (a.keys ++ ((n.keys.drop i).take 1 ++ b.keys)).drop (at_ + 1), if a.leaf then b.kids else (a.kids ++ b.kids).drop (at_ + 1), (a.vals ++ ((n.vals.drop i).take 1 ++ b.vals)).drop (at_ + 1)⟩).1 h
      ⟨n.leaf, n.keys.set i ((a.keys ++ ((n.keys.drop i).take 1 ++ b.keys)).getD at_ default), n.kids, n.vals.set i ((a.vals ++ ((n.vals.drop i).take 1 ++ b.vals)).getD at_ 0)⟩).1 := by
  subst hn; subst h1; subst h2; subst ha; subst hb; subst hat; rfl
theorem joinF_eq (hn : (rget l h).1 = n) (h1 : n.kids.getD i hdZero = c1) (h2 : n.kids.getD (i + 1) hdZero = c2) (ha : (rget l c1).1 = a) (hb : (rget l c2).1 = b) :
    joinF l h i = (rput (rfree (rput l c1 ⟨a.leaf, a.keys ++ ((n.keys.drop i).take 1 ++ b.keys), a.kids ++ b.kids, a.vals ++ ((n.vals.drop i).take 1 ++ b.vals)⟩).1 [c2]).1 h ⟨n.leaf, n.keys.eraseIdx i, n.kids.eraseIdx (i + 1), n.vals.eraseIdx i⟩).1 := by
  subst hn; subst h1; subst h2; subst ha; subst hb; rfl
theorem SmallA.free (hA : SmallA l) : SmallA (rfree l [h]).1 := by
  cases hh : rhas l h with
  | false => rw [rfree_miss (by simp [freeable, hh])]; exact hA
  | true =>
    obtain ⟨p, hp, hu, ht, h0, hlt⟩ := rhas_place hh
    obtain ⟨g1, g2, g3⟩ := hA.2 _ _ hp
    rw [free_is hh]
    exact hA.setp (by simp only; omega) (by simp only; omega) ⟨by simp [ndZero], by simp [ndZero], by simp [ndZero]⟩
def mendOk (l : List RPlace) (h : Handle) (i : Nat) : Prop := SmallA l ∧ tinyN (rget l h).1 ∧ i < (rget l h).1.kids.length ∧ 2 ≤ (rget l h).1.kids.length ∧
  (¬ 2 ≤ (rget l ((rget l h).1.kids.getD i hdZero)).1.keys.length → (0 < i → pairOk l h (i - 1)) ∧ (i + 1 < (rget l h).1.kids.length → pairOk l h i))
theorem mendOk_n (hO : mendOk l h i) (hn : (rget l h).1 = n) : SmallA l ∧ tinyN n ∧ i < n.kids.length ∧ 2 ≤ n.kids.length := by
  subst hn; exact ⟨hO.1, hO.2.1, hO.2.2.1, hO.2.2.2.1⟩
theorem mendOk_pair (hO : mendOk l h i) (hn : (rget l h).1 = n) (h1 : n.kids.getD i hdZero = c1) (ha : (rget l c1).1 = a) (h2 : ¬ 2 ≤ a.keys.length) : (0 < i → pairOk l h (i - 1)) ∧ (i + 1 < n.kids.length → pairOk l h i) := by
  subst hn; subst h1; subst ha; exact hO.2.2.2.2 h2
theorem mend_keep (hn : (rget l h).1 = n) (h1 : n.kids.getD i hdZero = c1) (ha : (rget l c1).1 = a) (h2 : 2 ≤ a.keys.length) : mendF l h i = l := by
  subst hn; subst h1; subst ha; unfold mendF; simp only; rw [if_pos h2]
theorem mend_go (hn : (rget l h).1 = n) (h1 : n.kids.getD i hdZero = c1) (ha : (rget l c1).1 = a) (h2 : ¬ 2 ≤ a.keys.length) :
    mendF l h i = if richF l n ((i : Int) - 1) then turnF l h (i - 1) false else if richF l n ((i : Int) + 1) then turnF l h i true else if 0 < i then joinF l h (i - 1) else joinF l h i := by
  subst hn; subst h1; subst ha; unfold mendF; simp only; rw [if_neg h2]
theorem rich_low {j : Int} (h : richF l n j = true) : 0 ≤ j ∧ j < n.kids.length := by
  unfold richF at h
  simp only [Bool.and_eq_true, decide_eq_true_eq] at h
  exact h.1
def remOk : Nat → List RPlace → Handle → ByteArray → Prop
  | 0, l, h, k => NodeOk l (rget l h).1 ∧ bsF (rget l h).1.keys k = true ∧ (rget l h).1.leaf = true
  | d + 1, l, h, k => NodeOk l (rget l h).1 ∧
    (bsF (rget l h).1.keys k = true → (rget l h).1.leaf = false → (rget l h).1.kids.length = (rget l h).1.keys.length + 1 ∧ lastOk d l ((rget l h).1.kids.getD (bsI (rget l h).1.keys k) hdZero) ∧
      remOk d (rput l h ⟨(rget l h).1.leaf, (rget l h).1.keys.set (bsI (rget l h).1.keys k) (lastF d l ((rget l h).1.kids.getD (bsI (rget l h).1.keys k) hdZero)).key, (rget l h).1.kids, (rget l h).1.vals.set (bsI (rget l h).1.keys k) (lastF d l ((rget l h).1.kids.getD (bsI (rget l h).1.keys k) hdZero)).val⟩).1 ((rget l h).1.kids.getD (bsI (rget l h).1.keys k) hdZero) (lastF d l ((rget l h).1.kids.getD (bsI (rget l h).1.keys k) hdZero)).key ∧
      mendOk (remF d (rput l h ⟨(rget l h).1.leaf, (rget l h).1.keys.set (bsI (rget l h).1.keys k) (lastF d l ((rget l h).1.kids.getD (bsI (rget l h).1.keys k) hdZero)).key, (rget l h).1.kids, (rget l h).1.vals.set (bsI (rget l h).1.keys k) (lastF d l ((rget l h).1.kids.getD (bsI (rget l h).1.keys k) hdZero)).val⟩).1 ((rget l h).1.kids.getD (bsI (rget l h).1.keys k) hdZero) (lastF d l ((rget l h).1.kids.getD (bsI (rget l h).1.keys k) hdZero)).key) h (bsI (rget l h).1.keys k)) ∧
    (bsF (rget l h).1.keys k = false → (rget l h).1.kids.length = (rget l h).1.keys.length + 1 ∧ remOk d l ((rget l h).1.kids.getD (bsI (rget l h).1.keys k) hdZero) k ∧ mendOk (remF d l ((rget l h).1.kids.getD (bsI (rget l h).1.keys k) hdZero) k) h (bsI (rget l h).1.keys k))
theorem remOk_node (hO : remOk d l h k) (hn : (rget l h).1 = n) : NodeOk l n := by
  subst hn
  cases d with
  | zero => exact hO.1
  | succ d => exact hO.1
theorem remOk_hit (hO : remOk d l h k) (hn : (rget l h).1 = n) (hf : bsF n.keys k = true) (hl : n.leaf = false) : ∃ e, d = e + 1 ∧ n.kids.length = n.keys.length + 1 ∧ ∀ c, n.kids.getD (bsI n.keys k) hdZero = c → lastOk e l c ∧
    remOk e (rput l h ⟨n.leaf, n.keys.set (bsI n.keys k) (lastF e l c).key, n.kids, n.vals.set (bsI n.keys k) (lastF e l c).val⟩).1 c (lastF e l c).key ∧
    mendOk (remF e (rput l h ⟨n.leaf, n.keys.set (bsI n.keys k) (lastF e l c).key, n.kids, n.vals.set (bsI n.keys k) (lastF e l c).val⟩).1 c (lastF e l c).key) h (bsI n.keys k) := by
  subst hn
  cases d with
  | zero => rw [hO.2.2] at hl; cases hl
  | succ d => exact ⟨d, rfl, (hO.2.1 hf hl).1, fun c hc => by subst hc; exact (hO.2.1 hf hl).2⟩
theorem remOk_miss (hO : remOk d l h k) (hn : (rget l h).1 = n) (hf : bsF n.keys k = false) : ∃ e, d = e + 1 ∧ n.kids.length = n.keys.length + 1 ∧ ∀ c, n.kids.getD (bsI n.keys k) hdZero = c → remOk e l c k ∧ mendOk (remF e l c k) h (bsI n.keys k) := by
  subst hn
  cases d with
  | zero => rw [hO.2.1] at hf; cases hf
  | succ d => exact ⟨d, rfl, (hO.2.2 hf).1, fun c hc => by subst hc; exact (hO.2.2 hf).2⟩
theorem remF_leaf (hn : (rget l h).1 = n) (hf : bsF n.keys k = true) (hl : n.leaf = true) : remF d l h k = (rput l h ⟨n.leaf, n.keys.eraseIdx (bsI n.keys k), n.kids, n.vals.eraseIdx (bsI n.keys k)⟩).1 := by
  subst hn; cases d <;> (unfold remF; simp [hf, hl])
theorem remF_hit (hn : (rget l h).1 = n) (hf : bsF n.keys k = true) (hl : n.leaf = false) (hc : n.kids.getD (bsI n.keys k) hdZero = c1) :
    remF (d + 1) l h k = mendF (remF d (rput l h ⟨n.leaf, n.keys.set (bsI n.keys k) (lastF d l c1).key, n.kids, n.vals.set (bsI n.keys k) (lastF d l c1).val⟩).1 c1 (lastF d l c1).key) h (bsI n.keys k) := by
  subst hn; subst hc
  conv => lhs; unfold remF
  simp only [hf, hl, if_true, Bool.false_eq_true, if_false]
theorem remF_miss (hn : (rget l h).1 = n) (hf : bsF n.keys k = false) (hc : n.kids.getD (bsI n.keys k) hdZero = c1) : remF (d + 1) l h k = mendF (remF d l c1 k) h (bsI n.keys k) := by
  subst hn; subst hc
  conv => lhs; unfold remF
  simp only [hf, Bool.false_eq_true, if_false]
end
end Tp
namespace Tp
open Go
section
variable {l l' l1 l2 : List RPlace} {d lo : Nat} {h : Handle} {ks P Q : List THit} {ts A B : List BT} {a b c t : BT} {u x z : THit} {K : Nat} {S : List Handle} {k : ByteArray}
theorem upS_keys (hu : upT ks) : upS (ks.map THit.key) := List.pairwise_map.2 hu
theorem node_ok (H : HoldsB l d (.mk h ks ts)) (hu : upT ks) (hB : BigA l K) (hK : K ≤ 1000000) : NodeOk l (rget l h).1 := by
  have e := (holds_mk.1 H).1
  rw [atA_get e]
  exact ⟨hB.small hK, hB.at e, by simp [nodeB], by rw [nodeB_keys]; exact upS_keys hu⟩
theorem kids_len (ho : okK (d + 1) ks ts) : (nodeB (d + 1) (.mk h ks ts)).kids.length = (nodeB (d + 1) (.mk h ks ts)).keys.length + 1 := by
  rw [nodeB_kids, if_neg (by simp), nodeB_keys, List.length_map, List.length_map]; exact ho.1
theorem ins_okW : ∀ (d : Nat) {l : List RPlace} {t : BT} {x : THit} {K lo : Nat}, HoldsB l d t → (hsB d t).Nodup → okB lo d t → (1 ≤ lo ∨ d = 0) → lo ≤ 2 → upT (flatB d t) → BigA l K → K + d + 1 ≤ 1000000 → insOk d l t.h x := by
  intro d
  induction d with
  | zero =>
    intro l t x K lo H hn ho hl1 hlo hu hB hK
    obtain ⟨h, ks, ts⟩ := t
    refine ⟨node_ok H (ks_up ho hu) hB (by omega), fun _ => ?_⟩
    rw [show (BT.mk h ks ts).h = h from rfl, atA_get (holds_mk.1 H).1]; rfl
  | succ d ih =>
    intro l t x K lo H hn ho hl1 hlo hu hB hK
    obtain ⟨h, ks, ts⟩ := t
    have hu' := ks_up ho hu
    obtain ⟨o1, o2, o3⟩ := ok_mk.1 ho
    refine ⟨node_ok H hu' hB (by omega), fun hf hl => ?_⟩
    have hg : (rget l h).1 = nodeB (d + 1) (.mk h ks ts) := by rw [atA_get (holds_mk.1 H).1]
    simp only [BT.h, hg, nodeB_keys] at hf hl ⊢
    obtain ⟨P, Q, rfl, hP, lP, hQ⟩ := bs_miss hu' hf
    obtain ⟨A, c, B, rfl, hA, hBl, hfl⟩ := flat_at (h := h) o3
    have hc : ((nodeB (d + 1) (.mk h (P ++ Q) (A ++ c :: B))).kids.getD (bsI ((P ++ Q).map THit.key) x.key) hdZero) = c.h := by
      rw [nodeB_kids, if_neg (by simp), List.map_append, List.map_cons]
      exact getD_mid (by rw [List.length_map, hA, hP])
    have hnc : (hsB d c).Nodup := by
      rw [hsB_mk, hsK_mid] at hn
      exact (List.nodup_append.1 (List.nodup_append.1 (List.nodup_cons.1 hn).2).2.1).1
    rw [hfl] at hu
    have hcH := (holds_mk.1 H).2 c (by simp)
    have hco := o3.2 c (by simp)
    rw [hc]
    refine ⟨by have := kids_len (h := h) o3; rw [nodeB_keys] at this; exact this, ih hcH hnc hco (.inl (by omega)) (by omega) (mid_up hu) hB (by omega), ?_⟩
    exact (ins_ok d (x := x) hcH hnc hco (.inl (by omega)) (by omega) (mid_up hu) hB).1.big.small (by omega)
theorem last_okW : ∀ {d : Nat} {t : BT}, HoldsB l d t → okB 1 d t → BigA l K → lastOk d l t.h := by
  intro d
  induction d with
  | zero =>
    intro t H ho hB
    obtain ⟨h, ks, ts⟩ := t
    have e := (holds_mk.1 H).1
    unfold lastOk
    rw [show (BT.mk h ks ts).h = h from rfl, atA_get e]
    exact ⟨⟨hB.at e, by simp [nodeB]⟩, by simpa [nodeB_keys] using (ok_mk.1 ho).1, rfl⟩
  | succ d ih =>
    intro t H ho hB
    obtain ⟨h, ks, ts⟩ := t
    have e := (holds_mk.1 H).1
    obtain ⟨o1, o2, o3, o4⟩ := ok_mk.1 ho
    obtain ⟨A, c, rfl⟩ : ∃ A c, ts = A ++ [c] := ⟨ts.dropLast, ts.getLast (by rintro rfl; simp at o3), (List.dropLast_concat_getLast _).symm⟩
    unfold lastOk
    rw [show (BT.mk h ks (A ++ [c])).h = h from rfl, atA_get e]
    refine ⟨⟨hB.at e, by simp [nodeB]⟩, by simpa [nodeB_keys] using o1, fun _ => ⟨by simp [nodeB, BT.ts], ?_⟩⟩
    have hc : ((nodeB (d + 1) (.mk h ks (A ++ [c]))).kids.getD ((nodeB (d + 1) (.mk h ks (A ++ [c]))).kids.length - 1) hdZero) = c.h := by
      rw [nodeB_kids, if_neg (by simp)]; simp [List.getD]
    simp only [hc]
    exact ih ((holds_mk.1 H).2 c (by simp)) (okB_low (o4 c (by simp)) (by omega)) hB
theorem kids_of (H : okB lo d c) (h0 : (nodeB d c).leaf = false) : (nodeB d c).kids.length = (nodeB d c).keys.length + 1 := by
  cases d with
  | zero => simp [nodeB] at h0
  | succ d => obtain ⟨h, ks, ts⟩ := c; exact kids_len (ok_mk.1 H).2.2
theorem pair_okW (H : PairB l d h P Q u A B a b) (hB : BigA l K) (hK : K ≤ 1000000) : pairOk l h P.length := by
  obtain ⟨k1, k2⟩ := H.kid
  unfold pairOk
  rw [k1, k2, H.get, atA_get H.ha.self, atA_get H.hb.self]
  refine ⟨hB.small hK, hB.at H.at_, hB.at H.ha.self, hB.at H.hb.self, by simp [nodeB], by simp [nodeB], by simp [nodeB], by simp [nodeB, BT.ks], ?_, ?_, ?_, rfl, fun h0 => kids_of H.oka h0, fun h0 => kids_of H.okb (by simpa [nodeB] using h0)⟩
  · simp [nodeB, BT.ks, BT.ts, H.lenA, H.lenB]; omega
  · have := (okB_len H.oka).1; simpa [nodeB] using this
  · have := (okB_len H.okb).1; simpa [nodeB] using this
theorem mend_okW (e : atA l h = some (nodeB (d + 1) (.mk h ks (A ++ c :: B)))) (hk : kidsH l (d + 1) (A ++ c :: B)) (hn : (h :: hsK (d + 1) (A ++ c :: B)).Nodup) (hl : (A ++ c :: B).length = ks.length + 1)
    (h1' : 1 ≤ ks.length) (hA : ∀ s, s ∈ A → okB 2 d s) (hc : okB 1 d c) (hB : ∀ s, s ∈ B → okB 2 d s) (hb : BigA l K) (hK : K ≤ 1000000) : mendOk l h A.length := by
  have gn : (rget l h).1 = nodeB (d + 1) (.mk h ks (A ++ c :: B)) := by rw [atA_get e]
  have kl : (rget l h).1.kids.length = A.length + B.length + 1 := by rw [gn, nodeB_kids, if_neg (by simp), List.length_map, List.length_append, List.length_cons]; omega
  have hlen : A.length + B.length = ks.length := by simp at hl; omega
  refine ⟨hb.small hK, by rw [gn]; exact hb.at e, by rw [kl]; omega, by rw [kl]; omega, fun _ => ⟨fun hi => ?_, fun hi => ?_⟩⟩
  · obtain ⟨A', a, rfl⟩ : ∃ A' a, A = A' ++ [a] := ⟨A.dropLast, A.getLast (by rintro rfl; simp at hi), (List.dropLast_concat_getLast _).symm⟩
    obtain ⟨P, u, Q, rfl, hP⟩ := split_at (l := ks) (i := A'.length) (by simp at hlen; omega)
    have hQ : B.length = Q.length := by simp at hlen; omega
    have ee : (A' ++ [a]) ++ c :: B = A' ++ a :: c :: B := by simp
    rw [ee] at e hk hn
    have H : PairB l d h P Q u A' B a c := ⟨e, hk, hn, hP.symm, hQ, fun s hs => hA s (by simp [hs]), hB, okB_low (hA a (by simp)) (by omega), hc⟩
    have := pair_okW H hb hK
    simpa [hP] using this
  · rw [kl] at hi
    cases B with
    | nil => simp at hi
    | cons b B' =>
      obtain ⟨P, u, Q, rfl, hP⟩ := split_at (l := ks) (i := A.length) (by simp at hlen; omega)
      have hQ : B'.length = Q.length := by simp at hlen; omega
      have H : PairB l d h P Q u A B' c b := ⟨e, hk, hn, hP.symm, hQ, hA, fun s hs => hB s (by simp [hs]), hc, okB_low (hB b (by simp)) (by omega)⟩
      have := pair_okW H hb hK
      rwa [hP] at this
theorem sub_mendW {row : List THit} (e : atA l h = some (nodeB (d + 1) (.mk h (P ++ Q) (A ++ c :: B)))) (hk : kidsH l (d + 1) (A ++ c :: B)) (hn : (h :: hsK (d + 1) (A ++ c :: B)).Nodup) (hA : A.length = P.length) (hB : B.length = Q.length)
    (h1 : 1 ≤ (P ++ Q).length) (oA : ∀ s, s ∈ A → okB 2 d s) (oB : ∀ s, s ∈ B → okB 2 d s) (R : RemB l l2 1 d (hsB d c) c.h row K) (hK : K ≤ 1000000) : mendOk l2 h P.length := by
  obtain ⟨c', hc1, hc2, hc3, hc4, hc5, hc6, hc7⟩ := R.parts
  have hn' := hn
  rw [hsK_mid] at hn'
  obtain ⟨n1, n2⟩ := List.nodup_cons.1 hn'
  rw [List.mem_append, List.mem_append, not_or, not_or] at n1
  obtain ⟨nA, n3, nAX⟩ := List.nodup_append.1 n2
  obtain ⟨nc, nB, ncB⟩ := List.nodup_append.1 n3
  have e2 : atA l2 h = some (nodeB (d + 1) (.mk h (P ++ Q) (A ++ c' :: B))) := by
    rw [R.same _ _ n1.2.1 e]; simp [nodeB, BT.ks, BT.ts, hc1]
  have k2 : kidsH l2 (d + 1) (A ++ c' :: B) := fun s hs => by
    rcases List.mem_append.1 hs with hs | hs
    · exact (hk s (by simp [hs])).same R.same fun q hq hm => nAX q (List.mem_flatMap.2 ⟨s, hs, hq⟩) q (List.mem_append_left _ hm) rfl
    · rcases List.mem_cons.1 hs with rfl | hs
      · exact hc2
      · exact (hk s (by simp [hs])).same R.same fun q hq hm => ncB q hm q (List.mem_flatMap.2 ⟨s, hs, hq⟩) rfl
  have nn : (h :: hsK (d + 1) (A ++ c' :: B)).Nodup := by
    rw [hsK_mid]
    refine List.nodup_cons.2 ⟨?_, List.nodup_append.2 ⟨nA, List.nodup_append.2 ⟨hc4, nB, fun q hq q' hq' e => ncB q (hc3 q hq) q' hq' e⟩, fun q hq q' hq' e => ?_⟩⟩
    · simp only [List.mem_append, not_or]; exact ⟨n1.1, fun q => n1.2.1 (hc3 h q), n1.2.2⟩
    · rcases List.mem_append.1 hq' with hq' | hq'
      · exact nAX q hq q' (List.mem_append_left _ (hc3 _ hq')) e
      · exact nAX q hq q' (List.mem_append_right _ hq') e
  have := mend_okW e2 k2 nn (by simp [hA, hB]; omega) h1 oA hc5 oB R.big hK
  rwa [hA] at this
theorem rem_okW : ∀ (d : Nat) {l : List RPlace} {t : BT} {k : ByteArray} {K lo : Nat}, HoldsB l d t → (hsB d t).Nodup → okB lo d t → 1 ≤ lo → upT (flatB d t) → BigA l K → K ≤ 1000000 → (∃ a, a ∈ flatB d t ∧ a.key = k) → remOk d l t.h k := by
  intro d
  induction d with
  | zero =>
    intro l t k K lo H hn ho hlo hu hB hK hm
    obtain ⟨h, ks, ts⟩ := t
    have e := (holds_mk.1 H).1
    refine ⟨node_ok H (ks_up ho hu) hB hK, ?_, by rw [show (BT.mk h ks ts).h = h from rfl, atA_get e]; rfl⟩
    rw [show (BT.mk h ks ts).h = h from rfl, atA_get e]
    simp only [nodeB_keys]
    cases hf : bsF (ks.map THit.key) k with
    | true => rfl
    | false =>
      obtain ⟨P, Q, rfl, hP, lP, hQ⟩ := bs_miss (show upT ks from hu) hf
      obtain ⟨a, ha, _⟩ := mem_of_bs (ks := []) lP hQ (by simpa using (show ∃ a, a ∈ P ++ Q ∧ a.key = k from hm))
      cases ha
  | succ d ih =>
    intro l t k K lo H hn ho hlo hu hB hK hm
    obtain ⟨h, ks, ts⟩ := t
    obtain ⟨o1, o2, o3⟩ := ok_mk.1 ho
    have hu' : upT ks := ks_up ho hu
    have e := (holds_mk.1 H).1
    have hk := (holds_mk.1 H).2
    rw [hsB_mk] at hn
    have hg : (rget l h).1 = nodeB (d + 1) (.mk h ks ts) := by rw [atA_get e]
    refine ⟨node_ok H hu' hB hK, fun hf hl => ?_, fun hf => ?_⟩
    · simp only [BT.h, hg, nodeB_keys, nodeB_vals] at hf ⊢
      obtain ⟨P, z, Q, rfl, hP, hz, lP, hQ⟩ := bs_hit hu' hf
      obtain ⟨A, c, B, rfl, hA, hBl, hfl⟩ := flat_at (h := h) (P := P) (Q := z :: Q) o3
      have hAk := kid_at e (i := P.length) hA
      rw [hg] at hAk
      rw [← hP, hAk]
      have oc := o3.2 c (by simp)
      rw [hfl] at hu
      obtain ⟨F, hF⟩ := last_ok (hk c (by simp)) (okB_low oc (by omega))
      refine ⟨by have := kids_len (h := h) o3; rw [nodeB_keys] at this; exact this, last_okW (hk c (by simp)) (okB_low oc (by omega)) hB, ?_⟩
      generalize lastF d l c.h = x at *
      have en : (⟨(nodeB (d + 1) (.mk h (P ++ z :: Q) (A ++ c :: B))).leaf, ((P ++ z :: Q).map THit.key).set P.length x.key, (nodeB (d + 1) (.mk h (P ++ z :: Q) (A ++ c :: B))).kids, ((P ++ z :: Q).map THit.val).set P.length x.val⟩ : Nd) = nodeB (d + 1) (.mk h (P ++ x :: Q) (A ++ c :: B)) := by
        rw [List.map_append, List.map_append, List.map_cons, List.map_cons, set_mid (by simp), set_mid (by simp)]
        simp [nodeB, BT.ks, BT.ts]
      rw [en]
      have s1 : SameA l (rput l h (nodeB (d + 1) (.mk h (P ++ x :: Q) (A ++ c :: B)))).1 [h] := SameA.put e (by simp)
      have e1 : atA (rput l h (nodeB (d + 1) (.mk h (P ++ x :: Q) (A ++ c :: B)))).1 h = some (nodeB (d + 1) (.mk h (P ++ x :: Q) (A ++ c :: B))) := by rw [put_at e, if_pos rfl]
      have b1 : BigA (rput l h (nodeB (d + 1) (.mk h (P ++ x :: Q) (A ++ c :: B)))).1 K := hB.put e (node_tiny (by simp at o2 ⊢; omega) ⟨by have := o3.1; simp at this ⊢; omega, o3.2⟩)
      generalize (rput l h (nodeB (d + 1) (.mk h (P ++ x :: Q) (A ++ c :: B)))).1 = l1 at s1 e1 b1 ⊢
      have k1 : kidsH l1 (d + 1) (A ++ c :: B) := kidsH_same s1 hk fun q hq hm => by rw [List.mem_singleton.1 hm] at hq; exact (List.nodup_cons.1 hn).1 hq
      have hnc : (hsB d c).Nodup := by
        rw [hsK_mid] at hn
        exact (List.nodup_append.1 (List.nodup_append.1 (List.nodup_cons.1 hn).2).2.1).1
      have hcu : upT (flatB d c) := mid_up hu
      have hmem : ∃ a, a ∈ flatB d c ∧ a.key = x.key := ⟨x, by rw [hF]; simp, rfl⟩
      refine ⟨ih (lo := 2) (k1 c (by simp)) hnc oc (by omega) hcu b1 hK hmem, ?_⟩
      have R := rem_ok d (k := x.key) (lo := 2) (k1 c (by simp)) hnc oc (by omega) hcu b1 hmem
      exact sub_mendW (P := P) (Q := x :: Q) e1 k1 hn hA (by simpa using hBl) (by simp; omega) (fun s hs => o3.2 s (by simp [hs])) (fun s hs => o3.2 s (by simp [hs])) R hK
    · simp only [BT.h, hg, nodeB_keys] at hf ⊢
      obtain ⟨P, Q, rfl, hP, lP, hQ⟩ := bs_miss hu' hf
      obtain ⟨A, c, B, rfl, hA, hBl, hfl⟩ := flat_at (h := h) o3
      have hAk := kid_at e (i := P.length) hA
      rw [hg] at hAk
      rw [← hP, hAk]
      have oc := o3.2 c (by simp)
      have hnc : (hsB d c).Nodup := by
        rw [hsK_mid] at hn
        exact (List.nodup_append.1 (List.nodup_append.1 (List.nodup_cons.1 hn).2).2.1).1
      rw [hfl] at hu hm
      have low := pre_low hA hu lP
      have high := suf_high hBl hu hQ
      have hmem := mem_of_bs low high hm
      refine ⟨by have := kids_len (h := h) o3; rw [nodeB_keys] at this; exact this, ih (lo := 2) (hk c (by simp)) hnc oc (by omega) (mid_up hu) hB hK hmem, ?_⟩
      have R := rem_ok d (k := k) (lo := 2) (hk c (by simp)) hnc oc (by omega) (mid_up hu) hB hmem
      exact sub_mendW (P := P) (Q := Q) e hk hn hA hBl (by omega) (fun s hs => o3.2 s (by simp [hs])) (fun s hs => o3.2 s (by simp [hs])) R hK
end
end Tp
