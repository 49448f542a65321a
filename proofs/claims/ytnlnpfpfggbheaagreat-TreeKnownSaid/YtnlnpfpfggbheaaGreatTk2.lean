/- Proved here: lemmas and walks on which the claim stands (part 2 of 7). No condition. -/
import Derived.Test.YtnlnpfpfggbheaaGreatTk1
import Derived.Lib.MinMax
import Derived.Laws.Shifts
import Derived.RangeFuncIn
import Derived.Lib.AppendZerosOnto
import Derived.Lib.Overlaps
import Derived.Laws.Externs
import Derived.Test.YtnlnpfpfggbheaaGreatChecked
set_option linter.all false
namespace Tp
open Go
def ndZero : Nd := ⟨false, [], [], []⟩
def hdZero : Handle := ⟨0, 0⟩
def leastF (l : List RPlace) : Nat := l.findIdx fun p => !p.used
def rmake (l : List RPlace) (n : Nd) : List RPlace × Handle :=
  match l[leastF l]? with
  | some p => (l.set (leastF l) ⟨true, p.turn + 1, n⟩, ⟨leastF l, p.turn + 1⟩)
  | none => (l ++ [⟨true, 1, n⟩], ⟨leastF l, 1⟩)
def rnode (l : List RPlace) (i : Nat) : Nd := match l[i]? with | some p => p.node | none => ndZero
def rget (l : List RPlace) (h : Handle) : Nd × Int := if rhas l h then (rnode l h.at_.toNat, 0) else (ndZero, 110)
def rput (l : List RPlace) (h : Handle) (n : Nd) : List RPlace × Int := if rhas l h then (l.set h.at_.toNat ⟨true, h.turn, n⟩, 0) else (l, 110)
def free1 (l : List RPlace) (h : Handle) : List RPlace := l.set h.at_.toNat ⟨false, h.turn, ndZero⟩
def freeAll (l : List RPlace) (hs : List Handle) : List RPlace := hs.foldl free1 l
def freeable (l : List RPlace) (hs : List Handle) : Bool := hs.all (rhas l) && decide hs.Nodup
def rfree (l : List RPlace) (hs : List Handle) : List RPlace × Int := if freeable l hs then (freeAll l hs, 0) else (l, 110)
def pickI (i n : Int) : Int := if n ≤ 0 then 0 else (i.tmod n + n).tmod n
section
variable {l : List RPlace} {ks : List Int} {i : Nat} {p : RPlace} {h : Handle} {t : Int} {n : Nd}
theorem rhas_iff : rhas l h = true ↔ 0 ≤ h.at_ ∧ ∃ p, l[h.at_.toNat]? = some p ∧ p.used = true ∧ p.turn = h.turn := by
  unfold rhas
  cases hp : l[h.at_.toNat]? with
  | none => simp
  | some p => simp
theorem rhas_place (hh : rhas l h = true) : ∃ p, l[h.at_.toNat]? = some p ∧ p.used = true ∧ p.turn = h.turn ∧ 0 ≤ h.at_ ∧ h.at_.toNat < l.length := by
  obtain ⟨h0, p, hp, h1, h2⟩ := rhas_iff.1 hh
  exact ⟨p, hp, h1, h2, h0, (List.getElem?_eq_some_iff.1 hp).1⟩
theorem isFree_nat : isFree l (i : Int) = (match l[i]? with | some p => !p.used | none => false) := by
  unfold isFree; rw [Int.toNat_natCast]; cases l[i]? <;> simp
theorem isFree_at (hp : l[i]? = some p) : isFree l (i : Int) = !p.used := by rw [isFree_nat, hp]
theorem isFree_at' {a : Int} (h0 : 0 ≤ a) (hp : l[a.toNat]? = some p) : isFree l a = !p.used := by
  have := isFree_at hp
  rwa [Int.toNat_of_nonneg h0] at this
theorem leastF_hit (hi : i < l.length) (hf : isFree l (i : Int) = true) (hb : ∀ j : Nat, j < i → isFree l (j : Int) = false) : leastF l = i := by
  unfold leastF
  rw [List.findIdx_eq hi]
  refine ⟨?_, fun j hj => ?_⟩
  · rw [isFree_nat, List.getElem?_eq_getElem hi] at hf; exact hf
  · have := hb j hj
    rw [isFree_nat, List.getElem?_eq_getElem (by omega)] at this; simpa using this
theorem leastF_all (hb : ∀ j : Nat, j < i → isFree l (j : Int) = false) (hi : l.length ≤ i) : leastF l = l.length := by
  unfold leastF
  rw [List.findIdx_eq_length]
  intro p hp
  obtain ⟨j, hj⟩ := List.getElem?_of_mem hp
  have hlt := (List.getElem?_eq_some_iff.1 hj).1
  have := hb j (by omega)
  rw [isFree_at hj] at this; simpa using this
theorem leastF_le : leastF l ≤ l.length := List.findIdx_le_length
theorem leastF_free (hp : l[leastF l]? = some p) : p.used = false := by
  have hlt := (List.getElem?_eq_some_iff.1 hp)
  have := List.findIdx_getElem (w := hlt.1)
  rw [← hlt.2]
  have h2 : (!(l[leastF l]'hlt.1).used) = true := this
  simpa using h2
theorem free_set_used (hK : FreeOk ks l) (hp : l[i]? = some p) (hu : p.used = true) : FreeOk ks (l.set i ⟨true, t, n⟩) := by
  refine ⟨hK.1, fun k => ?_⟩
  rw [hK.2]
  refine exists_congr fun j => and_congr_right fun _ => ?_
  rw [List.getElem?_set]
  by_cases e : i = j
  · subst e
    have := (List.getElem?_eq_some_iff.1 hp).1
    have e2 : l[i].used = true := by rw [(List.getElem?_eq_some_iff.1 hp).2]; exact hu
    simp [this, e2]
  · simp [e]
theorem free_make_old (hK : FreeOk ks l) (hi : i < l.length) : FreeOk (ks.erase (i : Int)) (l.set i ⟨true, t, n⟩) := by
  refine ⟨hK.1.erase _, fun k => ?_⟩
  rw [hK.1.mem_erase_iff, hK.2]
  constructor
  · rintro ⟨hne, j, rfl, q, hq, hu⟩
    refine ⟨j, rfl, q, ?_, hu⟩
    rw [List.getElem?_set, if_neg (fun e => hne (by rw [e]))]; exact hq
  · rintro ⟨j, rfl, q, hq, hu⟩
    rw [List.getElem?_set] at hq
    split at hq
    · simp [hi] at hq; subst hq; cases hu
    · rename_i hne; exact ⟨fun e => hne (by omega), j, rfl, q, hq, hu⟩
theorem free_make_new (hK : FreeOk ks l) (hi : i = l.length) : FreeOk (ks.erase (i : Int)) (l ++ [⟨true, t, n⟩]) := by
  subst hi
  refine ⟨hK.1.erase _, fun k => ?_⟩
  rw [hK.1.mem_erase_iff, hK.2]
  constructor
  · rintro ⟨hne, j, rfl, q, hq, hu⟩
    exact ⟨j, rfl, q, by rw [List.getElem?_append_left (List.getElem?_eq_some_iff.1 hq).1]; exact hq, hu⟩
  · rintro ⟨j, rfl, q, hq, hu⟩
    rcases Nat.lt_or_ge j l.length with hj | hj
    · rw [List.getElem?_append_left hj] at hq
      exact ⟨by omega, j, rfl, q, hq, hu⟩
    · rw [List.getElem?_append_right hj] at hq
      cases hjj : j - l.length with
      | zero => rw [hjj] at hq; simp at hq; subst hq; cases hu
      | succ m => rw [hjj] at hq; simp at hq
theorem free_free (hK : FreeOk ks l) (hi : i < l.length) : FreeOk (sadd (i : Int) ks) (l.set i ⟨false, t, n⟩) := by
  have hset : ∀ k : Int, (∃ j : Nat, k = j ∧ ∃ p, (l.set i ⟨false, t, n⟩)[j]? = some p ∧ p.used = false) ↔ k ∈ ks ∨ k = i := by
    intro k
    rw [hK.2]
    constructor
    · rintro ⟨j, rfl, q, hq, hu⟩
      rw [List.getElem?_set] at hq
      split at hq
      · rename_i e; right; rw [e]
      · left; exact ⟨j, rfl, q, hq, hu⟩
    · rintro (⟨j, rfl, q, hq, hu⟩ | rfl)
      · refine ⟨j, rfl, ?_⟩
        rw [List.getElem?_set]
        split
        · rename_i e; subst e; simp [hi]
        · exact ⟨q, hq, hu⟩
      · exact ⟨i, rfl, ⟨false, t, n⟩, by rw [List.getElem?_set]; simp [hi], rfl⟩
  unfold sadd
  split
  · rename_i hm
    refine ⟨hK.1, fun k => ?_⟩
    rw [hset]
    exact ⟨.inl, fun h => h.elim id fun e => e ▸ hm⟩
  · rename_i hm
    refine ⟨List.nodup_append.2 ⟨hK.1, by simp, fun a ha b hb e => ?_⟩, fun k => ?_⟩
    · simp at hb; subst hb; exact hm (e ▸ ha)
    · rw [hset]; simp
theorem rmake_old (hp : l[leastF l]? = some p) : rmake l n = (l.set (leastF l) ⟨true, p.turn + 1, n⟩, ⟨leastF l, p.turn + 1⟩) := by unfold rmake; rw [hp]
theorem rmake_new (he : leastF l = l.length) : rmake l n = (l ++ [⟨true, 1, n⟩], ⟨leastF l, 1⟩) := by
  unfold rmake; rw [List.getElem?_eq_none (by omega)]
theorem rhas_low (h0 : h.at_ < 0) : rhas l h = false := by unfold rhas; simp; omega
theorem rhas_high (h0 : (l.length : Int) ≤ h.at_) : rhas l h = false := by
  unfold rhas; rw [List.getElem?_eq_none (by omega)]; simp
theorem rhas_free (hf : isFree l h.at_ = true) : rhas l h = false := by
  unfold isFree at hf
  unfold rhas
  cases hp : l[h.at_.toNat]? with
  | none => simp
  | some p => rw [hp] at hf; simp at hf; simp [hf]
theorem rhas_turn (h0 : 0 ≤ h.at_) (hp : l[h.at_.toNat]? = some p) (hf : isFree l h.at_ = false) : rhas l h = (p.turn == h.turn) := by
  rw [isFree_at' h0 hp] at hf
  unfold rhas; rw [hp]; simp at hf; simp [h0, hf]
def SmallNd (n : Nd) : Prop := n.keys.length ≤ 1000000 ∧ n.kids.length ≤ 1000000 ∧ n.vals.length ≤ 1000000
def SmallA (l : List RPlace) : Prop := l.length ≤ 1000000 ∧ ∀ (i : Nat) (p : RPlace), l[i]? = some p → 0 ≤ p.turn ∧ p.turn ≤ 1000000 ∧ SmallNd p.node
theorem rget_hit (hh : rhas l h = true) (hp : l[h.at_.toNat]? = some p) : rget l h = (p.node, 0) := by unfold rget rnode; rw [if_pos hh, hp]
theorem rget_miss (hh : rhas l h = false) : rget l h = (ndZero, 110) := by unfold rget; rw [if_neg (by simp [hh])]
theorem rput_hit (hh : rhas l h = true) : rput l h n = (l.set h.at_.toNat ⟨true, h.turn, n⟩, 0) := by unfold rput; rw [if_pos hh]
theorem rput_miss (hh : rhas l h = false) : rput l h n = (l, 110) := by unfold rput; rw [if_neg (by simp [hh])]
end
end Tp
namespace Tp
open Go
section
variable {l : List RPlace} {ks : List Int} {i : Nat} {p : RPlace} {h : Handle} {t : Int} {n : Nd} {hs : List Handle}
theorem free_nil : FreeOk [] [] := ⟨List.nodup_nil, fun k => by simp⟩
theorem Mem.nodesNil {F X : Nat → Prop} {w w0 : World} {L : List Chunk} {R : List (World → Prop)} (M : Mem F X w0 L R w) : Mem F X w0 (nodesC (fun _ => False) [] [] :: L) R w :=
  M.own (Mod.refl _ _) ⟨fun _ h => h.elim, fun w' _ => ⟨rfl, fun i x h => by simp at h⟩⟩ fun _ h => h.elim
theorem free1_len : (free1 l h).length = l.length := by simp [free1]
theorem freeAll_len : (freeAll l hs).length = l.length := by
  unfold freeAll
  induction hs generalizing l with
  | nil => rfl
  | cons h hs ih => rw [List.foldl_cons, ih, free1_len]
theorem freeAll_snoc (hi : hs[i]? = some h) : freeAll l (hs.take (i + 1)) = free1 (freeAll l (hs.take i)) h := by
  rw [← take_snoc hi]; simp [freeAll]
theorem freeAll_turn (hall : ∀ h, h ∈ hs → rhas l h = true) : ∀ {p : RPlace}, (freeAll l hs)[i]? = some p → ∃ q, l[i]? = some q ∧ p.turn = q.turn := by
  suffices H : ∀ (hs : List Handle) (m : List RPlace), (∀ h, h ∈ hs → rhas l h = true) → (∀ p, m[i]? = some p → ∃ q, l[i]? = some q ∧ p.turn = q.turn) → ∀ p, (freeAll m hs)[i]? = some p → ∃ q, l[i]? = some q ∧ p.turn = q.turn from
    fun {p} hp => H hs l hall (fun p hp => ⟨p, hp, rfl⟩) p hp
  intro hs
  induction hs with
  | nil => intro m _ hm p hp; exact hm p hp
  | cons h hs ih =>
    intro m hall hm p hp
    refine ih (free1 m h) (fun x hx => hall x (by simp [hx])) (fun p hp => ?_) p hp
    unfold free1 at hp
    rw [List.getElem?_set] at hp
    split at hp
    · rename_i e
      split at hp
      · obtain ⟨q, hq, _, ht, _⟩ := rhas_place (hall h (by simp))
        simp at hp; subst hp; subst e
        exact ⟨q, hq, ht.symm⟩
      · cases hp
    · exact hm p hp
theorem freeable_iff : freeable l hs = true ↔ (∀ h, h ∈ hs → rhas l h = true) ∧ hs.Nodup := by simp [freeable]
def freeOkTo (l : List RPlace) (hs : List Handle) (i : Nat) : Prop := ∀ j h, j < i → hs[j]? = some h → rhas l h = true ∧ h ∉ hs.take j
theorem freeOkTo_step (ho : freeOkTo l hs i) (hi : hs[i]? = some h) (h1 : rhas l h = true) (h2 : decide (h ∈ hs.take i) = false) : freeOkTo l hs (i + 1) := by
  intro j x hj hx
  rcases Nat.lt_or_ge j i with hlt | hge
  · exact ho j x hlt hx
  · have : j = i := by omega
    subst this
    rw [hi] at hx; cases hx
    exact ⟨h1, by simpa using h2⟩
theorem freeable_of (ho : freeOkTo l hs i) (hi : hs.length ≤ i) : freeable l hs = true := by
  rw [freeable_iff]
  refine ⟨fun h hh => ?_, ?_⟩
  · obtain ⟨j, hj⟩ := List.getElem?_of_mem hh
    exact (ho j h (by have := (List.getElem?_eq_some_iff.1 hj).1; omega) hj).1
  · unfold List.Nodup
    rw [List.pairwise_iff_getElem]
    intro a b ha hb hab e
    refine (ho b hs[b] (by omega) (List.getElem?_eq_getElem hb)).2 ?_
    rw [← e]
    exact List.mem_of_getElem? (i := a) (by rw [List.getElem?_take, if_pos hab, List.getElem?_eq_getElem ha])
theorem freeable_not (hi : hs[i]? = some h) (hn : rhas l h = false ∨ decide (h ∈ hs.take i) = true) : freeable l hs = false := by
  cases hf : freeable l hs with
  | false => rfl
  | true =>
    exfalso
    obtain ⟨h1, h2⟩ := freeable_iff.1 hf
    rcases hn with hn | hn
    · rw [h1 h (List.mem_of_getElem? hi)] at hn; cases hn
    · have hm : h ∈ hs.take i := by simpa using hn
      obtain ⟨j, hj⟩ := List.getElem?_of_mem hm
      rw [List.getElem?_take] at hj
      split at hj
      · rename_i hlt
        obtain ⟨a1, a2⟩ := List.getElem?_eq_some_iff.1 hi
        obtain ⟨b1, b2⟩ := List.getElem?_eq_some_iff.1 hj
        exact List.pairwise_iff_getElem.1 h2 j i b1 a1 hlt (b2.trans a2.symm)
      · cases hj
theorem rfree_hit (hf : freeable l hs = true) : rfree l hs = (freeAll l hs, 0) := by unfold rfree; rw [if_pos hf]
theorem rfree_miss (hf : freeable l hs = false) : rfree l hs = (l, 110) := by unfold rfree; rw [if_neg (by simp [hf])]
end
end Tp
namespace Tp
def smallAB (l : List RPlace) : Bool := decide (l.length ≤ 1000000) && l.all fun p => decide (0 ≤ p.turn) && decide (p.turn ≤ 1000000) && decide (p.node.keys.length ≤ 1000000) && decide (p.node.kids.length ≤ 1000000) && decide (p.node.vals.length ≤ 1000000)
theorem smallA_of {l : List RPlace} (h : smallAB l = true) : SmallA l := by
  simp only [smallAB, Bool.and_eq_true, decide_eq_true_eq, List.all_eq_true] at h
  refine ⟨h.1, fun i p hp => ?_⟩
  obtain ⟨⟨⟨⟨h1, h2⟩, h3⟩, h4⟩, h5⟩ := h.2 p (List.mem_of_getElem? hp)
  exact ⟨h1, h2, h3, h4, h5⟩
end Tp
namespace Tp
open Go
namespace Step
variable {P : Program} {ρ : Env} {w : World} {ty : TypeId}
theorem maxI {ts : Array TypeId} {x y : Operand} {k : IntKind} {a b : Int} (hx : ρ.ev x = .int k a) (hy : ρ.ev y = .int k b) :
    Step P (.call { callee := .builtin .max, args := #[x, y], argTypes := ts }) ty ρ w (.int k (max a b)) w := by
  intro d pos aft g
  left
  simp [execOp, resolve, invoke, builtin, hx, hy, Lib.run_max_ints]
theorem minI {ts : Array TypeId} {x y : Operand} {k : IntKind} {a b : Int} (hx : ρ.ev x = .int k a) (hy : ρ.ev y = .int k b) :
    Step P (.call { callee := .builtin .min, args := #[x, y], argTypes := ts }) ty ρ w (.int k (min a b)) w := by
  intro d pos aft g
  left
  simp [execOp, resolve, invoke, builtin, hx, hy, Lib.run_min_ints]
end Step
end Tp
namespace Tp
open Go
def vSlice (size l h m : Nat) : Value → Value
  | .slice a _ _ => .slice (if m = l then a else a.map (·.add (l * size))) (h - l) (m - l)
  | v => v
def vCap : Value → Nat
  | .slice _ _ c => c
  | _ => 0
theorem vSlice_sl {size l h m : Nat} {v : Value} (hv : IsSl v) : IsSl (vSlice size l h m v) := by
  obtain ⟨a, n, c, rfl⟩ := hv; exact ⟨_, _, _, rfl⟩
theorem addr_add_none (b o k : Nat) : (⟨b, o, none⟩ : Addr).add k = ⟨b, o + k, none⟩ := by unfold Addr.add; split <;> simp_all
theorem slat_slice {size n l h m : Nat} {v : Value} {cs : List Value} {w : World} (H : SlAt size v n cs w) (hlh : l ≤ h) (hn : h ≤ n) (hm : h ≤ m) (hc : m ≤ vCap v) :
    SlAt size (vSlice size l h m v) (h - l) ((cs.drop (l * size)).take ((h - l) * size)) w := by
  rcases H with ⟨⟨a, rfl⟩, rfl, rfl⟩ | ⟨b, o, cap, c, e, fz, rfl, h1, h2, h3, h4, h5, h6⟩
  · have : h = 0 := by omega
    subst this
    have : l = 0 := by omega
    subst this
    have : m = 0 := by simpa [vCap] using hc
    subst this
    exact .inl ⟨⟨a, by simp [vSlice]⟩, rfl, by simp⟩
  · have hc' : m ≤ cap := hc
    by_cases e1 : m = l
    · have : h = l := by omega
      subst this
      subst e1
      exact .inl ⟨⟨some ⟨b, o, none⟩, by simp [vSlice]⟩, by omega, by simp⟩
    · refine .inr ⟨b, o + l * size, m - l, c, e, fz, ?_, by omega, by omega, h3, ?_, ?_, fun j hj => ?_⟩
      · simp [vSlice, e1, addr_add_none]
      · have : (m - l) * size + l * size = m * size := by rw [← Nat.add_mul]; congr 1; omega
        have : m * size ≤ cap * size := Nat.mul_le_mul_right _ hc'
        omega
      · rw [List.length_take, List.length_drop, h5]
        have : (h - l) * size + l * size = h * size := by rw [← Nat.add_mul]; congr 1; omega
        have : h * size ≤ n * size := Nat.mul_le_mul_right _ hn
        omega
      · have e2 : (h - l) * size + l * size = h * size := by rw [← Nat.add_mul]; congr 1; omega
        have e3 : h * size ≤ n * size := Nat.mul_le_mul_right _ hn
        rw [List.getElem?_take, if_pos hj, List.getElem?_drop, ← h6 _ (by omega), Nat.add_assoc]
theorem slat_sliceF {α : Type} {enc : α → List Value} {size : Nat} (he : ∀ x, (enc x).length = size) {v : Value} {xs : List α} {l h m : Nat} {w : World} (H : SlAt size v xs.length (xs.flatMap enc) w) (hlh : l ≤ h) (hn : h ≤ xs.length) (hm : h ≤ m) (hc : m ≤ vCap v) :
    SlAt size (vSlice size l h m v) ((xs.drop l).take (h - l)).length (((xs.drop l).take (h - l)).flatMap enc) w := by
  have := slat_slice H hlh hn hm hc
  rw [drop_flatMap he, take_flatMap he] at this
  rwa [show ((xs.drop l).take (h - l)).length = h - l by simp; omega]
theorem SlAt.cap {size n : Nat} {v : Value} {cs : List Value} {w : World} (H : SlAt size v n cs w) : n ≤ vCap v ∧ vCap v ≤ maxLen := by
  rcases H with ⟨⟨a, rfl⟩, rfl, _⟩ | ⟨b, o, cap, _, _, _, rfl, h, h', _⟩
  · exact ⟨Nat.le_refl _, Nat.zero_le _⟩
  · exact ⟨h, h'⟩
namespace Step
variable {P : Program} {ρ : Env} {w : World} {ty t e : TypeId} {x a b c : Operand} {v : Value} {size n l h m : Nat} {k k' k'' : IntKind} {z z' z'' : Int}
theorem sliceFrom {ad : Option Addr} {cap : Nat} (ht : Und P t (.slice e)) (hs : Sized P e size) (hx : ρ.ev x = v) (hi : ρ.ev a = .int k z) (hz : z = (l : Int)) (hv : v = .slice ad n cap) (hle : l ≤ n) :
    Step P (.slice t x (some a) none none) ty ρ w (vSlice size l n (vCap v) v) w := by
  intro d pos aft g
  left
  subst hz
  subst hv
  have h1 : (0 : Int) ≤ l ∧ (l : Int) ≤ n := ⟨by omega, by omega⟩
  have h3 : ¬ (n < l) := by omega
  simp [execOp, Instr.sliceAt, Instr.slice, hx, hi, ht.run, Instr.sliceBounds, Instr.sliceBound, asIntOf, hs w, h1, h3, vSlice, vCap, hle]
  try rfl
theorem sliceLH {ad : Option Addr} {cap : Nat} (ht : Und P t (.slice e)) (hs : Sized P e size) (hx : ρ.ev x = v) (hi : ρ.ev a = .int k z) (hz : z = (l : Int)) (hj : ρ.ev b = .int k' z') (hz' : z' = (h : Int)) (hv : v = .slice ad n cap) (hle : l ≤ h) (hc : h ≤ cap) :
    Step P (.slice t x (some a) (some b) none) ty ρ w (vSlice size l h (vCap v) v) w := by
  intro d pos aft g
  left
  subst hz
  subst hz'
  subst hv
  have h1 : (0 : Int) ≤ l ∧ (l : Int) ≤ h := ⟨by omega, by omega⟩
  have h2 : (0 : Int) ≤ h ∧ (h : Int) ≤ cap := ⟨by omega, by omega⟩
  have h3 : ¬ (cap < h) := by omega
  have h4 : ¬ (h < l) := by omega
  simp [execOp, Instr.sliceAt, Instr.slice, hx, hi, hj, ht.run, Instr.sliceBounds, Instr.sliceBound, asIntOf, hs w, h1, h2, h3, h4, vSlice, vCap, hle, hc]
  try rfl
theorem sliceH {ad : Option Addr} {cap : Nat} (ht : Und P t (.slice e)) (hs : Sized P e size) (hx : ρ.ev x = v) (hj : ρ.ev b = .int k' z') (hz' : z' = (h : Int)) (hv : v = .slice ad n cap) (hc : h ≤ cap) :
    Step P (.slice t x none (some b) none) ty ρ w (.slice ad h cap) w := by
  intro d pos aft g
  left
  subst hz'
  subst hv
  have h2 : (0 : Int) ≤ h ∧ (h : Int) ≤ cap := ⟨by omega, by omega⟩
  have h3 : ¬ (cap < h) := by omega
  have hadd : ∀ a : Addr, a.add 0 = a := fun a => by unfold Addr.add; split <;> simp_all
  have h5 : (Option.map (fun a : Addr => a.add 0) ad) = ad := by cases ad <;> simp [hadd]
  simp [execOp, Instr.sliceAt, Instr.slice, hx, hj, ht.run, Instr.sliceBounds, Instr.sliceBound, asIntOf, hs w, h2, h3, h5, hc]
theorem remN {t ty' : TypeId} {y : Operand} {k : IntKind} {a b : Int} (hx : ρ.ev x = .int k a) (hy : ρ.ev y = .int k b) (ha : 0 ≤ a) (hb : 0 < b) : Step P (.binOp .rem t x y ty') ty ρ w (.int k (a % b)) w := by
  rw [← Int.tmod_eq_emod_of_nonneg ha]
  exact Step.rem hx hy (by omega)
theorem quoN {t ty' : TypeId} {y : Operand} {k : IntKind} {a b : Int} (hx : ρ.ev x = .int k a) (hy : ρ.ev y = .int k b) (ha : 0 ≤ a) (hb : 0 < b) (hc : k.wrap (a / b) = a / b) : Step P (.binOp .quo t x y ty') ty ρ w (.int k (a / b)) w := by
  refine Step.quo hx hy (by omega) ?_
  rw [Int.tdiv_eq_ediv_of_nonneg ha]; exact hc
end Step
section
variable {P : Program} {ops : Array Oper} {ld mk : List Nat} {Q : Env → World → Prop} {i : Nat} {d : Option Nat} {op : Op} {ty : TypeId} {pos : String} {aft : Array Edge} {g : Option (Nat × Bool)}
  {rest : List Nat} {ρ : Env} {F X : Nat → Prop} {w0 : World} {Lp L : List Chunk} {Rp R : List (World → Prop)}
theorem TW.doesM {c : Chunk} (C : Value → Chunk) (j : Nat) (hj : L[j]? = some c) (hi : ops[i]? = some ⟨d, op, ty, pos, aft, g⟩) (hl : i ∈ ld) (hw : ρ.want ops g = true)
    (hL : ∀ v, Lp.Sublist (L.set j (C v))) (hR : ∀ r, r ∈ Rp → r ∈ R)
    (h : ∀ A w, Mem F X w0 (fl A :: L) R w → Does P ⟨d, op, ty, pos, aft, g⟩ ρ w fun v w' => Mod c.foot w w' ∧ Mem F X w0 ((fl A :: L).set (j + 1) (C v)) R w')
    (k : ∀ v, (∃ A w, Mem F X w0 (fl A :: L.set j (C v)) R w) → TW P ops ld mk (Dm F X w0 Lp Rp) Q rest (ρ.put d v) (MemA F X w0 (L.set j (C v)) R)) (hm : i ∉ mk := by decide) : TW P ops ld mk (Dm F X w0 Lp Rp) Q (i :: rest) ρ (MemA F X w0 L R) := by
  refine .loud (hm := hm) (fun v A w => MemA F X w0 (L.set j (C v)) R A w) hi hl hw (fun v => good_mem (hL v) hR) (fun A w M => ?_) ?_
  · refine Does.mono (h A w M) fun v w' ⟨h1, h2⟩ => ⟨?_, fun b hb => ?_⟩
    · rwa [List.set_cons_succ] at h2
    · exact h1.block b ((Mem.chunk M 0 rfl).lt b hb) (Mem.disj_ne M (i := 0) (j := j + 1) rfl (by simpa using hj) (by omega) b hb)
  · rintro v ⟨A, w, hM⟩
    exact k v ⟨A, w, hM⟩
end
theorem Mem.appendF' {α : Type} {enc : α → List Value} {P : Program} {F X : Nat → Prop} {w0 w : World} {L : List Chunk} {R : List (World → Prop)} {ρ : Env} {d : Option Nat} {pos : String} {aft : Array Edge} {g : Option (Nat × Bool)} {t ty e : TypeId} {z : Value} {size bytes : Nat} {x y : Operand}
    {v sv : Value} (xs ys : List α) (M : Mem F X w0 L R w) (i : Nat) (ht : Und P t (.slice e)) (he : Elem P e z size bytes) (hzs : z.cells.size = size) (hsz : 0 < size)
    (hx : ρ.ev x = v) (hy : ρ.ev y = sv) (hi : L[i]? = some (Tp.own e size v xs.length (xs.flatMap enc))) (hsrc : SlAt size sv ys.length (ys.flatMap enc) w) (h1 : ∀ x, Step.Cellish (enc x))
    (h63 : xs.length + ys.length ≤ maxLen) (hb : (xs.length + ys.length) * bytes ≤ 140737488355328) :
    Does P ⟨d, .call { callee := .builtin .append, args := #[x, y], argTypes := #[t, t] }, ty, pos, aft, g⟩ ρ w fun v' w' =>
      Mod (Tp.own e size v xs.length (xs.flatMap enc)).foot w w' ∧ Mem F X w0 (L.set i (Tp.own e size v' (xs ++ ys).length ((xs ++ ys).flatMap enc))) R w' := by
  refine (M.append i ht he hzs hsz hx hy hi hsrc (cel_flatMap h1 ys).one h63 hb).mono fun v' w' ⟨_, h2, M'⟩ => ⟨h2, ?_⟩
  rw [List.length_append, List.flatMap_append]
  exact M'
end Tp
namespace Tp
open Go
def shrI (k : IntKind) (a b : Int) : Int := a / 2 ^ min b.toNat k.bits
theorem shrI_nonneg {k : IntKind} {a b : Int} (h : 0 ≤ a) : 0 ≤ shrI k a b := Int.ediv_nonneg h (Int.pow_nonneg (by decide))
namespace Step
variable {P : Program} {ρ : Env} {w : World} {ty : TypeId}
theorem conv {s t : TypeId} {x : Operand} {j j' k : IntKind} {a c : Int} (hs : Und P s (.int j)) (ht : Und P t (.int k)) (hx : ρ.ev x = .int j' a) (hc : k.wrap a = c) : Step P (.convert s t x) ty ρ w (.int k c) w := by
  intro d pos aft g
  left
  have h1 : P.underlying s = some (.int j) := hs
  have h2 : P.underlying t = some (.int k) := ht
  simp [execOp, hx, convert, Conv.intToInt, underlying, h1, h2, hc]
theorem shr {t ty' : TypeId} {x y : Operand} {k j : IntKind} {a b : Int} (hx : ρ.ev x = .int k a) (hy : ρ.ev y = .int j b) (hb : 0 ≤ b) : Step P (.binOp .shr t x y ty') ty ρ w (.int k (shrI k a b)) w := by
  intro d pos aft g
  left
  simp [execOp, eqGuard, hx, hy, binOp, shift_shr_any _ _ _ _ hb, shrI]
end Step
theorem wrap_u8 {a : Int} (h : 0 ≤ a ∧ a < 256) : IntKind.u8.wrap a = a := by
  obtain ⟨h1, h2⟩ := h
  simp [IntKind.wrap, IntKind.signed, IntKind.bits]; omega
end Tp
namespace Tp
open Go
theorem splice_whole {α : Type} {enc : α → List Value} {size : Nat} (he : ∀ x, (enc x).length = size) {xs : List α} {j : Nat} (hj : j < xs.length) (x' : α) :
    splice (xs.flatMap enc) (j * size + 0) (enc x') = (xs.set j x').flatMap enc := by
  refine splice_flat he (List.getElem?_eq_getElem hj) (by rw [he]; omega) ?_
  simp [splice, he]
namespace Mem
variable {F X : Nat → Prop} {w0 w w' : World} {L : List Chunk} {R : List (World → Prop)} {P : Program} {ρ : Env}
theorem storeF {α : Type} {enc : α → List Value} {t e ty : TypeId} {x y : Operand} {size j : Nat} {v u : Value} {xs : List α} (he : ∀ x, (enc x).length = size) (x' : α) (M : Mem F X w0 L R w) (i : Nat) (hi : L[i]? = some (Tp.own e size v xs.length (xs.flatMap enc)))
    (ht : Sized P t size) (ha : ρ.ev x = .pointer (some ⟨sBlk v, sOff v + j * size, none⟩)) (hv : ρ.ev y = u) (hnew : u.cells.toList = enc x') (hl : Step.Cellish (enc x')) (hj : j < xs.length) :
    ∃ w', Step P (.store t x y) ty ρ w undef w' ∧ Mem F X w0 (L.set i (Tp.own e size v (xs.set j x').length ((xs.set j x').flatMap enc))) R w' ∧ Mod (Tp.own e size v xs.length (xs.flatMap enc)).foot w w' := by
  have ht' : Sized P t (enc x').length := by rw [he]; exact ht
  have := M.storeRow (ty := ty) (k := 0) i hi ht' (by rw [ha]; rfl) hv hnew hl hj (by rw [he]; omega)
  rw [splice_whole he hj] at this
  rwa [List.length_set]
end Mem
end Tp
namespace Tp
open Go
def packL (Ls : List Chunk) : Chunk := ⟨Foots Ls, fun w => (Ls.Pairwise fun c d => ∀ b, c.foot b → ¬ d.foot b) ∧ ∀ c, c ∈ Ls → c.Ok w⟩
namespace Mem
variable {F X : Nat → Prop} {w0 w w' : World} {L L' Ls : List Chunk} {R R' : List (World → Prop)}
theorem packL (M : Mem F X w0 (Ls ++ L) R w) : Mem F X w0 (Tp.packL Ls :: L) R w :=
  Mem.take (C' := Ls) M _ rfl fun w' hok => ⟨(List.pairwise_append.1 M.disj).1, hok⟩
theorem unpackL (M : Mem F X w0 (Tp.packL Ls :: L) R w) : Mem F X w0 (Ls ++ L) R w := by
  obtain ⟨h3, h4⟩ := (M.chunk 0 rfl).inv
  have hf : ∀ c, c ∈ Ls → ∀ b, c.foot b → (Tp.packL Ls).foot b := fun c hc b hb => ⟨c, hc, hb⟩
  have hp := List.pairwise_cons.1 M.disj
  refine ⟨M.mod, fun c hc => ?_, List.pairwise_append.2 ⟨h3, hp.2, fun c hc d hd b hb => hp.1 d hd b (hf c hc b hb)⟩, fun c hc b hb => ?_, fun r hr => (M.sh r hr).mono fun b hb _ => ⟨hb.1, fun c hc hcb => ?_⟩⟩
  · rcases List.mem_append.1 hc with hc | hc
    · exact h4 c hc
    · exact M.ok c (by simp [hc])
  · rcases List.mem_append.1 hc with hc | hc
    · exact M.in_ (Tp.packL Ls) (by simp) b (hf c hc b hb)
    · exact M.in_ c (by simp [hc]) b hb
  · rcases List.mem_append.1 hc with hc | hc
    · exact hb.2 (Tp.packL Ls) (by simp) (hf c hc b hcb)
    · exact hb.2 c (by simp [hc]) hcb
end Mem
def loopC (n : Nat) (f : Nat → Value) (ps : Array Tmp) (ar_ bd : Code) (l : Nat) (st : LoopState) (pend : Option Code) : Chunk :=
  ⟨(· = l), fun w => ∃ r : Loop, w.heap[l]? = some (.loop r) ∧ r.state = st ∧ r.pending = pend ∧ r.params = ps ∧ r.assign = ar_ ∧ r.body = bd ∧ EnvOf n ⟨f, [], some l⟩ ⟨r.tmps, []⟩⟩
section
variable {n : Nat} {f : Nat → Value} {ps : Array Tmp} {ar_ bd : Code} {l : Nat} {st : LoopState} {pend : Option Code} {w : World}
theorem loopC_ok (h : (loopC n f ps ar_ bd l st pend).inv w) : (loopC n f ps ar_ bd l st pend).Ok w := by
  obtain ⟨r, h1, h2⟩ := h
  exact ⟨fun _ e => by rw [show _ = l from e]; exact lt_of_blk h1, fun _ h' => ⟨r, (h' l rfl).trans h1, h2⟩⟩
theorem putObj_mod (w : World) (b : Nat) (o : Obj) : Mod (· = b) w (w.putObj b o) := blkSet_mod w b o
variable {F X : Nat → Prop} {w0 : World} {L : List Chunk} {R : List (World → Prop)}
theorem Mem.loopSet (M : Mem F X w0 L R w) (i : Nat) (hi : L[i]? = some (loopC n f ps ar_ bd l st pend)) (st' : LoopState) (pend' : Option Code) :
    ∃ r : Loop, w.heap[l]? = some (.loop r) ∧ r.state = st ∧ r.pending = pend ∧ Mem F X w0 (L.set i (loopC n f ps ar_ bd l st' pend')) R (w.putObj l (.loop { r with state := st', pending := pend' })) := by
  obtain ⟨r, h1, h2, h3, h4⟩ := (M.chunk i hi).inv
  refine ⟨r, h1, h2, h3, M.turn i hi (putObj_mod w l _) (loopC_ok ⟨_, World.putObj_heap_same (lt_of_blk h1), rfl, rfl, h4⟩) fun _ h => .inl h⟩
theorem Mem.beginRound (M : Mem F X w0 L R w) (i : Nat) (hi : L[i]? = some (loopC n f ps ar_ bd l .ready pend)) :
    ∃ r : Loop, w.heap[l]? = some (.loop r) ∧ r.state = .ready ∧ Mem F X w0 (L.set i (loopC n f ps ar_ bd l .busy pend)) R (w.putObj l (.loop { r with state := .busy })) := by
  obtain ⟨r, h1, h2, h3, h4⟩ := M.loopSet i hi .busy pend
  exact ⟨r, h1, h2, by rw [← h3] at h4 ⊢; exact h4⟩
theorem Mem.endRound (M : Mem F X w0 L R w) (i : Nat) (hi : L[i]? = some (loopC n f ps ar_ bd l st pend)) (jump : Option Code) :
    ∃ r : Loop, w.heap[l]? = some (.loop r) ∧ Mem F X w0 (L.set i (loopC n f ps ar_ bd l (if jump.isNone then .ready else .done) jump)) R (w.putObj l (.loop { r with state := if jump.isNone then .ready else .done, pending := jump })) :=
  let ⟨r, h1, _, _, h4⟩ := M.loopSet i hi (if jump.isNone then .ready else .done) jump; ⟨r, h1, h4⟩
theorem Mem.endLoop (M : Mem F X w0 L R w) (i : Nat) (hi : L[i]? = some (loopC n f ps ar_ bd l st pend)) (hst : st ≠ .busy) :
    ∃ r : Loop, w.heap[l]? = some (.loop r) ∧ r.state ≠ .busy ∧ r.pending = pend ∧ Mem F X w0 (L.eraseIdx i) R (w.putObj l (.loop { r with state := .exhausted })) := by
  obtain ⟨r, h1, h2, h3, h4⟩ := (M.chunk i hi).inv
  exact ⟨r, h1, by rw [h2]; exact hst, h3, M.lose1 i hi (putObj_mod w l _)⟩
theorem Mem.strike {D : Nat} (M : Mem F X w0 L R w) (i : Nat) (hi : L[i]? = some (Tp.blk D (.deferred (some [])))) : w.heap[D]? = some (.deferred (some [])) ∧ Mem F X w0 (L.eraseIdx i) R (w.putObj D (.deferred none)) :=
  ⟨M.blk i hi, M.lose1 i hi (putObj_mod w D _)⟩
end
def RoundQ (l : Nat) (R : Value → World → Prop) (e : Exit) (_ : Env) (w : World) : Prop :=
  (e = .normal ∧ ∃ r : Loop, w.heap[l]? = some (.loop r) ∧ R (.bool true) (w.putObj l (.loop { r with state := .ready, pending := none }))) ∨
  (e = .ret ∧ ∃ r : Loop, w.heap[l]? = some (.loop r) ∧ R (.bool false) (w.putObj l (.loop { r with state := .done, pending := some .ret })))
def RoundA (P : Program) (n : Nat) (bd : Code) (l : Nat) (R : Value → World → Prop) (e : Exit) (ρ : Env) (w : World) : Prop :=
  e = .normal ∧ ∃ r : Loop, w.heap[l]? = some (.loop r) ∧ r.state = .ready ∧ W P n bd (RoundQ l R) ρ (w.putObj l (.loop { r with state := .busy }))
def Env.puts (ρ : Env) : List (Tmp × Value) → Env
  | [] => ρ
  | (t, v) :: l => (ρ.put (some t) v).puts l
theorem EnvOf.puts {n : Nat} : ∀ (l : List (Tmp × Value)) {ρ : Env} {a : Act}, EnvOf n ρ a → (∀ p, p ∈ l → p.1 < n) → EnvOf n (ρ.puts l) ⟨l.foldl (fun t p => t.setIfInBounds p.1 p.2) a.tmps, a.defers⟩
  | [], _, _, h, _ => h
  | (t, v) :: l, ρ, a, h, hl => EnvOf.puts l (h.put (some t) (by simpa using hl (t, v) (by simp)) v) fun p hp => hl p (by simp [hp])
theorem Env.puts_rd (ρ : Env) (l : List (Tmp × Value)) : (ρ.puts l).rd = ρ.rd := by
  induction l generalizing ρ with
  | nil => rfl
  | cons p l ih => rw [Env.puts, ih]; rfl
section
variable {P : Program} {n : Nat} {f : Nat → Value} {ps : Array Tmp} {ar_ bd : Code} {l : Nat} {w w0 : World} {F X : Nat → Prop} {L : List Chunk} {R : List (World → Prop)} {Q : Value → World → Prop}
theorem RetsV.yieldM {LC : LoopState → Option Code → Chunk} (hLC : loopC n f ps ar_ bd l = LC) (M : Mem F X w0 L R w) (i : Nat) (hi : L[i]? = some (LC .ready none)) (args : List Value) (hs : args.length = ps.size) (hps : ps.toList.all (· < n) = true)
    (h : W P n ar_ (RoundA P n bd l Q) (Env.puts ⟨f, [], some l⟩ (ps.toList.zip args)) w) : RetsV P (.func (.yield l) #[] #[]) args.toArray w Q := by
  subst hLC
  obtain ⟨r, h1, h2, h3, rfl, rfl, rfl, hE⟩ := (M.chunk i hi).inv
  refine ⟨.round l r.fn ((r.params.zip args.toArray).foldl (fun tmps (t, a) => tmps.setIfInBounds t a) r.tmps) r.assign r.body, rfl, ?_, ?_⟩
  · have := run_yield (P := P) (args := args.toArray) h1 (by simpa using hs)
    simp only [vcall, Deferred.ofValue, invoke, Sem.run_bind, Sem.run_pure, Result.andThen_ok, Array.empty_append]
    exact this
  · intro c cs
    let b : Frame := { (default : Frame) with fn := r.fn, kind := .normal, roundOf := some l }
    have hb0 : ∀ tm, nxFrame P (.round l r.fn tm r.assign r.body) = b.atR { tmps := tm, defers := [] } [.code r.assign, .beginRound, .code r.body] := fun tm => by
      simp [nxFrame, Frame.round, Frame.atR, b]
    have hE2 := EnvOf.puts (r.params.toList.zip args) hE (fun p hp => by
      have := List.all_eq_true.1 hps p.1 (List.of_mem_zip hp).1
      simpa using this)
    have hfold : (r.params.zip args.toArray).foldl (fun tmps (t, a) => tmps.setIfInBounds t a) r.tmps = (r.params.toList.zip args).foldl (fun t p => t.setIfInBounds p.1 p.2) r.tmps := by
      rw [← Array.foldl_toList, Array.toList_zip]
    rw [hfold, hb0]
    obtain ⟨e, a1, w1, ⟨ρ1, g1, g2, rfl, r1, g3, g4, g5⟩, harr⟩ := h _ hE2 b [.beginRound, .code r.body] (c :: cs) (by rw [Env.puts_rd])
    have s1 : Steps P (lone (b.atR a1 [.beginRound, .code r.body]) (c :: cs) w1) (lone (b.atR a1 [.code r.body]) (c :: cs) (w1.putObj l (.loop { r1 with state := .busy }))) :=
      .one (stepR_beginRound rfl (run_beginRound g3 g4))
    obtain ⟨e, a2, w2, ⟨ρ2, k1, k2, k3⟩, harr2⟩ := g5 a1 g1 b [] (c :: cs) (by rw [g2, Env.puts_rd])
    have s2 := Steps.trans harr s1
    rcases k3 with ⟨rfl, r2, q1, q2⟩ | ⟨rfl, r2, q1, q2⟩
    · exact ⟨_, _, q2, s2.trans (Steps.trans harr2 (.one (stepR_round_end (v := .bool true) rfl rfl (run_endRound none q1))))⟩
    · obtain ⟨k0, hs0⟩ := harr2
      exact ⟨_, _, q2, s2.trans (Steps.trans hs0 (.one (stepR_round_ret (v := .bool false) rfl rfl (run_endRound (some .ret) q1))))⟩
theorem RoundA.go {LC : LoopState → Option Code → Chunk} {pend : Option Code} {ρ : Env} (hLC : loopC n f ps ar_ bd l = LC) (M : Mem F X w0 L R w) (i : Nat) (hi : L[i]? = some (LC .ready pend))
    (k : ∀ w', Mem F X w0 (L.set i (LC .busy pend)) R w' → W P n bd (RoundQ l Q) ρ w') : RoundA P n bd l Q .normal ρ w := by
  subst hLC
  obtain ⟨r, h1, h2, h3⟩ := M.beginRound i hi
  exact ⟨rfl, r, h1, h2, k _ h3⟩
theorem RoundQ.go {LC : LoopState → Option Code → Chunk} {st : LoopState} {pend : Option Code} {ρ : Env} (hLC : loopC n f ps ar_ bd l = LC) (M : Mem F X w0 L R w) (i : Nat) (hi : L[i]? = some (LC st pend))
    (k : ∀ w', Mem F X w0 (L.set i (LC .ready none)) R w' → Q (.bool true) w') : RoundQ l Q .normal ρ w := by
  subst hLC
  obtain ⟨r, h1, h2⟩ := M.endRound i hi none
  exact .inl ⟨rfl, r, h1, k _ h2⟩
theorem RoundQ.stop {LC : LoopState → Option Code → Chunk} {st : LoopState} {pend : Option Code} {ρ : Env} (hLC : loopC n f ps ar_ bd l = LC) (M : Mem F X w0 L R w) (i : Nat) (hi : L[i]? = some (LC st pend))
    (k : ∀ w', Mem F X w0 (L.set i (LC .done (some .ret))) R w' → Q (.bool false) w') : RoundQ l Q .ret ρ w := by
  subst hLC
  obtain ⟨r, h1, h2⟩ := M.endRound i hi (some .ret)
  exact .inr ⟨rfl, r, h1, k _ h2⟩
theorem Mem.endLoop' {LC : LoopState → Option Code → Chunk} {st : LoopState} {pend : Option Code} (hLC : loopC n f ps ar_ bd l = LC) (M : Mem F X w0 L R w) (i : Nat) (hi : L[i]? = some (LC st pend)) (hst : st ≠ .busy) :
    ∃ r : Loop, w.heap[l]? = some (.loop r) ∧ r.state ≠ .busy ∧ r.pending = pend ∧ Mem F X w0 (L.eraseIdx i) R (w.putObj l (.loop { r with state := .exhausted })) := by
  subst hLC
  exact M.endLoop i hi hst
theorem W.range {g : Operand} {gf : FuncId} {first lb : Array Value} {ρ : Env} {Q : Exit → Env → World → Prop} (M : Mem F X w0 L R w) (hrd : ρ.rd = none) (hds : ρ.ds = []) (hg : ρ.ev g = .func (.func gf) first lb) (he : Enters P gf)
    (h : ∀ (D l : Nat) (w1 : World) (LC : LoopState → Option Code → Chunk), loopC n ρ.f ps ar_ bd l = LC → w0.heap.size ≤ D → w0.heap.size ≤ l → Mem F X w0 (LC .ready none :: blk D (.deferred (some [])) :: L) R w1 →
      Rets P gf (first.toList ++ [Value.func (.yield l) #[] #[]] ++ lb.toList).toArray w1 fun _ w' => ∃ r : Loop, w'.heap[l]? = some (.loop r) ∧ r.state ≠ .busy ∧
        ((r.pending = none ∧ Q .normal (ρ.mark D) (w'.putObj l (.loop { r with state := .exhausted }))) ∨ (r.pending = some .ret ∧ Q .ret (ρ.mark D) (w'.putObj l (.loop { r with state := .exhausted }))))) :
    W P n (.rangeFunc g ps ar_ bd) Q ρ w := by
  intro a ha b k cs hb
  have hb0 : b.roundOf = none := by rw [hb, hrd]
  have M1 := M.push (.deferred (some []))
  have M2 := M1.push (.loop { state := .ready, pending := none, fn := b.fn, tmps := a.tmps, params := ps, assign := ar_, body := bd, defers := w.heap.size })
  have hsz : (w.alloc (.deferred (some []))).heap.size = w.heap.size + 1 := by simp
  have hl : (loopC n ρ.f ps ar_ bd (w.heap.size + 1) .ready none).Ok ((w.alloc (.deferred (some []))).alloc (.loop { state := .ready, pending := none, fn := b.fn, tmps := a.tmps, params := ps, assign := ar_, body := bd, defers := w.heap.size })) := by
    have := M2.blk 0 rfl
    rw [hsz] at this
    exact loopC_ok ⟨_, this, rfl, rfl, rfl, rfl, rfl, ⟨ha.size, ha.get, rfl⟩⟩
  have M3 := M1.own (push_old _ (.loop { state := .ready, pending := none, fn := b.fn, tmps := a.tmps, params := ps, assign := ar_, body := bd, defers := w.heap.size })) hl (fun b hb => by rw [hsz]; exact Nat.le_of_eq (Eq.symm hb))
  obtain ⟨e, w2, fr, ⟨v, rfl, r, q1, q2, q3⟩, hc, _, hlv⟩ := h w.heap.size (w.heap.size + 1) _ _ rfl M.mod.size (Nat.le_trans M.mod.size (Nat.le_succ _)) M3 (b.atR { a with defers := [markD w.heap.size] ++ a.defers } (.inRangeFunc (w.heap.size + 1) :: k) :: cs)
  have hen : (Instr.enterLoop b.fn a.tmps ps ar_ bd b.roundOf).run P w = .ok (w.heap.size + 1, [markD w.heap.size]) ((w.alloc (.deferred (some []))).alloc (.loop { state := .ready, pending := none, fn := b.fn, tmps := a.tmps, params := ps, assign := ar_, body := bd, defers := w.heap.size })) := by
    rw [hb0]; exact run_enterLoop_outer _ _ _ _ _
  have harg : first ++ #[Value.func (.yield (w.heap.size + 1)) #[] #[]] ++ lb = (first.toList ++ [Value.func (.yield (w.heap.size + 1)) #[] #[]] ++ lb.toList).toArray := Array.ext' (by simp)
  have s0 := stepR_rangeFunc (P := P) (b := b) (a := a) (k := k) (cs := cs) (w := w) (g := g) (f := gf) (args := (first.toList ++ [Value.func (.yield (w.heap.size + 1)) #[] #[]] ++ lb.toList).toArray)
    (w₁' := (w.alloc (.deferred (some []))).alloc (.loop { state := .ready, pending := none, fn := b.fn, tmps := a.tmps, params := ps, assign := ar_, body := bd, defers := w.heap.size }))
    (w₂ := (w.alloc (.deferred (some []))).alloc (.loop { state := .ready, pending := none, fn := b.fn, tmps := a.tmps, params := ps, assign := ar_, body := bd, defers := w.heap.size })) hen (d := { target := .fn (.func gf) lb, args := first ++ #[Value.func (.yield (w.heap.size + 1)) #[] #[]] })
    (by simp only [resolve, ha.eval, hg, Deferred.ofValue, Sem.run_pure]; simp [Env.ev]) (by simp only [invoke]; rw [harg]; exact he _ _)
  have s1 := Steps.head s0 (Steps.trans hc (.one (step_leave_returned hlv)))
  rw [finish_atR_inRangeFunc] at s1
  have s2 := s1.trans (.one (stepR_endRangeFunc (run_endLoop q1 q2)))
  have hE : EnvOf n (ρ.mark w.heap.size) { a with defers := [markD w.heap.size] ++ a.defers } := ⟨ha.size, ha.get, by simp [Env.mark, ha.defers]⟩
  rcases q3 with ⟨e1, q⟩ | ⟨e1, q⟩
  · rw [show (Option.map Item.code r.pending).toList ++ k = k by rw [e1]; rfl] at s2
    exact ⟨.normal, _, _, ⟨_, hE, rfl, q⟩, s2⟩
  · rw [show (Option.map Item.code r.pending).toList ++ k = .code .ret :: k by rw [e1]; rfl] at s2
    exact ⟨.ret, _, _, ⟨_, hE, rfl, q⟩, k, s2⟩
end
theorem inBlk_normal {id : Nat} {Q : Exit → Env → World → Prop} {ρ : Env} {w : World} (h : Q .normal ρ w) : inBlk id Q .normal ρ w := h
theorem inBlk_ret {id : Nat} {Q : Exit → Env → World → Prop} {ρ : Env} {w : World} (h : Q .ret ρ w) : inBlk id Q .ret ρ w := h
theorem thn_ret {K : Env → World → Prop} {Q : Exit → Env → World → Prop} {ρ : Env} {w : World} (h : Q .ret ρ w) : thn K Q .ret ρ w := h
def propC (p : Prop) : Chunk := ⟨fun _ => False, fun _ => p⟩
theorem Mem.addProp {F X : Nat → Prop} {w w0 : World} {L : List Chunk} {R : List (World → Prop)} {p : Prop} (M : Mem F X w0 L R w) (h : p) : Mem F X w0 (propC p :: L) R w :=
  M.own (Mod.refl _ _) ⟨fun _ h => h.elim, fun _ _ => h⟩ fun _ h => h.elim
def badC : Chunk := ⟨fun _ => False, fun _ => False⟩
theorem Sh.self {F : Nat → Prop} {r : World → Prop} {w : World} (h : Sh F r w) : Sh F (fun w => Sh (fun _ => True) r w) w := by
  obtain ⟨G, h1, h2, h3⟩ := h
  refine ⟨G, h1, h2, fun w' hw => ⟨G, fun _ _ => trivial, fun b hb => ?_, fun w'' hw'' => h3 w'' fun b hb => (hw'' b hb).trans (hw b hb)⟩⟩
  have e := hw b hb
  rw [Array.getElem?_eq_getElem (h2 b hb)] at e
  exact (Array.getElem?_eq_some_iff.1 e).1
end Tp
namespace Tp
open Go
theorem vTake_eq {i n cap : Nat} {a : Option Addr} : vTake i (.slice a n cap) = .slice a i cap := rfl
theorem vSlice_cap {size l h n cap g o : Nat} : vSlice size l h (vCap (.slice (some ⟨g, o, none⟩) n cap)) (.slice (some ⟨g, o, none⟩) n cap) = .slice (if cap = l then some ⟨g, o, none⟩ else some ⟨g, o + l * size, none⟩) (h - l) (cap - l) := by
  simp [vSlice, vCap, addr_add_none]
theorem mem_zeroCells {zs : Array Value} {m : Nat} {u : Value} (h : u ∈ (Builtin.zeroCells zs m).toList) : u ∈ zs.toList := by
  unfold Builtin.zeroCells at h
  simp only [Array.toList_map, List.mem_map, Array.mem_toList_iff, Array.mem_range] at h
  obtain ⟨i, hi, rfl⟩ := h
  have hs : 0 < zs.size := by
    rcases Nat.eq_zero_or_pos zs.size with h0 | h0
    · rw [h0] at hi; simp at hi
    · exact h0
  have hlt := Nat.mod_lt i hs
  rw [getElem!_pos zs _ hlt]
  simp
section
variable {P : Program} {w : World} {t ty e : TypeId} {z : Value} {size bytes n : Nat} {v : Value} {cs : List Value}
theorem append_cut_run (ht : Und P t (.slice e)) (he : Elem P e z size bytes) (hown : w.ownsRow 0 e size v n cs) {a b : Nat} (hab : a ≤ b) (hb : b ≤ n) (hn : 0 < n) (h1 : ∀ u, u ∈ cs → u.oneCell' = true) :
    ∃ w', (Builtin.append_ #[t, t] ty #[vTake a v, vSlice size b n (vCap v) v]).run P w = .ok (vTake (a + (n - b)) v) w' ∧ w'.ownsRow 0 e size (vTake (a + (n - b)) v) (a + (n - b)) (cs.take (a * size) ++ cs.drop (b * size)) ∧ Mod (fun x => v.ownBlock = some x) w w' := by
  obtain ⟨i, hi, hz, hs, hby⟩ := he
  subst hs
  have hsl := own_slAt hown
  rcases hown.2 with ⟨_, rfl⟩ | ⟨g, cap, cur, rfl, h0, hg, hnc, hcm, hcs, htake⟩
  · omega
  have hlen := hown.1
  have e1 : b * i.size + (n - b) * i.size = n * i.size := by rw [← Nat.add_mul]; congr 1; omega
  have e2 : a * i.size ≤ b * i.size := Nat.mul_le_mul_right _ hab
  have e3 : n * i.size ≤ cap * i.size := Nat.mul_le_mul_right _ hnc
  have e4 : (a + (n - b)) * i.size = a * i.size + (n - b) * i.size := Nat.add_mul ..
  have hnews : (cs.drop (b * i.size)).length = (n - b) * i.size := by rw [List.length_drop, hlen]; omega
  have hread : ∀ (ad : Addr), ((n - b = 0) ∨ ad = ⟨g, b * i.size, none⟩) → ∀ j u, (cs.drop (b * i.size))[j]? = some u → w.cell? (ad.add j) = some u := by
    intro ad had j u hu
    have hj := (List.getElem?_eq_some_iff.1 hu).1
    rw [hnews] at hj
    rcases had with h0 | rfl
    · rw [h0] at hj; simp at hj
    · rw [addr_add_none, cell_blk hg, ← Array.getElem?_toList]
      rw [List.getElem?_drop] at hu
      rw [← htake, List.getElem?_take, if_pos (by omega)] at hu
      exact hu
  have hrun : ∀ ad : Addr, ((n - b = 0) ∨ ad = ⟨g, b * i.size, none⟩) → (Builtin.append_ #[t, t] ty #[.slice (some ⟨g, 0, none⟩) a cap, .slice (some ad) (n - b) (cap - b)]).run P w =
      .ok (.slice (some ⟨g, 0, none⟩) (a + (n - b)) cap) (w.setRow g (cur.toList.take (a * i.size) ++ cs.drop (b * i.size) ++ cur.toList.drop (a * i.size + (cs.drop (b * i.size)).length)).toArray) := fun ad had =>
    run_append_room (P := P) w t ty e i ht hi g a cap cur hg ad (n - b) (cap - b) (cs.drop (b * i.size)) hnews (hread ad had) (fun u hu => h1 u (List.mem_of_mem_drop hu)) (by omega) (by rw [hnews, hcs]; omega)
  obtain ⟨row, hrow⟩ : ∃ row : Array Value, row = (cur.toList.take (a * i.size) ++ cs.drop (b * i.size) ++ cur.toList.drop (a * i.size + (cs.drop (b * i.size)).length)).toArray := ⟨_, rfl⟩
  rw [← hrow] at hrun
  refine ⟨w.setRow g row, ?_, ⟨?_, .inr ⟨g, cap, row, rfl, Nat.zero_le _, setRow_heap w g cur row e _ hg, by omega, hcm, ?_, ?_⟩⟩, ⟨rfl, rfl, rfl, by simp, fun k _ hk => setRow_other w g k row (fun e => hk (by simp [Value.ownBlock, e])), Nat.le_refl _⟩⟩
  · rw [vSlice_cap]
    simp only [vTake_eq]
    by_cases ec : cap = b
    · rw [if_pos ec]; exact hrun _ (.inl (by omega))
    · rw [if_neg ec, Nat.zero_add]; exact hrun _ (.inr rfl)
  · rw [List.length_append, List.length_take, hnews, hlen, Nat.min_eq_left (by omega), e4]
  · rw [hrow]
    simp only [List.size_toArray, List.length_append, List.length_take, List.length_drop, Array.length_toList]
    rw [hlen, hcs]
    omega
  · have hta : cs.take (a * i.size) = cur.toList.take (a * i.size) := by rw [← htake, List.take_take, Nat.min_eq_left (by omega)]
    rw [hta]
    have hl2 : (cur.toList.take (a * i.size) ++ cs.drop (b * i.size)).length = (a + (n - b)) * i.size := by
      rw [List.length_append, List.length_take, hnews, Array.length_toList, hcs, Nat.min_eq_left (by omega), e4]
    rw [hrow, ← hl2]
    exact List.take_left
theorem clear_run (ht : Und P t (.slice e)) (he : Elem P e z size bytes) (hzs : z.cells.size = size) (hc : Step.Cellish z.cells.toList) {g o m c : Nat} {cur : Array Value} (hg : w.heap[g]? = some (.cells cur e (0, 0))) (hfit : o + m * size ≤ cur.size) :
    ∃ (zs : List Value) (w' : World), zs.length = m * size ∧ (Builtin.clear_ #[t] ty #[.slice (some ⟨g, o, none⟩) m c]).run P w = .ok (.tuple #[]) w' ∧ w' = World.blkSet w g (.cells (Step.put cur o zs) e) := by
  refine ⟨(Builtin.zeroCells z.cells m).toList, _, by rw [Array.length_toList, size_zeroCells, hzs], ?_, rfl⟩
  have hst := Step.storeCells_run (P := P) (b := g) (o := o) (e := e) (Builtin.zeroCells z.cells m).toList 0 cur w hg (by rw [Array.length_toList, size_zeroCells, hzs]; omega) (fun u hu => hc u (mem_zeroCells hu))
  rw [Nat.add_zero] at hst
  cases m with
  | zero =>
    have e0 : Builtin.zeroCells z.cells 0 = #[] := by
      apply Array.eq_empty_of_size_eq_zero; rw [size_zeroCells]; simp
    rw [e0] at hst ⊢
    simp only [Builtin.clear_, ht.run, Sem.run_bind, Result.andThen_ok, Sem.run_pure]
    have hw : World.blkSet w g (.cells (Step.put cur o ([] : List Value)) e) = w := by
      have := hst
      simp [storeCells] at this
      exact this.symm
    simp only [Array.toList_empty] at *
    first
      | (simp [Builtin.clear_, ht.run, hw]; done)
      | (rw [hw]; simp [Builtin.clear_, ht.run])
  | succ m =>
    simp [Builtin.clear_, ht.run, he.zero w, hst]
theorem put_other (c : Array Value) (o : Nat) (l : List Value) {k : Nat} (hk : k < o ∨ o + l.length ≤ k) : (Step.put c o l)[k]? = c[k]? := by
  induction l generalizing c o with
  | nil => rfl
  | cons v l ih =>
    rw [Step.put, ih _ _ (by simp at hk; omega), Array.getElem?_setIfInBounds_ne (by simp at hk; omega)]
theorem own_clear (ht : Und P t (.slice e)) (he : Elem P e z size bytes) (hzs : z.cells.size = size) (hc : Step.Cellish z.cells.toList) (hown : w.ownsRow 0 e size v n cs) {l h m : Nat} (hlh : l ≤ h) (hm : h ≤ vCap v) (hn : 0 < vCap v ∨ l < h) (hv : 0 < n ∨ v ≠ .slice none 0 0) (k : Nat) (hkn : k ≤ n) (hkl : k ≤ l) :
    ∃ w', (Builtin.clear_ #[t] ty #[vSlice size l h (vCap v) v]).run P w = .ok (.tuple #[]) w' ∧ w'.ownsRow 0 e size (vTake k v) k (cs.take (k * size)) ∧ Mod (fun x => v.ownBlock = some x) w w' := by
  rcases hown.2 with ⟨h1, rfl⟩ | ⟨g, cap, cur, rfl, h0, hg, hnc, hcm, hcs, htake⟩
  · rcases hv with hv | hv
    · omega
    · exact absurd h1 hv
  have hlen := hown.1
  have hcap : h ≤ cap := hm
  have e0 : l * size + (h - l) * size = h * size := by rw [← Nat.add_mul]; congr 1; omega
  have e1 : h * size ≤ cap * size := Nat.mul_le_mul_right _ hcap
  have e2 : k * size ≤ l * size := Nat.mul_le_mul_right _ hkl
  have e3 : k * size ≤ n * size := Nat.mul_le_mul_right _ hkn
  have e4 : n * size ≤ cap * size := Nat.mul_le_mul_right _ hnc
  have key : ∀ o, (h - l = 0 ∨ o = l * size) → ∃ w', (Builtin.clear_ #[t] ty #[.slice (some ⟨g, o, none⟩) (h - l) (cap - l)]).run P w = .ok (.tuple #[]) w' ∧ w'.ownsRow 0 e size (.slice (some ⟨g, 0, none⟩) k cap) k (cs.take (k * size)) ∧ Mod (fun x => (Value.slice (some ⟨g, 0, none⟩) n cap).ownBlock = some x) w w' := by
    intro o ho
    by_cases hz0 : h - l = 0
    · refine ⟨w, ?_, ⟨by rw [List.length_take, hlen]; omega, .inr ⟨g, cap, cur, rfl, Nat.zero_le _, hg, by omega, hcm, hcs, by rw [← htake, List.take_take, Nat.min_eq_left e3]⟩⟩, Mod.refl _ _⟩
      rw [hz0]; simp [Builtin.clear_, ht.run]
    · obtain rfl : o = l * size := ho.resolve_left hz0
      obtain ⟨zs, w', hzl, hr, rfl⟩ := clear_run (P := P) (ty := ty) ht he hzs hc (m := h - l) (c := cap - l) (o := l * size) hg (by rw [hcs]; omega)
      refine ⟨_, hr, ⟨by rw [List.length_take, hlen]; omega, .inr ⟨g, cap, _, rfl, Nat.zero_le _, blkSet_at _ (lt_of_blk hg), by omega, hcm, by rw [Step.put_size]; exact hcs, ?_⟩⟩, (blkSet_mod w g _).mono fun x _ hx => by simp [Value.ownBlock]; exact hx.symm⟩
      rw [← htake, List.take_take, Nat.min_eq_left e3]
      apply List.ext_getElem?
      intro j
      rw [List.getElem?_take, List.getElem?_take]
      split
      · rw [Array.getElem?_toList, Array.getElem?_toList, put_other _ _ _ (.inl (by omega))]
      · rfl
  rw [vSlice_cap]
  simp only [vTake_eq]
  by_cases ec : cap = l
  · rw [if_pos ec]; exact key 0 (.inl (by omega))
  · rw [if_neg ec, Nat.zero_add]; exact key _ (.inr rfl)
end
section
variable {P : Program} {F X : Nat → Prop} {w w0 : World} {L : List Chunk} {R : List (World → Prop)} {ρ : Env} {d : Option Nat} {pos : String} {aft : Array Edge} {g : Option (Nat × Bool)} {t ty e : TypeId} {z : Value} {size bytes : Nat} {x y : Operand} {v : Value} {n : Nat} {cs : List Value}
theorem Mem.appendCut {a b : Nat} (M : Mem F X w0 L R w) (i : Nat) (hi : L[i]? = some (Tp.own e size v n cs)) (ht : Und P t (.slice e)) (he : Elem P e z size bytes) (hx : ρ.ev x = vTake a v) (hy : ρ.ev y = vSlice size b n (vCap v) v)
    (hab : a ≤ b) (hb : b ≤ n) (hn : 0 < n) (h1 : ∀ u, u ∈ cs → u.oneCell' = true) :
    ∃ w', Step P (.call { callee := .builtin .append, args := #[x, y], argTypes := #[t, t] }) ty ρ w (vTake (a + (n - b)) v) w' ∧ Mem F X w0 (L.set i (Tp.own e size (vTake (a + (n - b)) v) (a + (n - b)) (cs.take (a * size) ++ cs.drop (b * size)))) R w' ∧ Mod (Tp.own e size v n cs).foot w w' := by
  obtain ⟨w', hr, h2, h3⟩ := append_cut_run (ty := ty) ht he (M.chunk i hi).inv hab hb hn h1
  refine ⟨w', fun d pos aft g => .inl ?_, M.turn i hi h3 (own_ok h2) fun b hb => .inl ?_, h3⟩
  · simp only [execOp, resolve, invoke, builtin, Sem.run_bind, Sem.run_pure, Result.andThen_ok, List.map_toArray, List.map_cons, List.map_nil, hx, hy, hr]
  · obtain ⟨ad, cap, rfl⟩ := (own_slAt (M.chunk i hi).inv).value
    cases ad <;> first | (simpa [Tp.own, vTake, Value.ownBlock] using hb) | (simp [Tp.own, vTake, Value.ownBlock] at hb)
theorem Mem.clearKeep {l h k : Nat} (M : Mem F X w0 L R w) (i : Nat) (hi : L[i]? = some (Tp.own e size v n cs)) (ht : Und P t (.slice e)) (he : Elem P e z size bytes) (hzs : z.cells.size = size) (hc : Step.Cellish z.cells.toList)
    (hx : ρ.ev x = vSlice size l h (vCap v) v) (hlh : l ≤ h) (hm : h ≤ vCap v) (hn : 0 < vCap v) (hv : v ≠ .slice none 0 0) (hkn : k ≤ n) (hkl : k ≤ l) :
    ∃ w', Step P (.call { callee := .builtin .clear, args := #[x], argTypes := #[t] }) ty ρ w undef w' ∧ Mem F X w0 (L.set i (Tp.own e size (vTake k v) k (cs.take (k * size)))) R w' ∧ Mod (Tp.own e size v n cs).foot w w' := by
  obtain ⟨w', hr, h2, h3⟩ := own_clear (ty := ty) (m := 0) ht he hzs hc (M.chunk i hi).inv hlh hm (.inl hn) (.inr hv) k hkn hkl
  refine ⟨w', fun d pos aft g => .inl ?_, M.turn i hi h3 (own_ok h2) fun b hb => .inl ?_, h3⟩
  · simp only [execOp, resolve, invoke, builtin, Sem.run_bind, Sem.run_pure, Result.andThen_ok, List.map_toArray, List.map_cons, List.map_nil, hx, hr]
    rfl
  · obtain ⟨ad, cap, rfl⟩ := (own_slAt (M.chunk i hi).inv).value
    cases ad <;> first | (simpa [Tp.own, vTake, Value.ownBlock] using hb) | (simp [Tp.own, vTake, Value.ownBlock] at hb)
end
section
variable {P : Program} {ops : Array Oper} {ld mk : List Nat} {Q : Env → World → Prop} {i : Nat} {d : Option Nat} {op : Op} {ty : TypeId} {pos : String} {aft : Array Edge} {g : Option (Nat × Bool)}
  {rest : List Nat} {ρ : Env} {F X : Nat → Prop} {w0 : World} {Lp L : List Chunk} {Rp R : List (World → Prop)}
end
def Shp (v : Value) (n : Nat) : Prop := ∃ a, v = .slice a n (vCap v) ∧ n ≤ vCap v ∧ vCap v ≤ maxLen
theorem SlAt.shp {size n : Nat} {v : Value} {cs : List Value} {w : World} (h : SlAt size v n cs w) : Shp v n := by
  rcases h with ⟨⟨a, rfl⟩, rfl, _⟩ | ⟨b, o, cap, _, _, _, rfl, h, h', _⟩
  · exact ⟨a, rfl, Nat.le_refl _, Nat.zero_le _⟩
  · exact ⟨_, rfl, h, h'⟩
theorem Shp.take {v : Value} {n k : Nat} (h : Shp v n) (hk : k ≤ vCap v) : Shp (vTake k v) k := by
  obtain ⟨a, e, _, h3⟩ := h
  rw [e] at hk h3 ⊢
  exact ⟨a, rfl, hk, h3⟩
theorem Shp.cap {v : Value} {n k : Nat} (h : Shp v n) : vCap (vTake k v) = vCap v := by
  obtain ⟨a, e, _⟩ := h
  rw [e]; rfl
theorem Shp.isSl {v : Value} {n : Nat} (h : Shp v n) : IsSl v := let ⟨a, e, _⟩ := h; ⟨a, n, _, e⟩
theorem Shp.self {v : Value} {n : Nat} (h : Shp v n) : vTake n v = v := by
  obtain ⟨a, e, _⟩ := h
  rw [e]; rfl
theorem Shp.ne {v : Value} {n : Nat} (h : Shp v n) (hn : 0 < vCap v) : v ≠ .slice none 0 0 := fun e => by rw [e] at hn; simp [vCap] at hn
namespace Step
variable {P : Program} {ρ : Env} {w : World} {ty t e : TypeId} {x a b c : Operand} {v : Value} {size n l h m : Nat} {k k' k'' : IntKind} {z z' z'' : Int}
theorem sliceToP (ht : Und P t (.slice e)) (hs : Sized P e size) (hx : ρ.ev x = v) (hj : ρ.ev b = .int k' z') (hz' : z' = (h : Int)) (hv : Shp v n) (hc : h ≤ vCap v) : Step P (.slice t x none (some b) none) ty ρ w (vTake h v) w := by
  obtain ⟨ad, e, _⟩ := hv
  have := sliceH (ty := ty) (w := w) ht hs hx hj hz' e hc
  rw [e] at this ⊢
  exact this
theorem sliceFromP (ht : Und P t (.slice e)) (hs : Sized P e size) (hx : ρ.ev x = v) (hi : ρ.ev a = .int k z) (hz : z = (l : Int)) (hv : Shp v n) (hle : l ≤ n) : Step P (.slice t x (some a) none none) ty ρ w (vSlice size l n (vCap v) v) w := by
  obtain ⟨ad, e, _⟩ := hv
  exact sliceFrom ht hs hx hi hz e hle
theorem sliceLHP (ht : Und P t (.slice e)) (hs : Sized P e size) (hx : ρ.ev x = v) (hi : ρ.ev a = .int k z) (hz : z = (l : Int)) (hj : ρ.ev b = .int k' z') (hz' : z' = (h : Int)) (hv : Shp v n) (hle : l ≤ h) (hc : h ≤ vCap v) :
    Step P (.slice t x (some a) (some b) none) ty ρ w (vSlice size l h (vCap v) v) w := by
  obtain ⟨ad, e, _⟩ := hv
  exact sliceLH ht hs hx hi hz hj hz' e hle hc
theorem slice4P (ht : Und P t (.slice e)) (hs : Sized P e size) (hx : ρ.ev x = v) (hi : ρ.ev a = .int k z) (hz : z = (l : Int)) (hj : ρ.ev b = .int k' z') (hz' : z' = (h : Int)) (hm : ρ.ev c = .int k'' z'') (hz'' : z'' = (m : Int)) (hv : Shp v n) (hle : l ≤ h) (hlm : h ≤ m) (hc : m ≤ vCap v) :
    Step P (.slice t x (some a) (some b) (some c)) ty ρ w (vSlice size l h m v) w := by
  obtain ⟨ad, e, _⟩ := hv
  intro d pos aft g
  left
  subst hz; subst hz'; subst hz''
  generalize vCap v = cap at e hc
  subst e
  have h1 : (0 : Int) ≤ l ∧ (l : Int) ≤ h := ⟨by omega, by omega⟩
  have h2 : (0 : Int) ≤ h ∧ (h : Int) ≤ m := ⟨by omega, by omega⟩
  have h3 : (0 : Int) ≤ m ∧ (m : Int) ≤ cap := ⟨by omega, by omega⟩
  have h4 : ¬ (cap < m) := by omega
  have h5 : ¬ (m < h) := by omega
  have h6 : ¬ (h < l) := by omega
  simp [execOp, Instr.sliceAt, Instr.slice, hx, hi, hj, hm, ht.run, Instr.sliceBounds, Instr.sliceBound, asIntOf, hs w, h1, h2, h3, h4, h5, h6, vSlice, hle, hlm, hc]
  try rfl
theorem lenP {t e : TypeId} {x : Operand} (ht : Und P t (.slice e)) (hx : ρ.ev x = v) (hv : Shp v n) : Step P (.call { callee := .builtin .len, args := #[x], argTypes := #[t] }) ty ρ w (.int .i64 n) w :=
  let ⟨_, e, _⟩ := hv; lenS ht hx e
end Step
section
variable {α : Type} {enc : α → List Value} {P : Program} {F X : Nat → Prop} {w w0 : World} {L : List Chunk} {R : List (World → Prop)} {ρ : Env} {t ty e : TypeId} {z : Value} {size bytes : Nat} {x y : Operand} {v : Value} {xs : List α}
theorem Mem.appendCutF (he : ∀ x, (enc x).length = size) {a b : Nat} (M : Mem F X w0 L R w) (i : Nat) (hi : L[i]? = some (Tp.own e size v xs.length (xs.flatMap enc))) (ht : Und P t (.slice e)) (hel : Elem P e z size bytes) (hx : ρ.ev x = vTake a v) (hy : ρ.ev y = vSlice size b xs.length (vCap v) v)
    (hab : a ≤ b) (hb : b ≤ xs.length) (hn : 0 < xs.length) (h1 : ∀ x, Step.Cellish (enc x)) :
    ∃ w', Step P (.call { callee := .builtin .append, args := #[x, y], argTypes := #[t, t] }) ty ρ w (vTake (a + (xs.length - b)) v) w' ∧ Mem F X w0 (L.set i (Tp.own e size (vTake (a + (xs.length - b)) v) (xs.take a ++ xs.drop b).length ((xs.take a ++ xs.drop b).flatMap enc))) R w' ∧ Mod (Tp.own e size v xs.length (xs.flatMap enc)).foot w w' := by
  obtain ⟨w', h2, h3, h4⟩ := M.appendCut (ty := ty) i hi ht hel hx hy hab hb hn (cel_flatMap h1 xs).one
  refine ⟨w', h2, ?_, h4⟩
  rw [take_flatMap he, drop_flatMap he, ← List.flatMap_append] at h3
  have : (xs.take a ++ xs.drop b).length = a + (xs.length - b) := by simp; omega
  rw [this]; exact h3
theorem Mem.clearTailF (he : ∀ x, (enc x).length = size) {l h : Nat} (M : Mem F X w0 L R w) (i : Nat) (hi : L[i]? = some (Tp.own e size v xs.length (xs.flatMap enc))) (ht : Und P t (.slice e)) (hel : Elem P e z size bytes) (hzs : z.cells.size = size) (hc : Step.Cellish z.cells.toList)
    (hx : ρ.ev x = vSlice size l h (vCap v) v) (hlh : l ≤ h) (hm : h ≤ vCap v) (hn : 0 < vCap v) (hkl : xs.length ≤ l) :
    ∃ w', Step P (.call { callee := .builtin .clear, args := #[x], argTypes := #[t] }) ty ρ w undef w' ∧ Mem F X w0 (L.set i (Tp.own e size v xs.length (xs.flatMap enc))) R w' ∧ Mod (Tp.own e size v xs.length (xs.flatMap enc)).foot w w' := by
  have hs := (own_slAt (M.chunk i hi).inv).shp
  obtain ⟨w', h2, h3, h4⟩ := M.clearKeep (ty := ty) (k := xs.length) i hi ht hel hzs hc hx hlh hm hn (hs.ne hn) (Nat.le_refl _) hkl
  refine ⟨w', h2, ?_, h4⟩
  rw [hs.self, ← length_flatMap he, List.take_length] at h3
  exact h3
end
section
variable {α : Type} {p : α → Bool} {xs : List α} {i : Nat} {x : α}
theorem below_stepG (hb : ∀ j u, j < i → xs[j]? = some u → p u = false) (hi : xs[i]? = some x) (hp : p x = false) : ∀ j u, j < i + 1 → xs[j]? = some u → p u = false := fun j u hj hu => by
  rcases Nat.lt_or_ge j i with h | h
  · exact hb j u h hu
  · have : j = i := by omega
    subst this; rw [hi] at hu; cases hu; exact hp
end
end Tp
namespace Tp
open Go
theorem Mem.law0 {W : World} {R : List (World → Prop)} (h : Facts (fun _ => True) W R) : Mem (fun _ => True) (fun _ => False) W [] R W := Mem.start W h.all
end Tp
namespace Tp
open Go
theorem Step.outer {P : Program} {ρ : Env} {w w' : World} {ty : TypeId} {c : Array Operand} {ts : Array TypeId} {f : FuncId} {args : List Value} {v : Value} (ha : c.toList.map ρ.ev = args) (h : (callFunc f args.toArray).run P w = .ok (.value v) w') :
    Step P (.call { callee := .value (.func f), args := c, argTypes := ts }) ty ρ w v w' := by
  intro d pos aft g
  left
  have hc : c.map ρ.ev = args.toArray := Array.ext' (by rw [Array.toList_map, ha])
  simp only [execOp, resolve, Env.ev, Deferred.ofValue, invoke, hc, Sem.run_bind, Sem.run_pure, Result.andThen_ok, Array.append_empty, Array.empty_append, h]
theorem Step.capS {P : Program} {ρ : Env} {w : World} {ty t e : TypeId} {x : Operand} {v : Value} {n : Nat} (ht : Und P t (.slice e)) (hx : ρ.ev x = v) (hv : Shp v n) :
    Step P (.call { callee := .builtin .cap, args := #[x], argTypes := #[t] }) ty ρ w (.int .i64 (vCap v)) w := by
  obtain ⟨a, e, _⟩ := hv
  intro d pos aft g
  left
  generalize vCap v = c at e
  subst e
  simp [execOp, resolve, invoke, builtin, hx, Builtin.cap_, ht.run]
  rfl
section
variable {P : Program} {w : World} {t tn ty e : TypeId} {z : Value} {size bytes n : Nat} {v : Value} {cs : List Value}
theorem copy_run (ht : Und P t (.slice e)) (hs : Sized P e size) {b off dl dc : Nat} {c : Array Value} {e' : TypeId} {a : Addr} {m mc kk : Nat} {cl : List Value} (hb : w.heap[b]? = some (.cells c e')) (hcl : cl.length = kk * size) (hm : Nat.min m dl = kk)
    (hsrc : ∀ j u, cl[j]? = some u → w.cell? (a.add j) = some u) (hfit : off + cl.length ≤ c.size) (h1 : Step.Cellish cl) :
    (Builtin.copy_ #[t, t] ty #[.slice (some ⟨b, off, none⟩) dl dc, .slice (some a) m mc]).run P w = .ok (goInt kk) (World.blkSet w b (.cells (Step.put c off cl) e')) := by
  have hl := run_loadCells_list (P := P) w a cl hsrc
  rw [hcl] at hl
  have hst := Step.storeCells_run (P := P) (o := off) cl 0 c w hb (by omega) h1
  simp only [Nat.add_zero] at hst
  simp [Builtin.copy_, ht.run, Builtin.lenOf, Builtin.firstCells, hs w, hm, hl, hst]
theorem append_zeros_run {kn : IntKind} (ht : Und P t (.slice e)) (htn : Und P tn (.int kn)) (he : Elem P e z size bytes) (hzs : z.cells.size = size) (hsz : 0 < size) (hown : w.ownsRow 0 e size v n cs) (hn : 0 < n) {i k : Nat} {kq : IntKind} (hin : i ≤ n) (hk : 0 < k) (hg : vCap v < i + k)
    (hik : i + k ≤ maxLen) (hb : (i + k) * bytes ≤ 140737488355328) :
    ∃ v' w' junk, (Builtin.append_ #[t, tn] ty #[vTake i v, .int kq k]).run P w = .ok v' w' ∧ w'.ownsRow 0 e size v' (i + k) (cs.take (i * size) ++ junk) ∧ junk.length = k * size ∧ Old w w' ∧ ∀ b, v'.ownBlock = some b → w.heap.size ≤ b := by
  obtain ⟨inf, hi, hz, hs, hby⟩ := he
  subst hs
  subst hby
  rcases hown.2 with ⟨_, rfl⟩ | ⟨g, cap, cur, rfl, h0, hgb, hnc, hcm, hcs, htake⟩
  · omega
  simp only [vCap] at hg
  have e1 : i * inf.size ≤ n * inf.size := Nat.mul_le_mul_right _ hin
  have e2 : n * inf.size ≤ cap * inf.size := Nat.mul_le_mul_right _ hnc
  have hol : (cs.take (i * inf.size)).length = i * inf.size := by rw [List.length_take, hown.1]; omega
  have hold : (Builtin.firstCells inf.size i (.slice (some ⟨g, 0, none⟩) i cap)).run P w.drew = .ok (cs.take (i * inf.size)).toArray w.drew := by
    have := run_loadCells_list (P := P) w.drew ⟨g, 0, none⟩ (cs.take (i * inf.size)) (fun j u hu => by
      have hj := (List.getElem?_eq_some_iff.1 hu).1
      rw [hol] at hj
      rw [addr_add_none]
      show w.cell? ⟨g, 0 + j, none⟩ = some u
      rw [cell_blk hgb, ← Array.getElem?_toList]
      rw [List.getElem?_take, if_pos hj, ← htake, List.getElem?_take, if_pos (by omega)] at hu
      rw [Nat.zero_add]; exact hu)
    rw [hol] at this
    simpa [Builtin.firstCells] using this
  have hsm : i + k ≤ 9223372036854775807 := by simp only [maxLen] at hik; omega
  have hkb : k * inf.bytes ≤ (i + k) * inf.bytes := Nat.mul_le_mul_right _ (by omega)
  have hr := Go.Lib.run_append_grow_zeros (P := P) w t tn ty e inf z kq kn ht htn hi hz (some ⟨g, 0, none⟩) i cap (cs.take (i * inf.size)) hold k hk hsz hg (by omega) (by omega) (growslice_fits (by omega) hb)
  have hge := grownCap_ge w (i + k) cap e
  have hcm' : grownCap w (i + k) cap e ≤ maxLen := grownCap_le_maxLen w (i + k) cap e hik
  have hjl : (Builtin.zeroCells z.cells k).toList.length = k * inf.size := by rw [Array.length_toList, size_zeroCells, hzs]
  refine ⟨_, _, (Builtin.zeroCells z.cells k).toList, hr, ⟨?_, .inr ⟨w.heap.size, _, _, rfl, Nat.zero_le _, heap_alloc_new w.drew _, hge, hcm', ?_, ?_⟩⟩, hjl, ⟨rfl, rfl, rfl, by simp, fun b hb _ => heap_alloc_old w.drew _ hb, Nat.le_succ _⟩, fun b hb => by simp [Value.ownBlock] at hb; omega⟩
  · rw [List.length_append, hol, hjl, Nat.add_mul]
  · simp only [Array.size_append, List.size_toArray, size_zeroCells, hzs, hol, ← Nat.add_mul]
    congr 1
    omega
  · simp only [Array.toList_append]
    have : (i + k) * inf.size = (cs.take (i * inf.size) ++ (Builtin.zeroCells z.cells k).toList).length := by rw [List.length_append, hol, hjl, Nat.add_mul]
    rw [this]
    exact List.take_left
end
theorem celF {α : Type} {enc : α → List Value} (h : ∀ x, Step.Cellish (enc x)) (xs : List α) : Step.Cellish (xs.flatMap enc) := by
  intro u hu
  obtain ⟨a, _, hu⟩ := List.mem_flatMap.1 hu
  exact h a u hu
def insL {α : Type} (xs : List α) (i : Nat) (x : α) : List α := xs.take i ++ x :: xs.drop i
theorem insL_len {α : Type} (xs : List α) {i : Nat} (h : i ≤ xs.length) (x : α) : (insL xs i x).length = xs.length + 1 := by simp [insL]; omega
theorem insL_end {α : Type} (xs : List α) (x : α) : insL xs xs.length x = xs ++ [x] := by simp [insL]
section
variable {α : Type} {enc : α → List Value} {size : Nat} (he : ∀ x, (enc x).length = size)
include he
theorem ins_grow {xs : List α} {i : Nat} (hi : i ≤ xs.length) (x : α) {junk : List Value} (hj : junk.length = (xs.length + 1 - i) * size) :
    splice (splice ((xs.flatMap enc).take (i * size) ++ junk) (i * size) (enc x)) ((i + 1) * size) ((xs.drop i).flatMap enc) = (insL xs i x).flatMap enc := by
  have h1 : ((xs.flatMap enc).take (i * size)).length = i * size := by
    rw [List.length_take, length_flatMap he]
    have : i * size ≤ xs.length * size := Nat.mul_le_mul_right _ hi
    omega
  have h2 : (xs.length + 1 - i) * size = size + (xs.length - i) * size := by
    rw [show xs.length + 1 - i = 1 + (xs.length - i) by omega, Nat.add_mul, Nat.one_mul]
  have h3 : ((xs.drop i).flatMap enc).length = (xs.length - i) * size := by rw [length_flatMap he, List.length_drop]
  have h4 : (enc x).length = size := he x
  have e1 : splice ((xs.flatMap enc).take (i * size) ++ junk) (i * size) (enc x) = (xs.flatMap enc).take (i * size) ++ enc x ++ junk.drop size := by
    simp only [splice]
    rw [h4]
    have a1 : ((xs.flatMap enc).take (i * size) ++ junk).take (i * size) = (xs.flatMap enc).take (i * size) := List.take_left' h1
    have a2 : ((xs.flatMap enc).take (i * size) ++ junk).drop (i * size + size) = junk.drop size := by
      rw [← List.drop_drop, List.drop_left' h1]
    rw [a1, a2]
  rw [e1]
  have h5 : ((xs.flatMap enc).take (i * size) ++ enc x).length = (i + 1) * size := by rw [List.length_append, h1, h4, Nat.add_mul, Nat.one_mul]
  simp only [splice]
  have hjd : (junk.drop size).drop ((xs.length - i) * size) = [] := by rw [List.drop_drop]; exact List.drop_of_length_le (by rw [hj, h2]; omega)
  rw [List.take_left' h5, h3, ← List.drop_drop, List.drop_left' h5, hjd, List.append_nil, take_flatMap he]
  simp [insL]
theorem ins_room {xs : List α} {i : Nat} (hi : i < xs.length) (x : α) : (xs.take (i + 1) ++ xs.drop i).set i x = insL xs i x := by
  have h1 : (xs.take i).length = i := by rw [List.length_take]; omega
  have h2 : xs.take (i + 1) = xs.take i ++ [xs[i]] := List.take_succ_eq_append_getElem hi
  rw [h2, List.append_assoc, List.set_append_right _ _ (by omega), h1]
  simp [insL]
end
namespace Mem
variable {P : Program} {F X : Nat → Prop} {w w0 : World} {L : List Chunk} {R : List (World → Prop)} {ρ : Env} {d : Option Nat} {pos : String} {aft : Array Edge} {g : Option (Nat × Bool)} {t tn ty e : TypeId} {z : Value} {size bytes : Nat} {x y : Operand} {v : Value} {n : Nat} {cs : List Value}
theorem copyRow {l m h : Nat} {sv : Value} {news : List Value} (M : Mem F X w0 L R w) (i : Nat) (hi : L[i]? = some (Tp.own e size v n cs)) (ht : Und P t (.slice e)) (hs : Sized P e size) (hx : ρ.ev x = vSlice size l h (vCap v) v) (hh : h = n) (hy : ρ.ev y = sv)
    (hsrc : SlAt size sv m news w) (hm : 0 < m) (hl : l + m ≤ n) (h1 : Step.Cellish news) :
    ∃ w', Step P (.call { callee := .builtin .copy, args := #[x, y], argTypes := #[t, t] }) ty ρ w (goInt m) w' ∧ Mem F X w0 (L.set i (Tp.own e size v n (splice cs (l * size) news))) R w' ∧ Mod (Tp.own e size v n cs).foot w w' := by
  rw [hh] at hx
  have hown := (M.chunk i hi).inv
  have hnl := hsrc.len
  have e0 : l * size + m * size ≤ n * size := by rw [← Nat.add_mul]; exact Nat.mul_le_mul_right _ hl
  obtain ⟨cur, b1, b2, b3, b4, b5⟩ := own_store (new := news) (o := l * size) hown (by omega) (by omega)
  rcases hown.2 with ⟨_, rfl⟩ | ⟨gb, cap, cur', rfl, h0, hg, hnc, hcm, hcs, htake⟩
  · omega
  obtain ⟨a, mc, hsv⟩ : ∃ a mc, sv = .slice (some a) m mc := by
    obtain ⟨cap, h⟩ := hsrc.base hm
    exact ⟨_, _, h⟩
  have hread := hsrc.srcCells a mc hsv
  subst hsv
  have hm' : Mod (Tp.own e size (.slice (some ⟨gb, 0, none⟩) n cap) n cs).foot w (World.blkSet w gb (.cells (Step.put cur (l * size) news) e)) := (blkSet_mod w gb _).mono fun b _ hb => by
    show (Value.slice (some ⟨gb, 0, none⟩) n cap).ownBlock = some b
    rw [b4]; exact congrArg some (show gb = b from hb.symm)
  have hr := copy_run (P := P) (ty := ty) (t := t) ht hs (b := gb) (off := l * size) (dl := n - l) (dc := cap - l) (a := a) (m := m) (mc := mc) (cl := news) b1 hnl (Nat.min_eq_left (by omega)) hread b3 h1
  refine ⟨_, fun d pos aft g => .inl ?_, M.turn i hi hm' (own_ok b5) fun b hb => .inl hb, hm'⟩
  have hx' : ρ.ev x = .slice (some ⟨gb, l * size, none⟩) (n - l) (cap - l) := by
    rw [hx, vSlice_cap, if_neg (by omega), Nat.zero_add]
  simp only [execOp, resolve, invoke, builtin, Sem.run_bind, Sem.run_pure, Result.andThen_ok, List.map_toArray, List.map_cons, List.map_nil, hx', hy, hr]
theorem copyGrow {α : Type} {enc : α → List Value} {xs : List α} {k : Nat} (he : ∀ x, (enc x).length = size) (M : Mem F X w0 L R w) (i : Nat) (hi : L[i]? = some (Tp.own e size v xs.length (xs.flatMap enc))) (ht : Und P t (.slice e)) (hs : Sized P e size)
    (hx : ρ.ev x = vSlice size (k + 1) (xs.length + 1) (vCap (vTake (xs.length + 1) v)) (vTake (xs.length + 1) v)) (hy : ρ.ev y = vSlice size k (xs.length + 1) (vCap (vTake (xs.length + 1) v)) (vTake (xs.length + 1) v))
    (hk : k < xs.length) (hroom : xs.length + 1 ≤ vCap v) (h1 : ∀ x, Step.Cellish (enc x)) :
    ∃ w', Step P (.call { callee := .builtin .copy, args := #[x, y], argTypes := #[t, t] }) ty ρ w (goInt ((xs.length - k : Nat) : Int)) w' ∧
      Mem F X w0 (L.set i (Tp.own e size (vTake (xs.length + 1) v) (xs.take (k + 1) ++ xs.drop k).length ((xs.take (k + 1) ++ xs.drop k).flatMap enc))) R w' ∧ Mod (Tp.own e size v xs.length (xs.flatMap enc)).foot w w' := by
  have hown := (M.chunk i hi).inv
  rcases hown.2 with ⟨_, h⟩ | ⟨gb, cap, cur, rfl, h0, hg, hnc, hcm, hcs, htake⟩
  · omega
  simp only [vCap] at hroom
  simp only [vTake_eq, vCap] at hx hy ⊢
  have hlen : (xs.take (k + 1) ++ xs.drop k).length = xs.length + 1 := by simp; omega
  have e0 : k * size ≤ xs.length * size := Nat.mul_le_mul_right _ (by omega)
  have e1 : (k + 1) * size = k * size + size := by rw [Nat.add_mul, Nat.one_mul]
  have e5 : (k + 1) * size ≤ xs.length * size := Nat.mul_le_mul_right _ (by omega)
  have e2 : (xs.length - k) * size + k * size = xs.length * size := by rw [← Nat.add_mul]; congr 1; omega
  have e3 : (xs.length + 1) * size = xs.length * size + size := by rw [Nat.add_mul, Nat.one_mul]
  have e4 : (xs.length + 1) * size ≤ cap * size := Nat.mul_le_mul_right _ hroom
  have hcl : ((xs.drop k).flatMap enc).length = (xs.length - k) * size := by rw [length_flatMap he, List.length_drop]
  have hread : ∀ j u, ((xs.drop k).flatMap enc)[j]? = some u → w.cell? ((⟨gb, k * size, none⟩ : Addr).add j) = some u := by
    intro j u hu
    have hj := (List.getElem?_eq_some_iff.1 hu).1
    rw [hcl] at hj
    rw [addr_add_none, cell_blk hg, ← Array.getElem?_toList]
    rw [← drop_flatMap he, List.getElem?_drop, ← htake, List.getElem?_take, if_pos (by omega)] at hu
    exact hu
  have hcel : Step.Cellish ((xs.drop k).flatMap enc) := by
    intro u hu
    obtain ⟨a, _, hu⟩ := List.mem_flatMap.1 hu
    exact h1 a u hu
  have hput := put_toList ((xs.drop k).flatMap enc) cur ((k + 1) * size) (by rw [hcl, hcs]; omega)
  have hr := copy_run (P := P) (ty := ty) (t := t) (w := w) ht hs (b := gb) (off := (k + 1) * size) (dl := xs.length + 1 - (k + 1)) (dc := cap - (k + 1)) (a := ⟨gb, k * size, none⟩) (m := xs.length + 1 - k) (mc := cap - k) (kk := xs.length - k) (cl := (xs.drop k).flatMap enc) hg hcl
    (by show min (xs.length + 1 - k) (xs.length + 1 - (k + 1)) = _; omega) hread (by rw [hcl, hcs]; omega) hcel
  have hx' : ρ.ev x = .slice (some ⟨gb, (k + 1) * size, none⟩) (xs.length + 1 - (k + 1)) (cap - (k + 1)) := by
    rw [hx]
    simp only [vSlice, Option.map_some, addr_add_none, Nat.zero_add]
    by_cases ec : cap = k + 1
    · exfalso; omega
    · rw [if_neg ec]
  have hy' : ρ.ev y = .slice (some ⟨gb, k * size, none⟩) (xs.length + 1 - k) (cap - k) := by
    rw [hy]
    simp only [vSlice, Option.map_some, addr_add_none, Nat.zero_add]
    rw [if_neg (by omega)]
  have hm' : Mod (Tp.own e size (.slice (some ⟨gb, 0, none⟩) xs.length cap) xs.length (xs.flatMap enc)).foot w (World.blkSet w gb (.cells (Step.put cur ((k + 1) * size) ((xs.drop k).flatMap enc)) e)) := (blkSet_mod w gb _).mono fun b _ hb => by
    show (Value.slice (some ⟨gb, 0, none⟩) xs.length cap).ownBlock = some b
    exact congrArg some (show gb = b from hb.symm)
  have hnew : (World.blkSet w gb (.cells (Step.put cur ((k + 1) * size) ((xs.drop k).flatMap enc)) e)).ownsRow 0 e size (.slice (some ⟨gb, 0, none⟩) (xs.length + 1) cap) (xs.take (k + 1) ++ xs.drop k).length ((xs.take (k + 1) ++ xs.drop k).flatMap enc) := by
    rw [hlen]
    refine ⟨by rw [length_flatMap he, hlen], .inr ⟨gb, cap, _, rfl, Nat.zero_le _, blkSet_at _ (lt_of_blk hg), hroom, hcm, by rw [Step.put_size]; exact hcs, ?_⟩⟩
    rw [hput]
    have hA : (cur.toList.take ((k + 1) * size)) = (xs.take (k + 1)).flatMap enc := by
      rw [← take_flatMap he, ← htake, List.take_take, Nat.min_eq_left (by omega)]
    simp only [splice]
    rw [hA, List.flatMap_append]
    refine List.take_left' ?_
    rw [List.length_append, hcl, length_flatMap he, List.length_take, Nat.min_eq_left (by omega)]
    omega
  refine ⟨_, fun d pos aft g => .inl ?_, M.turn i hi hm' (own_ok hnew) fun b hb => .inl hb, hm'⟩
  simp only [execOp, resolve, invoke, builtin, Sem.run_bind, Sem.run_pure, Result.andThen_ok, List.map_toArray, List.map_cons, List.map_nil, hx', hy', hr]
theorem growZeros {kn kq : IntKind} {a k : Nat} (M : Mem F X w0 L R w) (i : Nat) (hi : L[i]? = some (Tp.own e size v n cs)) (ht : Und P t (.slice e)) (htn : Und P tn (.int kn)) (he : Elem P e z size bytes) (hzs : z.cells.size = size) (hsz : 0 < size)
    (hx : ρ.ev x = vTake a v) (hy : ρ.ev y = .int kq (k : Int)) (hn : 0 < n) (ha : a ≤ n) (hk : 0 < k) (hg : vCap v < a + k) (hak : a + k ≤ maxLen) (hb : (a + k) * bytes ≤ 140737488355328) :
    Does P ⟨d, .call { callee := .builtin .append, args := #[x, y], argTypes := #[t, tn] }, ty, pos, aft, g⟩ ρ w fun v' w' => ∃ junk, junk.length = k * size ∧ Old w w' ∧ Mem F X w0 (Tp.own e size v' (a + k) (cs.take (a * size) ++ junk) :: L) R w' := by
  obtain ⟨v', w', junk, hr, h2, h3, h4, h5⟩ := append_zeros_run (ty := ty) (kq := kq) ht htn he hzs hsz (M.chunk i hi).inv hn ha hk hg hak hb
  refine .inl ⟨v', w', fun d pos aft g => .inl ?_, junk, h3, h4, M.own h4 (own_ok h2) h5⟩
  simp only [execOp, resolve, invoke, builtin, Sem.run_bind, Sem.run_pure, Result.andThen_ok, List.map_toArray, List.map_cons, List.map_nil, hx, hy, hr]
theorem overlaps {e2 : TypeId} {f : FuncId} {ts : Array TypeId} {b q : Nat} {c : Array Value} {l h m uc un : Nat} (M : Mem F X w0 L R w) (i : Nat) (hi : L[i]? = some (Tp.own e size v n cs)) (j : Nat) (hj : L[j]? = some (Tp.blk b (.cells c e2))) (hij : i ≠ j) (ht : Und P t (.slice e)) (hs : Sized P e size)
    (hx : ρ.ev x = .slice (some ⟨b, 0, none⟩) un uc) (hy : ρ.ev y = vSlice size l h m (vTake q v)) (hn : 0 < n) (hsz : 0 < size) (hfun : ∀ args : Array Value, (callFunc f args).run P w = ((Extern.SlicesOverlaps.overlaps #[t, t] #[ty] args).run P w).andThen fun v w' => .ok (.value v) w') :
    Step P (.call { callee := .value (.func f), args := #[x, y], argTypes := ts }) ty ρ w (.bool false) w := by
  have hown := (M.chunk i hi).inv
  have hbk : w.heap[b]? = some (.cells c e2) := M.blk j hj
  rcases hown.2 with ⟨_, h⟩ | ⟨gb, cap, cur, rfl, h0, hg, hnc, hcm, hcs, htake⟩
  · omega
  have hne : b ≠ gb := by
    intro e
    subst e
    exact M.disj_ne hi hj hij b rfl rfl
  have hsc : 0 < cap * size := Nat.mul_pos (by omega) hsz
  obtain ⟨o, l2, c2, hy2⟩ : ∃ o l2 c2, ρ.ev y = .slice (some ⟨gb, o, none⟩) l2 c2 := by
    rw [hy]
    simp only [vTake_eq, vSlice, Option.map_some, addr_add_none]
    split <;> exact ⟨_, _, _, rfl⟩
  have hr := Go.Lib.run_overlaps_apart (P := P) w t ty e ht size hs ⟨b, 0, none⟩ ⟨gb, o, none⟩ un uc l2 c2 hne e2 e c.size cur.size (by simp [World.shape?, hbk]) (by simp [World.shape?, hg]) (by omega) (by simp [World.frozen?, hbk]) (by simp [World.frozen?, hbk])
  refine Step.outer (args := [.slice (some ⟨b, 0, none⟩) un uc, .slice (some ⟨gb, o, none⟩) l2 c2]) (by simp [hx, hy2]) ?_
  rw [hfun, hr]
  rfl
end Mem
end Tp
namespace Tp
open Go
theorem Sh.reList {α : Type} {F : Nat → Prop} {w : World} {size : Nat} {v : Value} {enc : α → List Value} {xs ys : List α} (e : ys = xs) (h : Sh F (SlAt size v xs.length (xs.flatMap enc)) w) : Sh F (SlAt size v ys.length (ys.flatMap enc)) w := e ▸ h
end Tp
namespace Tp
open Go
theorem W.join {P : Program} {n : Nat} {Q : Exit → Env → World → Prop} {ρ : Env} {w : World} {c : Code} (J : Env → World → Prop) (h1 : W P n c (thn J fun _ _ _ => False) ρ w) (h2 : ∀ ρ w, J ρ w → Q .normal ρ w) : W P n c Q ρ w :=
  h1.mono fun e ρ w h => by
    cases e with
    | normal => exact h2 ρ w h
    | _ => exact h.elim
end Tp
namespace Tp
open Go
section
variable {P : Program} {ops : Array Oper} {ld mk : List Nat} {D : World → Prop} {Q : Env → World → Prop}
def Mid (P : Program) (ops : Array Oper) (ld mk : List Nat) (Q : Env → World → Prop) (suf : List Nat) : Env → World → Prop := fun ρ w => ∃ (D2 : World → Prop) (S2 : St), TW P ops ld mk D2 Q suf ρ S2 ∧ Good D2 S2 ∧ ∃ A, S2 A w
theorem any_of_tw2 {n : Nat} {Q' : Act → World → Prop} {rd : Option Nat} (suf : List Nat) (hsel : NoSel ops) (hdst : dstOk n ops.toList = true) (hQ : ∀ {a : Act} (ρ : Env) (w : World), (EnvOf n ρ a ∧ ρ.rd = rd) → Q ρ w → Q' a w) :
    ∀ (m : Nat) (l : List Nat) (ρ : Env) (S : St) (listed : Array Bool) (A : Nat → Prop) (w : World) (a : Act), l.length = m → ρ.rd = rd → TW P ops ld mk D (Mid P ops ld mk Q suf) l ρ S → Good D S → S A w → EnvOf n ρ a →
      Left ops listed (l ++ suf) → (l ++ suf).Pairwise (Before ops ld mk) → (∀ i, i ∈ l → ∀ j, j ∈ suf → TP ops i j) → (∀ i, i ∈ l ++ suf → ∀ k, DP ops k i → k < ops.size ∧ k ≠ i) → anyR P ops Q' rd (m + suf.length) listed a w := by
  intro m
  induction m with
  | zero =>
    intro l ρ S listed A w a hl hrd h hG hs ha hL hp hsuf hk
    have : l = [] := List.eq_nil_of_length_eq_zero hl
    subst this
    cases h with
    | nil h =>
      obtain ⟨D2, S2, h1, h2, A2, h3⟩ := h A w hs
      rw [Nat.zero_add]
      exact any_of_tw hsel hdst hQ _ suf ρ S2 listed A2 w a rfl hrd h1 h2 h3 ha hL hp hk
  | succ m ih =>
    intro l ρ S listed A w a hl hrd h hG hs ha hL hp hsuf hk
    rw [show m + 1 + suf.length = (m + suf.length) + 1 by omega]
    refine ⟨?_, ?_⟩
    · -- the first of the list can be carried out
      intro hr
      exfalso
      cases l with
      | nil => simp at hl
      | cons i l =>
        rw [List.cons_append] at hL hp hk
        have hi : i ∈ Region.ready .any ops listed := by
          have hlt := hL.lt i (by simp)
          simp only [Region.ready, List.mem_filter, List.mem_range, Bool.and_eq_true, Bool.not_eq_true']
          refine ⟨hlt, ?_, ?_⟩
          · have : ¬ listed.getD i false = true := fun h => (hL.iff i hlt).1 h (by simp)
            rw [Array.getD_eq_getD_getElem?] at this ⊢
            rw [Array.getElem?_eq_getElem (by rw [hL.size]; exact hlt)] at this ⊢
            simpa using this
          · rw [Array.getElem?_eq_getElem hlt]
            simp only [Option.map_some, Option.getD_some]
            refine Array.all_eq_true'.2 fun e he => ?_
            cases hb : Region.binds .any e with
            | false => rfl
            | true =>
              simp only [Bool.not_true, Bool.false_or]
              have hdp : DP ops e.on i := ⟨_, Array.getElem?_eq_getElem hlt, e, he, hb, rfl⟩
              obtain ⟨hlt', hne⟩ := hk i (by simp) e.on hdp
              refine (hL.iff _ hlt').2 fun hm => ?_
              rcases List.mem_cons.1 hm with hm | hm
              · exact hne hm
              · exact ((List.pairwise_cons.1 hp).1 _ hm).2.1 hdp
        rw [hr] at hi
        cases hi
    · intro j hj
      obtain ⟨hjl, hpre⟩ := hL.ready hj
      obtain ⟨oj, hoj⟩ : ∃ o, ops[j]? = some o := ⟨_, Array.getElem?_eq_getElem (hL.lt j hjl)⟩
      have hjl : j ∈ l := by
        rcases List.mem_append.1 hjl with h1 | h1
        · exact h1
        · cases l with
          | nil => simp at hl
          | cons i l => exact absurd (by simp) (hL.tp (hsuf i (by simp) j h1) hpre).2
      obtain ⟨l1, l2, rfl⟩ := List.append_of_mem hjl
      rw [List.append_assoc, List.cons_append] at hL hp hk hpre
      have hov : ∀ i, i ∈ l1 → Over ops i j ∧ Free ld mk i j := by
        intro i hi
        have hb := (List.pairwise_append.1 hp).2.2 i hi j (by simp)
        rcases hb.2.2 with ht | ⟨hap, hn⟩
        · exact absurd (by simp [hi]) (hL.tp ht hpre).2
        · exact ⟨hap, hn⟩
      have hL' := hL.next hpre
      have hp' : (l1 ++ (l2 ++ suf)).Pairwise (Before ops ld mk) := hp.sublist (by simp)
      have hsuf' : ∀ i, i ∈ l1 ++ l2 → ∀ j, j ∈ suf → TP ops i j := fun i hi => hsuf i (by rcases List.mem_append.1 hi with hi | hi <;> simp [hi])
      rw [← List.append_assoc] at hL' hp'
      have hk' : ∀ i, i ∈ l1 ++ l2 ++ suf → ∀ k, DP ops k i → k < ops.size ∧ k ≠ i := fun i hi => hk i (by simp only [List.mem_append] at hi; rcases hi with (hi | hi) | hi <;> simp [hi])
      have hl' : (l1 ++ l2).length = m := by simp at hl ⊢; omega
      have hdo : oj.dst.all (· < n) = true ∧ noDefer oj = true := by
        have := List.all_eq_true.1 hdst oj (by simpa using Array.mem_of_getElem? hoj)
        simpa only [Bool.and_eq_true] using this
      obtain ⟨hd, hnd⟩ := hdo
      have hy := ha.yielded ops oj
      have hrd' : ∀ v, (ρ.put oj.dst v).rd = rd := fun v => by rw [Env.put_rd, hrd]
      cases pull hsel hoj l2 l1 ρ S h hG ⟨A, w, hs⟩ hov with
      | steady v hw h' k' =>
        have hgo := ih _ _ S _ A w _ hl' (hrd' v) k' hG hs (ha.put oj.dst hd v) hL' hp' hsuf' hk'
        exact opR_value (v := v) hoj hnd (by rw [hy]; exact hw) (by rw [ha.eval]; exact h' w (hG.d _ _ hs) oj.dst oj.pos oj.after oj.guard) hgo
      | pass hw k' =>
        exact opR_pass hoj (by rw [hy]; exact hw) (ih _ _ S _ A w _ hl' (hrd' undef) k' hG hs (ha.put oj.dst hd undef) hL' hp' hsuf' hk')
      | maker hw h' =>
        obtain ⟨v, obj, h1, h2⟩ := h' w (hG.d _ _ hs)
        have hs' : (S.with w.heap.size obj) A (w.alloc obj) := ⟨hG.alloc _ _ _ hs, heap_alloc_new w obj, fun hA => by have := hG.lt _ _ hs _ hA; omega⟩
        have hgo := ih _ _ _ _ A _ _ hl' (hrd' v) (h2 ⟨A, _, hs'⟩) (hG.with _ _) hs' (ha.put oj.dst hd v) hL' hp' hsuf' hk'
        exact opR_value (v := v) hoj hnd (by rw [hy]; exact hw) (by rw [ha.eval]; exact h1 oj.dst oj.pos oj.after oj.guard) hgo
      | peek v _ _ hw h' k' =>
        rcases h' A w hs with ⟨v2, w', h1, rfl, h2, _⟩ | ⟨nx, h0, h1, h2⟩
        · have hgo := ih _ _ S _ A w' _ hl' (hrd' v2) k' hG h2 (ha.put oj.dst hd v2) hL' hp' hsuf' hk'
          exact opR_value (v := v2) hoj hnd (by rw [hy]; exact hw) (by rw [ha.eval]; exact h1 oj.dst oj.pos oj.after oj.guard) hgo
        · refine opR_call hoj hnd (by rw [hy]; exact hw) h0 (by rw [ha.eval]; exact h1 oj.dst oj.pos oj.after oj.guard) h2 ?_
          rintro v2 w' ⟨rfl, hS, _⟩
          exact ih _ _ S _ A w' _ hl' (hrd' v2) k' hG hS (ha.put oj.dst hd v2) hL' hp' hsuf' hk'
      | loud S' _ _ hw hg h' k' =>
        rcases h' A w hs with ⟨v, w', h1, ⟨x, h2⟩, _⟩ | ⟨nx, h0, h1, h2⟩
        · have hgo := ih _ _ (S' x v) _ A w' _ hl' (hrd' v) (k' x v ⟨A, w', h2⟩) (hg x v) h2 (ha.put oj.dst hd v) hL' hp' hsuf' hk'
          exact opR_value (v := v) hoj hnd (by rw [hy]; exact hw) (by rw [ha.eval]; exact h1 oj.dst oj.pos oj.after oj.guard) hgo
        · refine opR_call hoj hnd (by rw [hy]; exact hw) h0 (by rw [ha.eval]; exact h1 oj.dst oj.pos oj.after oj.guard) h2 ?_
          rintro v w' ⟨⟨x, hS⟩, _⟩
          exact ih _ _ (S' x v) _ A w' _ hl' (hrd' v) (k' x v ⟨A, w', hS⟩) (hg x v) hS (ha.put oj.dst hd v) hL' hp' hsuf' hk'
def sufB (ops : Array Oper) (pre suf : List Nat) : Bool := suf.all fun j => pre.all fun i => ((Region.before ops).getD j 0).testBit i
end
theorem W.region_any2 {P : Program} {n id : Nat} {l : List Oper} {Q : Exit → Env → World → Prop} {ρ : Env} {w : World} (pre suf ld mk : List Nat) (D : World → Prop) (S : St)
    (hm : P.follows .mixedOrders = true) (hB : (anyB n l.toArray ld mk (pre ++ suf) && sufB l.toArray pre suf) = true) (hG : Good D S) (hS : S (fun _ => False) w.drew) (h : TW P l.toArray ld mk D (Mid P l.toArray ld mk (Q .normal) suf) pre ρ S) :
    W P n (.region id l.toArray true) Q ρ w := by
  intro a ha b k cs hb
  rw [Bool.and_eq_true] at hB
  obtain ⟨hB, hsuf⟩ := hB
  generalize hord : pre ++ suf = ord at hB
  simp only [anyB, Bool.and_eq_true] at hB
  obtain ⟨⟨⟨h1, h2⟩, h3⟩, h4⟩ := hB
  obtain ⟨s1, s2, s3, s4, _⟩ := ordB_spec (before_tp l.toArray) ord [] h3
  have hsel : NoSel l.toArray := by
    intro j o cs b hj ho
    have := Array.all_eq_true'.1 h1 o (Array.mem_of_getElem? hj)
    rw [ho] at this
    cases this
  have hcov : ∀ i, i < l.toArray.size → i ∈ ord := fun i hi => by
    have := List.all_eq_true.1 h4 i (List.mem_range.2 hi)
    simpa using this
  have hlen : ord.length = l.toArray.size := by
    have p1 : ord.length ≤ (List.range l.toArray.size).length := s2.length_le_of_subset fun x hx => List.mem_range.2 (s1 x hx).2
    have p2 : (List.range l.toArray.size).length ≤ ord.length := List.nodup_range.length_le_of_subset fun x hx => hcov x (List.mem_range.1 hx)
    simp only [List.length_range] at p1 p2
    omega
  suffices hany : anyR P l.toArray (fun a w => lift n Q .normal a w ρ.rd) ρ.rd l.toArray.size (Array.replicate l.toArray.size false) a w.drew by
    obtain ⟨a', w', hq, hs⟩ := anyR_sound l.toArray.size (w.tape w.drawn (.order b.fn id)) _ a _ hany b k cs hb
    refine ⟨.normal, a', w', hq, Steps.head stepR_region_draw ?_⟩
    simp only [Region.schedule, hm, Bool.true_or, if_true]
    exact hs
  rw [← hlen]
  have hl2 : ord.length = pre.length + suf.length := by rw [← hord, List.length_append]
  rw [show anyR P l.toArray (fun a w => lift n Q .normal a w ρ.rd) ρ.rd ord.length = anyR P l.toArray (fun a w => lift n Q .normal a w ρ.rd) ρ.rd (pre.length + suf.length) by rw [hl2]]
  refine any_of_tw2 suf hsel h2 (fun ρ' w h1 h => ⟨ρ', h1.1, h1.2, h⟩) _ pre ρ S _ (fun _ => False) w.drew a rfl rfl h hG hS ha ?_ (by rw [hord]; exact s3) ?_ ?_
  · rw [hord]
    refine ⟨by simp [hlen], s2, fun i hi => (s1 i hi).2, ?_, fun i j _ hj hn => absurd (hcov j hj) hn⟩
    intro i hi
    have hf : (Array.replicate ord.length false).getD i false = false := by
      rw [Array.getD_eq_getD_getElem?, Array.getElem?_replicate]; split <;> rfl
    rw [hf]
    exact ⟨fun h => (by cases h), fun h => absurd (hcov i hi) h⟩
  · intro i hi j hj
    have := List.all_eq_true.1 hsuf j hj
    exact before_tp _ j i (List.all_eq_true.1 this i hi)
  · rw [hord]
    intro i hi k hk
    obtain ⟨h1, h2⟩ := s4 i hi k hk
    refine ⟨?_, h2⟩
    rcases h1 with h1 | h1
    · cases h1
    · exact (s1 k h1).2
section
variable {P : Program} {ops : Array Oper} {ld mk : List Nat} {F X : Nat → Prop} {w0 : World} {L : List Chunk} {R : List (World → Prop)} {ρ : Env}
theorem W.drawn2 {n id : Nat} {l : List Oper} {Q : Exit → Env → World → Prop} {w : World} (M : Mem F X w0 L R w) (pre suf ld mk : List Nat) (Lp : List Chunk) (Rp : List (World → Prop)) (hL : Lp.Sublist L) (hR : ∀ r, r ∈ Rp → r ∈ R)
    (hm : P.follows .mixedOrders = true) (hB : (anyB n l.toArray ld mk (pre ++ suf) && sufB l.toArray pre suf) = true) (h : TW P l.toArray ld mk (Dm F X w0 Lp Rp) (Mid P l.toArray ld mk (Q .normal) suf) pre ρ (MemA F X w0 L R)) : W P n (.region id l.toArray true) Q ρ w :=
  W.region_any2 pre suf ld mk _ _ hm hB (good_mem hL hR) (MemA.start M) h
theorem TW.turn {D : World → Prop} {Q : Env → World → Prop} {suf : List Nat} (Lp : List Chunk) (Rp : List (World → Prop)) (hL : Lp.Sublist L) (hR : ∀ r, r ∈ Rp → r ∈ R) (h : TW P ops ld mk (Dm F X w0 Lp Rp) Q suf ρ (MemA F X w0 L R)) :
    TW P ops ld mk D (Mid P ops ld mk Q suf) [] ρ (MemA F X w0 L R) := .nil fun A w M => ⟨_, _, h, good_mem hL hR, A, M⟩
end
end Tp
namespace Tp
open Go
abbrev vI (n : Int) : Value := .int .i64 n
abbrev vU (n : Int) : Value := .int .u64 n
abbrev vB (b : Bool) : Value := .bool b
abbrev vS (s : ByteArray) : Value := .string s
abbrev vP (b : Nat) : Value := .pointer (some ⟨b, 0, none⟩)
abbrev vN : Value := .pointer none
abbrev sZ : ByteArray := ⟨#[]⟩
abbrev vZ : Value := .slice none 0 0
abbrev vQ (v : Value) (i k : Nat) : Value := .pointer (some ⟨sBlk v, sOff v + i * k, none⟩)
abbrev vR (v : Value) (i k j : Nat) : Value := .pointer (some ⟨sBlk v, sOff v + i * k + j, none⟩)
abbrev bk (b : Nat) (cs : Array Value) (t : TypeId) : Chunk := blk b (.cells cs t)
abbrev bF (b : Nat) (cs : Array Value) (t : TypeId) (w : World) : Prop := w.heap[b]? = some (.cells cs t)
section
variable {α : Type} {a : α} {l l' : List α}
theorem sY (h : l.Sublist l') : (a :: l).Sublist (a :: l') := h.cons_cons a
theorem sN (h : l.Sublist l') : l.Sublist (a :: l') := h.cons a
theorem sE : ([] : List α).Sublist [] := .slnil
end
section
variable {P : Program} {op : Op} {ty : TypeId} {ρ : Env} {w w' : World} {v : Value} {n : Nat} {ops : Array Oper} {rest : List Oper} {Q : Exit → Env → World → Prop} {d : Option Nat} {pos : String} {aft : Array Edge} {g : Option (Nat × Bool)}
theorem sP (h : (execOp ρ.ev ⟨none, op, ty, "", #[], none⟩).run P w = .ok (.value v) w := by kernel_rfl) : Step P op ty ρ w v w := Step.pure h
theorem wS (v : Value) (hg : ρ.want ops g = true) (h : Step P op ty ρ w v w') (k : WL P n ops rest Q (ρ.put d v) w') : WL P n ops (⟨d, op, ty, pos, aft, g⟩ :: rest) Q ρ w := WL.step hg h k
end
section
variable {P : Program} {n : Nat} {Q : Exit → Env → World → Prop} {ρ : Env} {w : World} {id : Nat} {l : List Oper} {y : Code}
theorem wR (h : WL P n l.toArray l (thn (W P n y Q) Q) ρ w) (hd : dstOk n l = true := by rfl) : W P n (.seq (.region id l.toArray false) y) Q ρ w := W.seq' (W.region hd h)
end
theorem Mem.loseI {F X : Nat → Prop} {w0 w : World} {L : List Chunk} {R : List (World → Prop)} (M : Mem F X w0 L R w) (i : Nat) : Mem F X w0 (L.eraseIdx i) R w := M.sub (List.eraseIdx_sublist _ _) fun _ h => h
section
variable {P : Program} {ρ : Env} {w : World} {ty : TypeId}
theorem sX {t e : TypeId} {x ix : Operand} {v z' : Value} {n cap size bytes : Nat} {k : IntKind} {z : Int} (i : Nat) (ht : Und P t (.slice e)) (he : Elem P e z' size bytes)
    (hx : ρ.ev x = v) (hi : ρ.ev ix = .int k z) (hv : v = .slice (some ⟨sBlk v, sOff v, none⟩) n cap) (hz : z = (i : Int) := by omega) (hlt : i < n := by omega) : Step P (.indexAddr t x ix) ty ρ w (vQ v i size) w :=
  Step.indexAddr ht.run he.sized hx hi hz hv hlt
end
section
variable {P : Program} {ops : Array Oper} {ld mk : List Nat} {Q : Env → World → Prop} {i : Nat} {d : Option Nat} {op : Op} {ty : TypeId} {pos : String} {aft : Array Edge} {g : Option (Nat × Bool)}
  {rest : List Nat} {ρ : Env} {F X : Nat → Prop} {w0 : World} {Lp L L' : List Chunk} {Rp R : List (World → Prop)}
theorem tP (v : Value) {S : St} {D : World → Prop} (hi : ops[i]? = some ⟨d, op, ty, pos, aft, g⟩)
    (h : ∀ w, Step P op ty ρ w v w) (k : TW P ops ld mk D Q rest (ρ.put d v) S) (hl : i ∉ ld := by decide) (hm : i ∉ mk := by decide) (hw : ρ.want ops g = true := by rfl) : TW P ops ld mk D Q (i :: rest) ρ S := TW.pure hi hl hm hw h k
theorem tR (v : Value) {S : St} (hi : ops[i]? = some ⟨d, op, ty, pos, aft, g⟩)
    (h : ∀ A w, Mem F X w0 (fl A :: Lp) Rp w → Step P op ty ρ w v w) (k : TW P ops ld mk (Dm F X w0 Lp Rp) Q rest (ρ.put d v) S) (hl : i ∉ ld := by decide) (hm : i ∉ mk := by decide) (hw : ρ.want ops g = true := by rfl) : TW P ops ld mk (Dm F X w0 Lp Rp) Q (i :: rest) ρ S := TW.read hi hl hm hw h k
end
def Frm (L C D : List Chunk) : Prop := ∃ is, Sel L (C ++ D) is ∧ is.Nodup
namespace Mem
variable {F X : Nat → Prop} {w0 w w' : World} {L C C' D : List Chunk} {R R' : List (World → Prop)} {A : Nat → Prop}
theorem frm (M : Mem F X w0 L R w) (C D : List Chunk) (is : List Nat) (h : Sel L (C ++ D) is) (hn : is.Nodup := by decide) : Frm L C D := ⟨is, h, hn⟩
theorem eF (M : Mem F X w0 L R w) (f : Frm L C D) (hR : Facts (avoid C) w R') : Mem (avoid C) (Foots C) w C R' w := let ⟨is, h, hn⟩ := f; M.enterW is h hn hR
theorem lF (M : Mem F X w0 L R w) (f : Frm L C D) (m : Mem (avoid C) (Foots C) w C' [] w') : Mem F X w0 (C' ++ D) R w' := let ⟨is, h, hn⟩ := f; M.leaveW is h hn m
theorem kF (M : Mem F X w0 L R w) (f : Frm L C (fl A :: D)) (m : Mem (avoid C) (Foots C) w C' [] w') : ∀ b, A b → w'.heap[b]? = w.heap[b]? := let ⟨is, h, hn⟩ := f; M.keptW is h hn m (fl A) (List.mem_cons_self ..)
theorem rF (M : Mem F X w0 L R w) (f : Frm L C D) (i : Nat) {r : World → Prop} (h : R[i]? = some r) : Sh (avoid C) r w := let ⟨is, hs, _⟩ := f; M.wideR is hs i h
theorem cF (M : Mem F X w0 L R w) (f : Frm L C D) (i : Nat) {c : Chunk} (h : D[i]? = some c) : Sh (avoid C) c.inv w := let ⟨is, hs, hn⟩ := f; M.wideC is hs hn i h
theorem eN (M : Mem F X w0 L R w) (f : Frm L C D) (hR : Facts (Outer F w0 L) w R') : Mem (Outer F w0 (C ++ D)) (Foots C) w C R' w := let ⟨is, h, hn⟩ := f; M.enter is h hn hR
theorem lN (M : Mem F X w0 L R w) (f : Frm L C D) (m : Mem (Outer F w0 (C ++ D)) (Foots C) w C' R' w') : Mem F X w0 (C' ++ D) (R' ++ R) w' := let ⟨is, h, hn⟩ := f; M.leave is h hn m
theorem k0F (M : Mem F X w0 (fl A :: L) R w) (m : Mem (fun _ => True) (fun _ => False) w C' [] w') : ∀ b, A b → w'.heap[b]? = w.heap[b]? := M.keptW0 m (fl A) (List.mem_cons_self ..)
end Mem
section
variable {P : Program} {ty : TypeId} {ρ : Env} {w : World} {v : Value} {n : Nat} {ops : Array Oper} {rest : List Oper} {Q : Exit → Env → World → Prop} {d : Option Nat} {pos : String} {aft : Array Edge} {g : Option (Nat × Bool)} {x : Operand} {op : Op}
theorem wM (v : Value) (k : WL P n ops rest Q (ρ.put d v) w) (h : ρ.ev x = v := by rfl) (hg : ρ.want ops g = true := by rfl) : WL P n ops (⟨d, .move x, ty, pos, aft, g⟩ :: rest) Q ρ w := wS v hg (Step.move h) k
theorem wA (v : Value) (k : WL P n ops rest Q (ρ.put d v) w) (h : ρ.ev x = v := by rfl) (hg : ρ.want ops g = true := by rfl) : WL P n ops (⟨d, .assign x, ty, pos, aft, g⟩ :: rest) Q ρ w := wS v hg (Step.assign h) k
theorem wP (v : Value) (k : WL P n ops rest Q (ρ.put d v) w) (h : (execOp ρ.ev ⟨none, op, ty, "", #[], none⟩).run P w = .ok (.value v) w := by kernel_rfl) (hg : ρ.want ops g = true := by rfl) : WL P n ops (⟨d, op, ty, pos, aft, g⟩ :: rest) Q ρ w := wS v hg (sP h) k
end
end Tp
set_option maxRecDepth 100000
namespace Go.Proofs
open Go Tp
theorem Tryz.un23 : Und Tryz.prog 23 (.slice 9) := by unfold Und; kernel_rfl
theorem Tryz.un90 : Und Tryz.prog 90 (.slice 68) := by unfold Und; kernel_rfl
theorem Tryz.un91 : Und Tryz.prog 91 (.slice 3) := by unfold Und; kernel_rfl
theorem Tryz.un104 : Und Tryz.prog 104 (.map 3 129) := by unfold Und; kernel_rfl
theorem Tryz.un105 : Und Tryz.prog 105 (.slice 112) := by unfold Und; kernel_rfl
theorem Tryz.ag68 : Aggr Tryz.prog 68 2 := ⟨fun _ => by kernel_rfl, fun _ => by kernel_rfl⟩
theorem Tryz.ag93 : Aggr Tryz.prog 93 4 := ⟨fun _ => by kernel_rfl, fun _ => by kernel_rfl⟩
theorem Tryz.el3 : Elem Tryz.prog 3 (vI 0) 1 8 := Elem.mk (by kernel_rfl)
theorem Tryz.el9 : Elem Tryz.prog 9 (vS sZ) 1 16 := Elem.mk (by kernel_rfl)
theorem Tryz.el68 : Elem Tryz.prog 68 (Value.agg #[(vI 0), (vI 0)]) 2 16 := Elem.mk (by kernel_rfl)
theorem Tryz.el93 : Elem Tryz.prog 93 (Value.agg #[(vB false), vZ, vZ, vZ]) 4 80 := Elem.mk (by kernel_rfl)
theorem Tryz.el105 : Elem Tryz.prog 105 vZ 1 24 := Elem.mk (by kernel_rfl)
theorem Tryz.el112 : Elem Tryz.prog 112 (Value.agg #[(vB false), vZ, vZ, vZ, (vI 0)]) 5 88 := Elem.mk (by kernel_rfl)
theorem Tryz.el129 : Elem Tryz.prog 129 (Value.agg #[]) 0 0 := Elem.mk (by kernel_rfl)
theorem Tryz.en65 : Enters Tryz.prog 65 := fun _ _ => by kernel_rfl
theorem Tryz.en66 : Enters Tryz.prog 66 := fun _ _ => by kernel_rfl
theorem Tryz.en78 : Enters Tryz.prog 78 := fun _ _ => by kernel_rfl
theorem Tryz.en79 : Enters Tryz.prog 79 := fun _ _ => by kernel_rfl
theorem Tryz.en80 : Enters Tryz.prog 80 := fun _ _ => by kernel_rfl
theorem Tryz.en81 : Enters Tryz.prog 81 := fun _ _ => by kernel_rfl
theorem Tryz.en82 : Enters Tryz.prog 82 := fun _ _ => by kernel_rfl
theorem Tryz.en95 : Enters Tryz.prog 95 := fun _ _ => by kernel_rfl
theorem Tryz.en96 : Enters Tryz.prog 96 := fun _ _ => by kernel_rfl
theorem Tryz.fl68 : (Tryz.prog.fieldsOf 68).toList = [⟨ "At", 3, 0, false, "", "", 0⟩, ⟨ "Turn", 3, 1, false, "", "", 8⟩] := by kernel_rfl
theorem Tryz.eg68 : Tryz.prog.eqGuardType Tryz.prog.depth 68 = false := by kernel_rfl
theorem Tryz.eq68 (d : Nat) (a0 : Int) (a1 : Int) (b0 : Int) (b1 : Int) : ∀ w, (Op.equalIn (d + 2) 68 (Value.agg #[(vI a0), (vI a1)]) (Value.agg #[(vI b0), (vI b1)])).run Tryz.prog w = .ok (((a0 : Int) == (b0 : Int)) && (((a1 : Int) == (b1 : Int)) && true)) w :=
  (eq_struct (by kernel_rfl) (by kernel_rfl) (Tryz.fl68) (eqF_cons (x := (vI a0)) (y := (vI b0)) (by decide) (fun _ => by kernel_rfl) (fun _ => by kernel_rfl) (fun w => run_equalIn_int w _ _ _ .i64 _ _ (by kernel_rfl)) (eqF_cons (x := (vI a1)) (y := (vI b1)) (by decide) (fun _ => by kernel_rfl) (fun _ => by kernel_rfl) (fun w => run_equalIn_int w _ _ _ .i64 _ _ (by kernel_rfl)) eqF_nil)))
theorem Tryz.mt104 : MapT Tryz.prog 104 3 129 .i64 (Value.agg #[]) := ⟨Tryz.un104, by unfold Und; kernel_rfl, (Elem.mk (size := 0) (bytes := 0) (by kernel_rfl)).zero⟩
theorem Tryz.sc3 : Scal Tryz.prog 3 := fun _ => by kernel_rfl
theorem Tryz.sc4 : Scal Tryz.prog 4 := fun _ => by kernel_rfl
theorem Tryz.sc23 : Scal Tryz.prog 23 := fun _ => by kernel_rfl
theorem Tryz.sc90 : Scal Tryz.prog 90 := fun _ => by kernel_rfl
theorem Tryz.sc91 : Scal Tryz.prog 91 := fun _ => by kernel_rfl
theorem Tryz.sc104 : Scal Tryz.prog 104 := fun _ => by kernel_rfl
theorem Tryz.sc105 : Scal Tryz.prog 105 := fun _ => by kernel_rfl
theorem Tryz.mixed : Tryz.prog.follows .mixedOrders = true := by kernel_rfl
abbrev oS (v : Value) (xs : List ByteArray) : Chunk := own 9 1 v xs.length (xs.flatMap strE)
abbrev fS (v : Value) (xs : List ByteArray) : World → Prop := SlAt 1 v xs.length (xs.flatMap strE)
abbrev oI (v : Value) (xs : List Int) : Chunk := own 3 1 v xs.length (xs.flatMap intE)
abbrev fI (v : Value) (xs : List Int) : World → Prop := SlAt 1 v xs.length (xs.flatMap intE)
abbrev oH (v : Value) (xs : List Handle) : Chunk := own 68 2 v xs.length (xs.flatMap handleE)
abbrev fH (v : Value) (xs : List Handle) : World → Prop := SlAt 2 v xs.length (xs.flatMap handleE)
theorem clone_int {G : Nat → Prop} {w : World} (v : Value) (xs : List Int)  (hb : xs.length * 8 ≤ 140737488355328) (M : Mem G (fun _ => False) w [] [fI v xs] w) : Rets Tryz.prog 82 #[v] w fun r w' => ∃ (v' : Value), r = v' ∧ Mem G (fun _ => False) w [oI v' xs] [] w' := by
 refine Rets.enter 8 _ Tryz.func82 rfl Tryz.ntmps82 Tryz.results82 (by simp) ?_
 have hle1 := SlAt.le' (M.rep 0 rfl)
 have sl2 : IsSl v := SlAt.isSl (Mem.rep M 0 rfl)
 refine wR (wA vZ (WL.nil (W.seq' (wR (wM v ?_)))))
 rcases SlAt.cases (M.rep 0 rfl) with ⟨hn3, hn3z⟩ | ⟨_, _, hn3⟩
 ·
  refine wS (vB true) rfl (Step.eqNil Tryz.un91 rfl hn3 rfl) (WL.nil ?_)
  refine W.cond (t := true) rfl (fun _ => ?_) (fun h => by cases h)
  refine wR (wA vZ (WL.nil ?_))
  refine W.ret ?_
  refine ⟨.inl rfl, vZ, ?_, ?_⟩
  · exact ⟨rfl, (Res.r1 (show RV _ _ _ (.tmp 2) vZ from by exact rfl))⟩
  replace M := M.ownNil 3 1
  have e4 : xs = [] := by
   exact List.eq_nil_of_length_eq_zero hn3z
  replace M := M.rechunk 0 (c' := oI vZ xs) rfl (by rw [e4]; try rfl)
  refine ⟨vZ, ?_, M.close [0] rfl (by decide) trivial⟩
  rfl
 ·
  refine wS (vB false) rfl (Step.eqSome Tryz.un91 rfl hn3 rfl) (WL.nil ?_)
  refine W.cond (t := false) rfl (fun h => by cases h) (fun _ => ?_)
  refine W.skip (wR ?_)
  refine WL.new (obj := .cells #[] 3) (fun b => .slice (some ⟨b, 0, none⟩) 0 0) M rfl (fun w => Step.make (by kernel_rfl)) (fun b5 w6 hb5 M => ?_)
  refine wM v ?_
  replace M := M.ownBlk 0 (n := 0) (size := 1) rfl rfl (by decide)
  refine WL.does rfl (M.appendF ([] : List Int) xs (sv := v) 0 Tryz.un91 Tryz.el3 rfl (by decide) rfl rfl rfl (M.rep 0 rfl) intE_cel (by have := trivial; simp only [maxLen, List.length_nil, List.length_cons, List.length_append]; omega) (by have := trivial; (try simp only [List.length_nil, List.length_cons, List.length_append]); omega)) ?_
  rintro v7 w8 M
  have sl9 : IsSl v7 := SlAt.isSl (own_slAt (M.chunk 0 rfl).inv)
  refine wA v7 (WL.nil ?_)
  refine W.ret ?_
  refine ⟨.inl rfl, v7, ?_, ?_⟩
  · exact ⟨rfl, (Res.r1 (show RV _ _ _ (.tmp 2) v7 from by exact rfl))⟩
  refine ⟨v7, ?_, M.close [0] rfl (by decide) trivial⟩
  rfl
theorem delete_int {G X : Nat → Prop} {w : World} (v : Value) (xs : List Int) (a : Int) (b : Int)  (hab : 0 ≤ a ∧ a < b ∧ b ≤ xs.length) (M : Mem G X w [oI v xs] [] w) : Rets Tryz.prog 74 #[v, (vI a), (vI b)] w fun r w' => ∃ (v' : Value), r = v' ∧ Mem G X w [oI v' (xs.take (Int.toNat a) ++ xs.drop (Int.toNat b))] [] w' := by
 refine Rets.enter 33 _ Tryz.func74 rfl Tryz.ntmps74 Tryz.results74 (by simp) ?_
 have sl1 : IsSl v := SlAt.isSl (own_slAt (Mem.chunk M 0 rfl).inv)
 have hle2 := SlAt.le' (own_slAt (Mem.chunk M 0 rfl).inv)
 have hcl : (xs.take a.toNat ++ xs.drop b.toNat).length = a.toNat + (xs.length - b.toNat) := by (simp; omega)
 have hsv := (own_slAt (M.chunk 0 rfl).inv).shp
 have hcv : vCap (vTake (a.toNat + (xs.length - b.toNat)) v) = vCap v := Shp.cap hsv
 obtain ⟨_, _, hsv1, hsv2⟩ := id hsv
 refine wR (wA vZ (WL.nil (wR (wM v (wM (vI a) ?_)))))
 refine wM (vI b) (wM v (wS (vI ↑xs.length) rfl (Step.lenSl Tryz.un91 rfl (own_slAt (M.chunk 0 rfl).inv)) ?_))
 have hsh3 := SlAt.shp (own_slAt (M.chunk 0 rfl).inv)
 have hsh3c := hsh3
 obtain ⟨_, _, hsh3l, hsh3m⟩ := hsh3c
 refine wS (vSlice 1 a.toNat b.toNat xs.length v) rfl (Step.slice4P (l := a.toNat) (h := b.toNat) (m := xs.length) Tryz.un91 Tryz.el3.sized rfl rfl (by omega) rfl (by omega) rfl (by omega) hsh3 (by omega) (by omega) (by obtain ⟨_, _, _, _⟩ := hsh3; omega)) (WL.nil (W.seq' (wR (wM (vI a) (wM (vI b) ?_)))))
 refine wP (vB ((a : Int) == (b : Int))) (WL.nil ?_)
 refine W.cond (t := (a : Int) == (b : Int)) rfl (fun h4 => ?_) (fun h4 => ?_)
 ·
  have h4p : (a : Int) = (b : Int) := by simpa using h4
  omega
 ·
  have h4p : ¬ (a : Int) = (b : Int) := by simpa using h4
  refine W.skip (wR (wM v (wS (vI ↑xs.length) rfl (Step.lenSl Tryz.un91 rfl (own_slAt (M.chunk 0 rfl).inv)) (wA (vI ↑xs.length) (WL.nil ?_)))))
  refine W.seq' ?_
  refine W.drawn M [0, 1, 2, 3, 4, 5, 6, 7] [6] [] _ _ (sN sE) (fun _ h => h) Tryz.mixed (by kernel_rfl) ?_
  refine tP v rfl (fun w => (Step.move rfl)) ?_
  refine tP (vI a) rfl (fun w => (Step.move rfl)) ?_
  refine tP (vTake a.toNat v) rfl (fun w => (Step.sliceToP (h := a.toNat) Tryz.un91 Tryz.el3.sized rfl rfl (by omega) hsh3 (by obtain ⟨_, _, _, _⟩ := hsh3; omega))) ?_
  refine tP v rfl (fun w => (Step.move rfl)) ?_
  refine tP (vI b) rfl (fun w => (Step.move rfl)) ?_
  refine tP (vSlice 1 b.toNat xs.length (vCap v) v) rfl (fun w => (Step.sliceFromP (l := b.toNat) Tryz.un91 Tryz.el3.sized rfl rfl (by omega) hsh3 (by omega))) ?_
  refine TW.act (c' := oI (vTake (a.toNat + (xs.length - b.toNat)) v) (xs.take a.toNat ++ xs.drop b.toNat)) 0 rfl rfl (by decide) rfl (sN sE) (fun r h => h) (fun A w M => M.appendCutF intE_len (a := a.toNat) (b := b.toNat) 1 rfl Tryz.un91 Tryz.el3 rfl rfl (by omega) (by omega) (by omega) intE_cel) ?_
  refine tP (vTake (a.toNat + (xs.length - b.toNat)) v) rfl (fun w => (Step.assign rfl)) ?_
  refine TW.done (fun w5 M => ?_)
  refine wR (wM (vTake (a.toNat + (xs.length - b.toNat)) v) (wM (vTake (a.toNat + (xs.length - b.toNat)) v) (wS (vI (↑((xs.take a.toNat ++ xs.drop b.toNat).length))) rfl (Step.lenSl Tryz.un91 rfl (own_slAt (M.chunk 0 rfl).inv)) (wM (vI ↑xs.length) ?_))))
  have hsh6 := SlAt.shp (own_slAt (M.chunk 0 rfl).inv)
  have hsh6c := hsh6
  obtain ⟨_, _, hsh6l, hsh6m⟩ := hsh6c
  refine wS (vSlice 1 ((xs.take a.toNat ++ xs.drop b.toNat).length) xs.length (vCap (vTake (a.toNat + (xs.length - b.toNat)) v)) (vTake (a.toNat + (xs.length - b.toNat)) v)) rfl (Step.sliceLHP (l := (xs.take a.toNat ++ xs.drop b.toNat).length) (h := xs.length) Tryz.un91 Tryz.el3.sized rfl rfl (by omega) rfl (by omega) hsh6 (by omega) (by obtain ⟨_, _, _, _⟩ := hsh6; omega)) ?_
  refine WL.act rfl (M.clearTailF intE_len (l := (xs.take a.toNat ++ xs.drop b.toNat).length) (h := xs.length) 0 rfl Tryz.un91 Tryz.el3 rfl (cel_cons rfl cel_nil) rfl (by simp only [List.length_append, List.length_take, List.length_drop]; omega) (by omega) (by omega) (Nat.le_refl _)) ?_
  rintro w7 ⟨M, -⟩
  refine WL.nil (wR (wM (vTake (a.toNat + (xs.length - b.toNat)) v) (wA (vTake (a.toNat + (xs.length - b.toNat)) v) (WL.nil ?_))))
  refine W.ret ?_
  refine ⟨.inl rfl, (vTake (a.toNat + (xs.length - b.toNat)) v), ?_, ?_⟩
  · exact ⟨rfl, (Res.r1 (show RV _ _ _ (.tmp 6) (vTake (a.toNat + (xs.length - b.toNat)) v) from by exact rfl))⟩
  have e8 : xs.take (Int.toNat a) ++ xs.drop (Int.toNat b) = xs.take a.toNat ++ xs.drop b.toNat := by
   rfl
  replace M := M.rechunk 0 (c' := oI (vTake (a.toNat + (xs.length - b.toNat)) v) (xs.take (Int.toNat a) ++ xs.drop (Int.toNat b))) rfl (congrArg (fun z => own 3 1 (vTake (a.toNat + (xs.length - b.toNat)) v) z.length (z.flatMap intE)) e8.symm)
  refine ⟨(vTake (a.toNat + (xs.length - b.toNat)) v), ?_, M.close [0] rfl (by decide) trivial⟩
  rfl
theorem clone_str {G : Nat → Prop} {w : World} (v : Value) (xs : List ByteArray)  (hb : xs.length * 16 ≤ 140737488355328) (M : Mem G (fun _ => False) w [] [fS v xs] w) : Rets Tryz.prog 80 #[v] w fun r w' => ∃ (v' : Value), r = v' ∧ Mem G (fun _ => False) w [oS v' xs] [] w' := by
 refine Rets.enter 8 _ Tryz.func80 rfl Tryz.ntmps80 Tryz.results80 (by simp) ?_
 have hle1 := SlAt.le' (M.rep 0 rfl)
 have sl2 : IsSl v := SlAt.isSl (Mem.rep M 0 rfl)
 refine wR (wA vZ (WL.nil (W.seq' (wR (wM v ?_)))))
 rcases SlAt.cases (M.rep 0 rfl) with ⟨hn3, hn3z⟩ | ⟨_, _, hn3⟩
 ·
  refine wS (vB true) rfl (Step.eqNil Tryz.un23 rfl hn3 rfl) (WL.nil ?_)
  refine W.cond (t := true) rfl (fun _ => ?_) (fun h => by cases h)
  refine wR (wA vZ (WL.nil ?_))
  refine W.ret ?_
  refine ⟨.inl rfl, vZ, ?_, ?_⟩
  · exact ⟨rfl, (Res.r1 (show RV _ _ _ (.tmp 2) vZ from by exact rfl))⟩
  replace M := M.ownNil 9 1
  have e4 : xs = [] := by
   exact List.eq_nil_of_length_eq_zero hn3z
  replace M := M.rechunk 0 (c' := oS vZ xs) rfl (by rw [e4]; try rfl)
  refine ⟨vZ, ?_, M.close [0] rfl (by decide) trivial⟩
  rfl
 ·
  refine wS (vB false) rfl (Step.eqSome Tryz.un23 rfl hn3 rfl) (WL.nil ?_)
  refine W.cond (t := false) rfl (fun h => by cases h) (fun _ => ?_)
  refine W.skip (wR ?_)
  refine WL.new (obj := .cells #[] 9) (fun b => .slice (some ⟨b, 0, none⟩) 0 0) M rfl (fun w => Step.make (by kernel_rfl)) (fun b5 w6 hb5 M => ?_)
  refine wM v ?_
  replace M := M.ownBlk 0 (n := 0) (size := 1) rfl rfl (by decide)
  refine WL.does rfl (M.appendF ([] : List ByteArray) xs (sv := v) 0 Tryz.un23 Tryz.el9 rfl (by decide) rfl rfl rfl (M.rep 0 rfl) strE_cel (by have := trivial; simp only [maxLen, List.length_nil, List.length_cons, List.length_append]; omega) (by have := trivial; (try simp only [List.length_nil, List.length_cons, List.length_append]); omega)) ?_
  rintro v7 w8 M
  have sl9 : IsSl v7 := SlAt.isSl (own_slAt (M.chunk 0 rfl).inv)
  refine wA v7 (WL.nil ?_)
  refine W.ret ?_
  refine ⟨.inl rfl, v7, ?_, ?_⟩
  · exact ⟨rfl, (Res.r1 (show RV _ _ _ (.tmp 2) v7 from by exact rfl))⟩
  refine ⟨v7, ?_, M.close [0] rfl (by decide) trivial⟩
  rfl
theorem delete_str {G X : Nat → Prop} {w : World} (v : Value) (xs : List ByteArray) (a : Int) (b : Int)  (hab : 0 ≤ a ∧ a < b ∧ b ≤ xs.length) (M : Mem G X w [oS v xs] [] w) : Rets Tryz.prog 73 #[v, (vI a), (vI b)] w fun r w' => ∃ (v' : Value), r = v' ∧ Mem G X w [oS v' (xs.take (Int.toNat a) ++ xs.drop (Int.toNat b))] [] w' := by
 refine Rets.enter 33 _ Tryz.func73 rfl Tryz.ntmps73 Tryz.results73 (by simp) ?_
 have sl1 : IsSl v := SlAt.isSl (own_slAt (Mem.chunk M 0 rfl).inv)
 have hle2 := SlAt.le' (own_slAt (Mem.chunk M 0 rfl).inv)
 have hcl : (xs.take a.toNat ++ xs.drop b.toNat).length = a.toNat + (xs.length - b.toNat) := by (simp; omega)
 have hsv := (own_slAt (M.chunk 0 rfl).inv).shp
 have hcv : vCap (vTake (a.toNat + (xs.length - b.toNat)) v) = vCap v := Shp.cap hsv
 obtain ⟨_, _, hsv1, hsv2⟩ := id hsv
 refine wR (wA vZ (WL.nil (wR (wM v (wM (vI a) ?_)))))
 refine wM (vI b) (wM v (wS (vI ↑xs.length) rfl (Step.lenSl Tryz.un23 rfl (own_slAt (M.chunk 0 rfl).inv)) ?_))
 have hsh3 := SlAt.shp (own_slAt (M.chunk 0 rfl).inv)
 have hsh3c := hsh3
 obtain ⟨_, _, hsh3l, hsh3m⟩ := hsh3c
 refine wS (vSlice 1 a.toNat b.toNat xs.length v) rfl (Step.slice4P (l := a.toNat) (h := b.toNat) (m := xs.length) Tryz.un23 Tryz.el9.sized rfl rfl (by omega) rfl (by omega) rfl (by omega) hsh3 (by omega) (by omega) (by obtain ⟨_, _, _, _⟩ := hsh3; omega)) (WL.nil (W.seq' (wR (wM (vI a) (wM (vI b) ?_)))))
 refine wP (vB ((a : Int) == (b : Int))) (WL.nil ?_)
 refine W.cond (t := (a : Int) == (b : Int)) rfl (fun h4 => ?_) (fun h4 => ?_)
 ·
  have h4p : (a : Int) = (b : Int) := by simpa using h4
  omega
 ·
  have h4p : ¬ (a : Int) = (b : Int) := by simpa using h4
  refine W.skip (wR (wM v (wS (vI ↑xs.length) rfl (Step.lenSl Tryz.un23 rfl (own_slAt (M.chunk 0 rfl).inv)) (wA (vI ↑xs.length) (WL.nil ?_)))))
  refine W.seq' ?_
  refine W.drawn M [0, 1, 2, 3, 4, 5, 6, 7] [6] [] _ _ (sN sE) (fun _ h => h) Tryz.mixed (by kernel_rfl) ?_
  refine tP v rfl (fun w => (Step.move rfl)) ?_
  refine tP (vI a) rfl (fun w => (Step.move rfl)) ?_
  refine tP (vTake a.toNat v) rfl (fun w => (Step.sliceToP (h := a.toNat) Tryz.un23 Tryz.el9.sized rfl rfl (by omega) hsh3 (by obtain ⟨_, _, _, _⟩ := hsh3; omega))) ?_
  refine tP v rfl (fun w => (Step.move rfl)) ?_
  refine tP (vI b) rfl (fun w => (Step.move rfl)) ?_
  refine tP (vSlice 1 b.toNat xs.length (vCap v) v) rfl (fun w => (Step.sliceFromP (l := b.toNat) Tryz.un23 Tryz.el9.sized rfl rfl (by omega) hsh3 (by omega))) ?_
  refine TW.act (c' := oS (vTake (a.toNat + (xs.length - b.toNat)) v) (xs.take a.toNat ++ xs.drop b.toNat)) 0 rfl rfl (by decide) rfl (sN sE) (fun r h => h) (fun A w M => M.appendCutF strE_len (a := a.toNat) (b := b.toNat) 1 rfl Tryz.un23 Tryz.el9 rfl rfl (by omega) (by omega) (by omega) strE_cel) ?_
  refine tP (vTake (a.toNat + (xs.length - b.toNat)) v) rfl (fun w => (Step.assign rfl)) ?_
  refine TW.done (fun w5 M => ?_)
  refine wR (wM (vTake (a.toNat + (xs.length - b.toNat)) v) (wM (vTake (a.toNat + (xs.length - b.toNat)) v) (wS (vI (↑((xs.take a.toNat ++ xs.drop b.toNat).length))) rfl (Step.lenSl Tryz.un23 rfl (own_slAt (M.chunk 0 rfl).inv)) (wM (vI ↑xs.length) ?_))))
  have hsh6 := SlAt.shp (own_slAt (M.chunk 0 rfl).inv)
  have hsh6c := hsh6
  obtain ⟨_, _, hsh6l, hsh6m⟩ := hsh6c
  refine wS (vSlice 1 ((xs.take a.toNat ++ xs.drop b.toNat).length) xs.length (vCap (vTake (a.toNat + (xs.length - b.toNat)) v)) (vTake (a.toNat + (xs.length - b.toNat)) v)) rfl (Step.sliceLHP (l := (xs.take a.toNat ++ xs.drop b.toNat).length) (h := xs.length) Tryz.un23 Tryz.el9.sized rfl rfl (by omega) rfl (by omega) hsh6 (by omega) (by obtain ⟨_, _, _, _⟩ := hsh6; omega)) ?_
  refine WL.act rfl (M.clearTailF strE_len (l := (xs.take a.toNat ++ xs.drop b.toNat).length) (h := xs.length) 0 rfl Tryz.un23 Tryz.el9 rfl (cel_cons rfl cel_nil) rfl (by simp only [List.length_append, List.length_take, List.length_drop]; omega) (by omega) (by omega) (Nat.le_refl _)) ?_
  rintro w7 ⟨M, -⟩
  refine WL.nil (wR (wM (vTake (a.toNat + (xs.length - b.toNat)) v) (wA (vTake (a.toNat + (xs.length - b.toNat)) v) (WL.nil ?_))))
  refine W.ret ?_
  refine ⟨.inl rfl, (vTake (a.toNat + (xs.length - b.toNat)) v), ?_, ?_⟩
  · exact ⟨rfl, (Res.r1 (show RV _ _ _ (.tmp 6) (vTake (a.toNat + (xs.length - b.toNat)) v) from by exact rfl))⟩
  have e8 : xs.take (Int.toNat a) ++ xs.drop (Int.toNat b) = xs.take a.toNat ++ xs.drop b.toNat := by
   rfl
  replace M := M.rechunk 0 (c' := oS (vTake (a.toNat + (xs.length - b.toNat)) v) (xs.take (Int.toNat a) ++ xs.drop (Int.toNat b))) rfl (congrArg (fun z => own 9 1 (vTake (a.toNat + (xs.length - b.toNat)) v) z.length (z.flatMap strE)) e8.symm)
  refine ⟨(vTake (a.toNat + (xs.length - b.toNat)) v), ?_, M.close [0] rfl (by decide) trivial⟩
  rfl
theorem clone_hdl {G : Nat → Prop} {w : World} (v : Value) (xs : List Handle)  (hb : xs.length * 16 ≤ 140737488355328) (M : Mem G (fun _ => False) w [] [fH v xs] w) : Rets Tryz.prog 81 #[v] w fun r w' => ∃ (v' : Value), r = v' ∧ Mem G (fun _ => False) w [oH v' xs] [] w' := by
 refine Rets.enter 8 _ Tryz.func81 rfl Tryz.ntmps81 Tryz.results81 (by simp) ?_
 have hle1 := SlAt.le' (M.rep 0 rfl)
 have sl2 : IsSl v := SlAt.isSl (Mem.rep M 0 rfl)
 refine wR (wA vZ (WL.nil (W.seq' (wR (wM v ?_)))))
 rcases SlAt.cases (M.rep 0 rfl) with ⟨hn3, hn3z⟩ | ⟨_, _, hn3⟩
 ·
  refine wS (vB true) rfl (Step.eqNil Tryz.un90 rfl hn3 rfl) (WL.nil ?_)
  refine W.cond (t := true) rfl (fun _ => ?_) (fun h => by cases h)
  refine wR (wA vZ (WL.nil ?_))
  refine W.ret ?_
  refine ⟨.inl rfl, vZ, ?_, ?_⟩
  · exact ⟨rfl, (Res.r1 (show RV _ _ _ (.tmp 2) vZ from by exact rfl))⟩
  replace M := M.ownNil 68 2
  have e4 : xs = [] := by
   exact List.eq_nil_of_length_eq_zero hn3z
  replace M := M.rechunk 0 (c' := oH vZ xs) rfl (by rw [e4]; try rfl)
  refine ⟨vZ, ?_, M.close [0] rfl (by decide) trivial⟩
  rfl
 ·
  refine wS (vB false) rfl (Step.eqSome Tryz.un90 rfl hn3 rfl) (WL.nil ?_)
  refine W.cond (t := false) rfl (fun h => by cases h) (fun _ => ?_)
  refine W.skip (wR ?_)
  refine WL.new (obj := .cells #[] 68) (fun b => .slice (some ⟨b, 0, none⟩) 0 0) M rfl (fun w => Step.make (by kernel_rfl)) (fun b5 w6 hb5 M => ?_)
  refine wM v ?_
  replace M := M.ownBlk 0 (n := 0) (size := 2) rfl rfl (by decide)
  refine WL.does rfl (M.appendF ([] : List Handle) xs (sv := v) 0 Tryz.un90 Tryz.el68 rfl (by decide) rfl rfl rfl (M.rep 0 rfl) handleE_cel (by have := trivial; simp only [maxLen, List.length_nil, List.length_cons, List.length_append]; omega) (by have := trivial; (try simp only [List.length_nil, List.length_cons, List.length_append]); omega)) ?_
  rintro v7 w8 M
  have sl9 : IsSl v7 := SlAt.isSl (own_slAt (M.chunk 0 rfl).inv)
  refine wA v7 (WL.nil ?_)
  refine W.ret ?_
  refine ⟨.inl rfl, v7, ?_, ?_⟩
  · exact ⟨rfl, (Res.r1 (show RV _ _ _ (.tmp 2) v7 from by exact rfl))⟩
  refine ⟨v7, ?_, M.close [0] rfl (by decide) trivial⟩
  rfl
theorem delete_hdl {G X : Nat → Prop} {w : World} (v : Value) (xs : List Handle) (a : Int) (b : Int)  (hab : 0 ≤ a ∧ a < b ∧ b ≤ xs.length) (M : Mem G X w [oH v xs] [] w) : Rets Tryz.prog 104 #[v, (vI a), (vI b)] w fun r w' => ∃ (v' : Value), r = v' ∧ Mem G X w [oH v' (xs.take (Int.toNat a) ++ xs.drop (Int.toNat b))] [] w' := by
 refine Rets.enter 33 _ Tryz.func104 rfl Tryz.ntmps104 Tryz.results104 (by simp) ?_
 have sl1 : IsSl v := SlAt.isSl (own_slAt (Mem.chunk M 0 rfl).inv)
 have hle2 := SlAt.le' (own_slAt (Mem.chunk M 0 rfl).inv)
 have hcl : (xs.take a.toNat ++ xs.drop b.toNat).length = a.toNat + (xs.length - b.toNat) := by (simp; omega)
 have hsv := (own_slAt (M.chunk 0 rfl).inv).shp
 have hcv : vCap (vTake (a.toNat + (xs.length - b.toNat)) v) = vCap v := Shp.cap hsv
 obtain ⟨_, _, hsv1, hsv2⟩ := id hsv
 refine wR (wA vZ (WL.nil (wR (wM v (wM (vI a) ?_)))))
 refine wM (vI b) (wM v (wS (vI ↑xs.length) rfl (Step.lenSl Tryz.un90 rfl (own_slAt (M.chunk 0 rfl).inv)) ?_))
 have hsh3 := SlAt.shp (own_slAt (M.chunk 0 rfl).inv)
 have hsh3c := hsh3
 obtain ⟨_, _, hsh3l, hsh3m⟩ := hsh3c
 refine wS (vSlice 2 a.toNat b.toNat xs.length v) rfl (Step.slice4P (l := a.toNat) (h := b.toNat) (m := xs.length) Tryz.un90 Tryz.el68.sized rfl rfl (by omega) rfl (by omega) rfl (by omega) hsh3 (by omega) (by omega) (by obtain ⟨_, _, _, _⟩ := hsh3; omega)) (WL.nil (W.seq' (wR (wM (vI a) (wM (vI b) ?_)))))
 refine wP (vB ((a : Int) == (b : Int))) (WL.nil ?_)
 refine W.cond (t := (a : Int) == (b : Int)) rfl (fun h4 => ?_) (fun h4 => ?_)
 ·
  have h4p : (a : Int) = (b : Int) := by simpa using h4
  omega
 ·
  have h4p : ¬ (a : Int) = (b : Int) := by simpa using h4
  refine W.skip (wR (wM v (wS (vI ↑xs.length) rfl (Step.lenSl Tryz.un90 rfl (own_slAt (M.chunk 0 rfl).inv)) (wA (vI ↑xs.length) (WL.nil ?_)))))
  refine W.seq' ?_
  refine W.drawn M [0, 1, 2, 3, 4, 5, 6, 7] [6] [] _ _ (sN sE) (fun _ h => h) Tryz.mixed (by kernel_rfl) ?_
  refine tP v rfl (fun w => (Step.move rfl)) ?_
  refine tP (vI a) rfl (fun w => (Step.move rfl)) ?_
  refine tP (vTake a.toNat v) rfl (fun w => (Step.sliceToP (h := a.toNat) Tryz.un90 Tryz.el68.sized rfl rfl (by omega) hsh3 (by obtain ⟨_, _, _, _⟩ := hsh3; omega))) ?_
  refine tP v rfl (fun w => (Step.move rfl)) ?_
  refine tP (vI b) rfl (fun w => (Step.move rfl)) ?_
  refine tP (vSlice 2 b.toNat xs.length (vCap v) v) rfl (fun w => (Step.sliceFromP (l := b.toNat) Tryz.un90 Tryz.el68.sized rfl rfl (by omega) hsh3 (by omega))) ?_
  refine TW.act (c' := oH (vTake (a.toNat + (xs.length - b.toNat)) v) (xs.take a.toNat ++ xs.drop b.toNat)) 0 rfl rfl (by decide) rfl (sN sE) (fun r h => h) (fun A w M => M.appendCutF handleE_len (a := a.toNat) (b := b.toNat) 1 rfl Tryz.un90 Tryz.el68 rfl rfl (by omega) (by omega) (by omega) handleE_cel) ?_
  refine tP (vTake (a.toNat + (xs.length - b.toNat)) v) rfl (fun w => (Step.assign rfl)) ?_
  refine TW.done (fun w5 M => ?_)
  refine wR (wM (vTake (a.toNat + (xs.length - b.toNat)) v) (wM (vTake (a.toNat + (xs.length - b.toNat)) v) (wS (vI (↑((xs.take a.toNat ++ xs.drop b.toNat).length))) rfl (Step.lenSl Tryz.un90 rfl (own_slAt (M.chunk 0 rfl).inv)) (wM (vI ↑xs.length) ?_))))
  have hsh6 := SlAt.shp (own_slAt (M.chunk 0 rfl).inv)
  have hsh6c := hsh6
  obtain ⟨_, _, hsh6l, hsh6m⟩ := hsh6c
  refine wS (vSlice 2 ((xs.take a.toNat ++ xs.drop b.toNat).length) xs.length (vCap (vTake (a.toNat + (xs.length - b.toNat)) v)) (vTake (a.toNat + (xs.length - b.toNat)) v)) rfl (Step.sliceLHP (l := (xs.take a.toNat ++ xs.drop b.toNat).length) (h := xs.length) Tryz.un90 Tryz.el68.sized rfl rfl (by omega) rfl (by omega) hsh6 (by omega) (by obtain ⟨_, _, _, _⟩ := hsh6; omega)) ?_
  refine WL.act rfl (M.clearTailF handleE_len (l := (xs.take a.toNat ++ xs.drop b.toNat).length) (h := xs.length) 0 rfl Tryz.un90 Tryz.el68 rfl (cel_cons rfl (cel_cons rfl cel_nil)) rfl (by simp only [List.length_append, List.length_take, List.length_drop]; omega) (by omega) (by omega) (Nat.le_refl _)) ?_
  rintro w7 ⟨M, -⟩
  refine WL.nil (wR (wM (vTake (a.toNat + (xs.length - b.toNat)) v) (wA (vTake (a.toNat + (xs.length - b.toNat)) v) (WL.nil ?_))))
  refine W.ret ?_
  refine ⟨.inl rfl, (vTake (a.toNat + (xs.length - b.toNat)) v), ?_, ?_⟩
  · exact ⟨rfl, (Res.r1 (show RV _ _ _ (.tmp 6) (vTake (a.toNat + (xs.length - b.toNat)) v) from by exact rfl))⟩
  have e8 : xs.take (Int.toNat a) ++ xs.drop (Int.toNat b) = xs.take a.toNat ++ xs.drop b.toNat := by
   rfl
  replace M := M.rechunk 0 (c' := oH (vTake (a.toNat + (xs.length - b.toNat)) v) (xs.take (Int.toNat a) ++ xs.drop (Int.toNat b))) rfl (congrArg (fun z => own 68 2 (vTake (a.toNat + (xs.length - b.toNat)) v) z.length (z.flatMap handleE)) e8.symm)
  refine ⟨(vTake (a.toNat + (xs.length - b.toNat)) v), ?_, M.close [0] rfl (by decide) trivial⟩
  rfl
theorem index_handle {G : Nat → Prop} {w : World} (v : Value) (xs : List Handle) (h : Handle)   (M : Mem G (fun _ => False) w [] [fH v xs] w) : Rets Tryz.prog 96 #[v, (Value.agg #[(vI h.at_), (vI h.turn)])] w fun r w' => r = (vI (findIx xs h)) ∧ Mem G (fun _ => False) w [] [] w' := by
 refine Rets.enter 19 _ Tryz.func96 rfl Tryz.ntmps96 Tryz.results96 (by simp) ?_
 have hle1 := SlAt.le' (M.rep 0 rfl)
 have sl2 : IsSl v := SlAt.isSl (Mem.rep M 0 rfl)
 refine wR ?_
 refine WL.box (v := (Value.agg #[(vI h.at_), (vI h.turn)])) (c := #[(vI h.at_), (vI h.turn)]) M rfl rfl rfl (fun b3 w4 hb3 M => ?_)
 refine wA (vI 0) (WL.nil (W.seq' (wR (wM v (wS (vI ↑xs.length) rfl (Step.lenSl Tryz.un90 rfl (M.rep 0 rfl)) ?_)))))
 refine wM (vI 0) (WL.nil (W.block ?_))
 refine W.loop (fun kk ρ w' => ∃ (i : Nat), ((i ≤ xs.length) ∧ (∀ j, j < i → xs[j]? ≠ some h) ∧ kk = xs.length - i) ∧ ρ.has [(0, v), (3, (vP b3)), (7, (vI ↑xs.length)), (8, (vI ↑i))] ∧ Mem G (fun _ => False) w [bk b3 #[(vI h.at_), (vI h.turn)] 68] [fH v xs]  w') _ ⟨0, ⟨(Nat.zero_le _), (fun _ h => absurd h (Nat.not_lt_zero _)), rfl⟩, ⟨rfl, rfl, rfl, rfl, rfl, rfl⟩, M⟩ ?_
 rintro _ ρ6 w5 ⟨i, ⟨hi7, hi8, rfl⟩, hρ, M⟩
 obtain ⟨ρ6, rfl⟩ := hρ.know
 clear hρ
 refine wR (wP (vB (decide ((↑i : Int) < (↑xs.length : Int)))) (WL.nil (W.seq' ?_)))
 refine W.cond (t := decide ((↑i : Int) < (↑xs.length : Int))) rfl (fun h9 => ?_) (fun h9 => ?_)
 ·
  have h9p := of_decide_eq_true h9
  refine W.skip (W.seq' (W.block (wR (wM (vI ↑i) (wA (vI ↑i) ?_)))))
  refine WL.nil (W.seq' ?_)
  obtain ⟨cap11, hb10⟩ := SlAt.base (M.rep 0 rfl) (by omega)
  obtain ⟨x12, hx12⟩ := elem_of_lt (xs := xs) (i := i) (by omega)
  refine W.drawn M [0, 1, 2, 3, 4, 5] [] [] _ _ (sY sE) (fun _ h => h) Tryz.mixed (by kernel_rfl) ?_
  refine tR (Value.agg #[(vI h.at_), (vI h.turn)]) rfl (fun A w M => (Step.loadN Tryz.ag68 rfl (M.blk 1 rfl) (Nat.le_of_ble_eq_true rfl) rfl)) ?_
  refine tP v rfl (fun w => (Step.move rfl)) ?_
  refine tP (vI ↑i) rfl (fun w => (Step.move rfl)) ?_
  refine tP (vQ v i 2) rfl (fun w => (sX i Tryz.un90 Tryz.el68 rfl rfl hb10)) ?_
  refine tR (Value.agg #[(vI x12.at_), (vI x12.turn)]) rfl (fun A w M => (Step.loadEN (k := 0) (cs' := [(vI x12.at_), (vI x12.turn)]) Tryz.ag68 (flat_ec (M.rep 0 rfl) hx12 handleE_len) (by decide) rfl rfl rfl)) ?_
  refine tP (vB (((h.at_ : Int) == (x12.at_ : Int)) && (((h.turn : Int) == (x12.turn : Int)) && true))) rfl (fun w => (Step.eqAgg Tryz.eg68 rfl rfl rfl (Tryz.eq68 9998 (h.at_ : Int) (h.turn : Int) (x12.at_ : Int) (x12.turn : Int)))) ?_
  refine TW.done (fun w13 M => ?_)
  refine W.cond (t := ((h.at_ : Int) == (x12.at_ : Int)) && (((h.turn : Int) == (x12.turn : Int)) && true)) rfl (fun h14 => ?_) (fun h14 => ?_)
  ·
   refine wR (wM (vI ↑i) (wA (vI ↑i) (WL.nil ?_)))
   refine W.ret ?_
   refine ⟨.inl rfl, (vI ↑i), ?_, ?_⟩
   · exact ⟨rfl, (Res.r1 (show RV _ _ _ (.tmp 4) (vI ↑i) from by exact rfl))⟩
   refine ⟨?_, M.close [] rfl (by decide) trivial⟩
   refine congrArg (Value.int .i64) ?_
   exact findIx_hit hx12 (handle_eq2 h14).symm hi8
  ·
   refine W.skip (W.region rfl (wS (vI (↑i + 1)) rfl (Step.add rfl rfl (wrap_i64 (by omega))) (wM (vI (↑i + 1)) (WL.nil ?_))))
   have hs := findIx_step hx12 (handle_ne2 h14).symm hi8
   exact ⟨_, (by omega), i + 1, ⟨(by omega), hs, rfl⟩, ⟨rfl, rfl, rfl, rfl, rfl, rfl⟩, M⟩
 ·
  have h9p := of_decide_eq_false h9
  refine W.exit ?_
  refine thn_exit ?_
  refine thn_exit ?_
  refine inBlk_hit ?_
  refine wR (wA (vI (-1)) (WL.nil ?_))
  refine W.ret ?_
  refine ⟨.inl rfl, (vI (-1)), ?_, ?_⟩
  · exact ⟨rfl, (Res.r1 (show RV _ _ _ (.tmp 4) (vI (-1)) from by exact rfl))⟩
  refine ⟨?_, M.close [] rfl (by decide) trivial⟩
  refine congrArg (Value.int .i64) ?_
  exact findIx_none hi8 (by omega)
theorem contains_handle {G : Nat → Prop} {w : World} (v : Value) (xs : List Handle) (h : Handle)   (M : Mem G (fun _ => False) w [] [fH v xs] w) : Rets Tryz.prog 79 #[v, (Value.agg #[(vI h.at_), (vI h.turn)])] w fun r w' => r = (vB (decide (h ∈ xs))) ∧ Mem G (fun _ => False) w [] [] w' := by
 refine Rets.enter 9 _ Tryz.func79 rfl Tryz.ntmps79 Tryz.results79 (by simp) ?_
 have hle1 := SlAt.le' (M.rep 0 rfl)
 have sl2 : IsSl v := SlAt.isSl (Mem.rep M 0 rfl)
 refine wR ?_
 refine WL.box (v := (Value.agg #[(vI h.at_), (vI h.turn)])) (c := #[(vI h.at_), (vI h.turn)]) M rfl rfl rfl (fun b3 w4 hb3 M => ?_)
 refine wA (vB false) (WL.nil (wR (wM v (wS (Value.agg #[(vI h.at_), (vI h.turn)]) rfl (Step.loadN Tryz.ag68 rfl (M.blk 0 rfl) (Nat.le_of_ble_eq_true rfl) rfl) ?_))))
 refine WL.callX rfl (index_handle v xs h (M.enterW0 ⟨(M.wideR0 0 rfl), trivial⟩)) (CallsF.func Tryz.en96 rfl) ?_
 rintro _ w5 ⟨rfl, m⟩
 replace M := M.leaveW0 m
 clear m
 refine wP (vB (decide ((findIx xs h : Int) ≥ (0 : Int)))) (wA (vB (decide ((findIx xs h : Int) ≥ (0 : Int)))) (WL.nil ?_))
 refine W.ret ?_
 refine ⟨.inl rfl, (vB (decide ((findIx xs h : Int) ≥ (0 : Int)))), ?_, ?_⟩
 · exact ⟨rfl, (Res.r1 (show RV _ _ _ (.tmp 4) (vB (decide ((findIx xs h : Int) ≥ (0 : Int)))) from by exact rfl))⟩
 refine ⟨?_, M.close [] rfl (by decide) trivial⟩
 exact congrArg Value.bool (findIx_mem xs h)
theorem copied {G : Nat → Prop} {w : World} (kv : Value) (dv : Value) (vv : Value) (n : Nd)  (hkn : n.keys.length ≤ 1000000) (hdn : n.kids.length ≤ 1000000) (hvn : n.vals.length ≤ 1000000) (M : Mem G (fun _ => False) w [] [fS kv n.keys, fH dv n.kids, fI vv n.vals] w) : Rets Tryz.prog 66 #[(Value.agg #[(vB n.leaf), kv, dv, vv])] w fun r w' => ∃ (kv' : Value) (dv' : Value) (vv' : Value), r = (Value.agg #[(vB n.leaf), kv', dv', vv']) ∧ Mem G (fun _ => False) w [oS kv' n.keys, oH dv' n.kids, oI vv' n.vals] [] w' := by
 refine Rets.enter 15 _ Tryz.func66 rfl Tryz.ntmps66 Tryz.results66 (by simp) ?_
 have hle1 := SlAt.le' (M.rep 0 rfl)
 have hle2 := SlAt.le' (M.rep 1 rfl)
 have hle3 := SlAt.le' (M.rep 2 rfl)
 have sl4 : IsSl kv := SlAt.isSl (Mem.rep M 0 rfl)
 have sl5 : IsSl dv := SlAt.isSl (Mem.rep M 1 rfl)
 have sl6 : IsSl vv := SlAt.isSl (Mem.rep M 2 rfl)
 refine wR ?_
 refine WL.box (v := (Value.agg #[(vB n.leaf), kv, dv, vv])) (c := #[(vB n.leaf), kv, dv, vv]) M rfl rfl rfl (fun b7 w8 hb7 M => ?_)
 refine WL.alloc (c := #[(vB false), vZ, vZ, vZ]) M rfl Tryz.el93.zero rfl (fun b9 w10 hb9 M => ?_)
 refine WL.nil (W.seq' ?_)
 refine W.drawn M [0, 1, 2, 3, 4, 5, 6, 7, 8, 9, 10, 11, 12] [4, 7, 10, 12] [] _ _ (sN (sY sE)) (fun _ h => h) Tryz.mixed (by kernel_rfl) ?_
 refine tP (vP b7) rfl (fun w => sP) ?_
 refine tR (vB n.leaf) rfl (fun A w M => (Step.load1 Tryz.sc4 rfl ((M.cell 1 rfl 0).trans rfl))) ?_
 refine tP (Value.pointer (some ⟨b7, 1, none⟩)) rfl (fun w => sP) ?_
 refine tR kv rfl (fun A w M => (Step.load1 Tryz.sc23 rfl ((M.cell 1 rfl 1).trans rfl))) ?_
 let Q : List Chunk := [bk b9 #[(vB false), vZ, vZ, vZ] 93, bk b7 #[(vB n.leaf), kv, dv, vv] 93]
 refine TW.callX (ι := Value) (fun jx v_ => v_ = jx) (fun jx => oS jx n.keys :: Q) (fun jx => [fS kv n.keys, fH dv n.kids, fI vv n.vals]) rfl (by decide) rfl (fun jx => (sN (sN (sY sE)))) (fun jx r h => h) (fun A w M => Rets.mono (clone_str kv n.keys (by omega) (M.enterW0 ⟨(M.wideR0 0 rfl), trivial⟩)) (fun v_ w_ ⟨v19, e_, m⟩ => ⟨v19, e_, (M.leaveW0 m).sel [1, 0, 2, 3] rfl (by decide), fun b hb => M.k0F m b hb⟩)) (fun w => CallsF.func Tryz.en80 rfl) (fun v19 v hp hin => ?_)
 replace hp := hp.symm; subst hp
 obtain ⟨_, _, hin⟩ := hin
 have sl20 : IsSl v19 := SlAt.isSl (own_slAt (Mem.chunk hin 1 rfl).inv)
 have hle21 := SlAt.le' (own_slAt (Mem.chunk hin 1 rfl).inv)
 clear hin
 refine tP (Value.pointer (some ⟨b7, 2, none⟩)) rfl (fun w => sP) ?_
 refine tR dv rfl (fun A w M => (Step.load1 Tryz.sc90 rfl ((M.cell 1 rfl 2).trans rfl))) ?_
 let Q : List Chunk := [oS v19 n.keys, bk b9 #[(vB false), vZ, vZ, vZ] 93, bk b7 #[(vB n.leaf), kv, dv, vv] 93]
 refine TW.callX (ι := Value) (fun jx v_ => v_ = jx) (fun jx => oH jx n.kids :: Q) (fun jx => [fS kv n.keys, fH dv n.kids, fI vv n.vals]) rfl (by decide) rfl (fun jx => (sN (sN (sN (sY sE))))) (fun jx r h => h) (fun A w M => Rets.mono (clone_hdl dv n.kids (by omega) (M.enterW0 ⟨(M.wideR0 1 rfl), trivial⟩)) (fun v_ w_ ⟨v22, e_, m⟩ => ⟨v22, e_, (M.leaveW0 m).sel [1, 0, 2, 3, 4] rfl (by decide), fun b hb => M.k0F m b hb⟩)) (fun w => CallsF.func Tryz.en81 rfl) (fun v22 v hp hin => ?_)
 replace hp := hp.symm; subst hp
 obtain ⟨_, _, hin⟩ := hin
 have sl23 : IsSl v22 := SlAt.isSl (own_slAt (Mem.chunk hin 1 rfl).inv)
 have hle24 := SlAt.le' (own_slAt (Mem.chunk hin 1 rfl).inv)
 clear hin
 refine tP (Value.pointer (some ⟨b7, 3, none⟩)) rfl (fun w => sP) ?_
 refine tR vv rfl (fun A w M => (Step.load1 Tryz.sc91 rfl ((M.cell 1 rfl 3).trans rfl))) ?_
 let Q : List Chunk := [oH v22 n.kids, oS v19 n.keys, bk b9 #[(vB false), vZ, vZ, vZ] 93, bk b7 #[(vB n.leaf), kv, dv, vv] 93]
 refine TW.callX (ι := Value) (fun jx v_ => v_ = jx) (fun jx => oI jx n.vals :: Q) (fun jx => [fS kv n.keys, fH dv n.kids, fI vv n.vals]) rfl (by decide) rfl (fun jx => (sN (sN (sN (sN (sY sE)))))) (fun jx r h => h) (fun A w M => Rets.mono (clone_int vv n.vals (by omega) (M.enterW0 ⟨(M.wideR0 2 rfl), trivial⟩)) (fun v_ w_ ⟨v25, e_, m⟩ => ⟨v25, e_, (M.leaveW0 m).sel [1, 0, 2, 3, 4, 5] rfl (by decide), fun b hb => M.k0F m b hb⟩)) (fun w => CallsF.func Tryz.en82 rfl) (fun v25 v hp hin => ?_)
 replace hp := hp.symm; subst hp
 obtain ⟨_, _, hin⟩ := hin
 have sl26 : IsSl v25 := SlAt.isSl (own_slAt (Mem.chunk hin 1 rfl).inv)
 have hle27 := SlAt.le' (own_slAt (Mem.chunk hin 1 rfl).inv)
 clear hin
 refine tP (Value.agg #[(vB n.leaf), v19, v22, v25]) rfl (fun w => (by obtain ⟨_, _, _, e⟩ := sl20; subst e; obtain ⟨_, _, _, e⟩ := sl23; subst e; obtain ⟨_, _, _, e⟩ := sl26; subst e; exact sP)) ?_
 refine TW.store (v := (Value.agg #[(vB n.leaf), v19, v22, v25])) (cs := [(vB n.leaf), v19, v22, v25]) (c' := #[(vB n.leaf), v19, v22, v25]) 3 rfl rfl (by decide) rfl Tryz.el93.sized rfl rfl rfl rfl (Nat.le_of_ble_eq_true rfl) (cel_cons rfl (cel_cons (IsSl.cel sl20) (cel_cons (IsSl.cel sl23) (cel_cons (IsSl.cel sl26) cel_nil)))) rfl rfl (sN (sN (sN (sN (sY sE))))) (fun r h => h) ?_
 refine TW.done (fun w28 M => ?_)
 refine W.ret ?_
 refine ⟨.inl rfl, (Value.agg #[(vB n.leaf), v19, v22, v25]), ?_, ?_⟩
 · exact ⟨rfl, (Res.r1 (RV.cellN Tryz.ag93 rfl (M.blk 3 rfl) rfl))⟩
 refine ⟨v19, v22, v25, ?_, M.close [2, 1, 0] rfl (by decide) trivial⟩
 rfl
theorem ar_has {G X : Nat → Prop} {w : World} (ab : Nat) (l : List RPlace) (i : ArI) (h : Handle)  (hK : FreeOk i.ks l) (M : Mem G X w [bk ab #[i.pv, (Value.map (some i.fb))] 107, own 112 5 i.pv l.length i.cs, setC i.fb i.ks, nodesC i.N i.cs l] [] w) : Rets Tryz.prog 78 #[(vP ab), (Value.agg #[(vI h.at_), (vI h.turn)])] w fun r w' => r = (vB (rhas l h)) ∧ Mem G X w [bk ab #[i.pv, (Value.map (some i.fb))] 107, own 112 5 i.pv l.length i.cs, setC i.fb i.ks, nodesC i.N i.cs l] [] w' := by
 refine Rets.enter 50 _ Tryz.func78 rfl Tryz.ntmps78 Tryz.results78 (by simp) ?_
 have sl1 : IsSl i.pv := SlAt.isSl (own_slAt (Mem.chunk M 1 rfl).inv)
 have hle2 := SlAt.le' (own_slAt (Mem.chunk M 1 rfl).inv)
 refine wR ?_
 refine WL.box (v := (Value.agg #[(vI h.at_), (vI h.turn)])) (c := #[(vI h.at_), (vI h.turn)]) M rfl rfl rfl (fun b3 w4 hb3 M => ?_)
 refine wA (vB false) (WL.nil (W.seq' (W.seq' ?_)))
 rcases Bool.eq_false_or_eq_true (decide ((h.at_ : Int) < (0 : Int))) with h5 | h5
 ·
  have h5p := of_decide_eq_true h5
  refine W.drawn M [0, 1, 2, 3, 4, 5, 6, 7, 8, 9, 10, 11, 12, 13, 14, 15, 16] [] [] _ _ (sY (sY (sY (sY (sY sE))))) (fun _ h => h) Tryz.mixed (by kernel_rfl) ?_
  refine tP (vP ab) rfl (fun w => (Step.move rfl)) ?_
  refine tP (vB false) rfl (fun w => sP) ?_
  refine tP (vB false) rfl (fun w => (Step.move rfl)) ?_
  refine tP (vP b3) rfl (fun w => sP) ?_
  refine tR (vI h.at_) rfl (fun A w M => (Step.load1 Tryz.sc3 rfl ((M.cell 1 rfl 0).trans rfl))) ?_
  refine tP (vB true) rfl (fun w => (Step.cast (congrArg Value.bool h5) sP)) ?_
  refine tP (vB true) rfl (fun w => (Step.pick (t := false) rfl rfl)) ?_
  refine tP (vB true) rfl (fun w => (Step.move rfl)) ?_
  refine TW.skip rfl rfl ?_
  refine TW.skip rfl rfl ?_
  refine TW.skip rfl rfl ?_
  refine TW.skip rfl rfl ?_
  refine TW.skip rfl rfl ?_
  refine TW.skip rfl rfl ?_
  refine TW.skip rfl rfl ?_
  refine TW.skip rfl rfl ?_
  refine tP (vB true) rfl (fun w => (Step.pick (t := true) rfl rfl)) ?_
  refine TW.done (fun w6 M => ?_)
  refine W.cond (t := true) rfl (fun _ => ?_) (fun h => by cases h)
  refine wR (wA (vB false) (WL.nil ?_))
  refine W.ret ?_
  refine ⟨.inl rfl, (vB false), ?_, ?_⟩
  · exact ⟨rfl, (Res.r1 (show RV _ _ _ (.tmp 4) (vB false) from by exact rfl))⟩
  refine ⟨?_, M.close [1, 2, 3, 4] rfl (by decide) trivial⟩
  refine congrArg Value.bool ?_
  first | exact Eq.symm (rhas_low (by omega)) | exact Eq.symm (rhas_high (by omega)) | exact Eq.symm (rhas_free (by first | assumption | (simp only [Bool.not_eq_false'] at *; assumption))) | exact Eq.symm (rhas_turn (by omega) (by assumption) (by first | assumption | (simp only [Bool.not_eq_true'] at *; assumption)))
 ·
  have h5p := of_decide_eq_false h5
  refine W.drawn M [0, 1, 2, 3, 4, 5, 6, 7, 8, 9, 10, 11, 12, 13, 14, 15, 16] [] [] _ _ (sY (sY (sY (sY (sY sE))))) (fun _ h => h) Tryz.mixed (by kernel_rfl) ?_
  refine tP (vP ab) rfl (fun w => (Step.move rfl)) ?_
  refine tP (vB false) rfl (fun w => sP) ?_
  refine tP (vB false) rfl (fun w => (Step.move rfl)) ?_
  refine tP (vP b3) rfl (fun w => sP) ?_
  refine tR (vI h.at_) rfl (fun A w M => (Step.load1 Tryz.sc3 rfl ((M.cell 1 rfl 0).trans rfl))) ?_
  refine tP (vB false) rfl (fun w => (Step.cast (congrArg Value.bool h5) sP)) ?_
  refine tP (vB false) rfl (fun w => (Step.pick (t := false) rfl rfl)) ?_
  refine tP (vB false) rfl (fun w => (Step.move rfl)) ?_
  refine tP (vP b3) rfl (fun w => sP) ?_
  refine tR (vI h.at_) rfl (fun A w M => (Step.load1 Tryz.sc3 rfl ((M.cell 1 rfl 0).trans rfl))) ?_
  refine tP (vP ab) rfl (fun w => (Step.move rfl)) ?_
  refine tP (vP ab) rfl (fun w => sP) ?_
  refine tP (vP ab) rfl (fun w => sP) ?_
  refine tR i.pv rfl (fun A w M => (Step.load1 Tryz.sc105 rfl ((M.cell 2 rfl 0).trans rfl))) ?_
  refine tR (vI ↑l.length) rfl (fun A w M => (Step.lenSl Tryz.un105 rfl (own_slAt (M.chunk 3 rfl).inv))) ?_
  refine tP (vB (decide ((h.at_ : Int) ≥ (↑l.length : Int)))) rfl (fun w => sP) ?_
  refine tP (vB (decide ((h.at_ : Int) ≥ (↑l.length : Int)))) rfl (fun w => (Step.pick (t := false) rfl rfl)) ?_
  refine TW.done (fun w7 M => ?_)
  refine W.cond (t := decide ((h.at_ : Int) ≥ (↑l.length : Int))) rfl (fun h8 => ?_) (fun h8 => ?_)
  ·
   have h8p := of_decide_eq_true h8
   refine wR (wA (vB false) (WL.nil ?_))
   refine W.ret ?_
   refine ⟨.inl rfl, (vB false), ?_, ?_⟩
   · exact ⟨rfl, (Res.r1 (show RV _ _ _ (.tmp 4) (vB false) from by exact rfl))⟩
   refine ⟨?_, M.close [1, 2, 3, 4] rfl (by decide) trivial⟩
   refine congrArg Value.bool ?_
   first | exact Eq.symm (rhas_low (by omega)) | exact Eq.symm (rhas_high (by omega)) | exact Eq.symm (rhas_free (by first | assumption | (simp only [Bool.not_eq_false'] at *; assumption))) | exact Eq.symm (rhas_turn (by omega) (by assumption) (by first | assumption | (simp only [Bool.not_eq_true'] at *; assumption)))
  ·
   have h8p := of_decide_eq_false h8
   refine W.skip (W.seq' ?_)
   refine W.drawn M [0, 1, 2, 3, 4, 5, 6, 7, 8, 9, 10, 11, 12] [11] [10] _ _ (sY (sY (sY (sY (sY sE))))) (fun _ h => h) Tryz.mixed (by kernel_rfl) ?_
   refine tP (vP ab) rfl (fun w => (Step.move rfl)) ?_
   refine tP (vP ab) rfl (fun w => sP) ?_
   refine tP (Value.pointer (some ⟨ab, 1, none⟩)) rfl (fun w => sP) ?_
   refine tR (Value.map (some i.fb)) rfl (fun A w M => (Step.load1 Tryz.sc104 rfl ((M.cell 2 rfl 1).trans rfl))) ?_
   refine tP (vP b3) rfl (fun w => sP) ?_
   refine tR (vI h.at_) rfl (fun A w M => (Step.load1 Tryz.sc3 rfl ((M.cell 1 rfl 0).trans rfl))) ?_
   refine tR (Value.tuple #[(Value.agg #[]), (vB (isFree l h.at_))]) rfl (fun A w M => (Mem.setLook M 4 rfl hK Tryz.mt104 rfl rfl)) ?_
   refine tP (Value.tuple #[(Value.agg #[]), (vB (isFree l h.at_))]) rfl (fun w => (Step.move rfl)) ?_
   refine tP (Value.agg #[]) rfl (fun w => sP) ?_
   refine tP (vB (isFree l h.at_)) rfl (fun w => sP) ?_
   refine TW.new (obj := .cells #[] 129) (fun b => .pointer (some ⟨b, 0, none⟩)) rfl (by decide) (by decide) rfl (fun w => Step.alloc Tryz.el129.zero) (fun b15 => ?_)
   refine TW.store (v := (Value.agg #[])) (cs := []) (c' := #[]) 0 rfl rfl (by decide) rfl Tryz.el129.sized rfl rfl rfl rfl (Nat.le_of_ble_eq_true rfl) cel_nil rfl rfl (sN (sY (sY (sY (sY (sY sE)))))) (fun r h => h) ?_
   refine tP (vB (isFree l h.at_)) rfl (fun w => (Step.assign rfl)) ?_
   refine TW.done (fun w16 M => ?_)
   refine W.seq' ?_
   replace M := M.loseI 0
   rcases Bool.eq_false_or_eq_true (!(isFree l h.at_)) with h17 | h17
   ·
    obtain ⟨cap19, hb18⟩ := SlAt.base (own_slAt (M.chunk 2 rfl).inv) (by omega)
    obtain ⟨p20, hp20⟩ := elem_of_lt (xs := l) (i := h.at_.toNat) (by omega)
    obtain ⟨kv21, dv22, vv23, sl24, sl25, sl26, hc27⟩ := place_cells (M.chunk 4 rfl).inv hp20
    refine W.drawn M [0, 1, 2, 3, 4, 5, 6, 7, 8, 9, 10, 11, 12, 13, 14, 15, 16] [] [] _ _ (sY (sY (sY (sY (sY sE))))) (fun _ h => h) Tryz.mixed (by kernel_rfl) ?_
    refine tP (vB false) rfl (fun w => (Step.cast (congrArg Value.bool (show (isFree l h.at_) = false by simpa using h17)) (Step.move rfl))) ?_
    refine tP (vB true) rfl (fun w => sP) ?_
    refine tP (vB true) rfl (fun w => (Step.move rfl)) ?_
    refine tP (vP ab) rfl (fun w => (Step.move rfl)) ?_
    refine tP (vP ab) rfl (fun w => sP) ?_
    refine tP (vP ab) rfl (fun w => sP) ?_
    refine tR i.pv rfl (fun A w M => (Step.load1 Tryz.sc105 rfl ((M.cell 2 rfl 0).trans rfl))) ?_
    refine tP (vP b3) rfl (fun w => sP) ?_
    refine tR (vI h.at_) rfl (fun A w M => (Step.load1 Tryz.sc3 rfl ((M.cell 1 rfl 0).trans rfl))) ?_
    refine tP (vQ i.pv h.at_.toNat 5) rfl (fun w => (sX h.at_.toNat Tryz.un105 Tryz.el112 rfl rfl hb18)) ?_
    refine tP (vR i.pv h.at_.toNat 5 4) rfl (fun w => sP) ?_
    refine tR (vI p20.turn) rfl (fun A w M => (Step.loadE (k := 4) Tryz.sc3 (ec_row (own_slAt (M.chunk 3 rfl).inv) hc27 (by omega)) (by decide) rfl rfl)) ?_
    refine tP (Value.pointer (some ⟨b3, 1, none⟩)) rfl (fun w => sP) ?_
    refine tR (vI h.turn) rfl (fun A w M => (Step.load1 Tryz.sc3 rfl ((M.cell 1 rfl 1).trans rfl))) ?_
    refine tP (vB ((p20.turn : Int) == (h.turn : Int))) rfl (fun w => sP) ?_
    refine tP (vB ((p20.turn : Int) == (h.turn : Int))) rfl (fun w => (Step.pick (t := true) rfl rfl)) ?_
    refine tP (vB ((p20.turn : Int) == (h.turn : Int))) rfl (fun w => (Step.assign rfl)) ?_
    refine TW.done (fun w28 M => ?_)
    refine W.ret ?_
    refine ⟨.inl rfl, (vB ((p20.turn : Int) == (h.turn : Int))), ?_, ?_⟩
    · exact ⟨rfl, (Res.r1 (show RV _ _ _ (.tmp 4) (vB ((p20.turn : Int) == (h.turn : Int))) from by exact rfl))⟩
    refine ⟨?_, M.close [1, 2, 3, 4] rfl (by decide) trivial⟩
    refine congrArg Value.bool ?_
    first | exact Eq.symm (rhas_low (by omega)) | exact Eq.symm (rhas_high (by omega)) | exact Eq.symm (rhas_free (by first | assumption | (simp only [Bool.not_eq_false'] at *; assumption))) | exact Eq.symm (rhas_turn (by omega) (by assumption) (by first | assumption | (simp only [Bool.not_eq_true'] at *; assumption)))
   ·
    refine W.drawn M [0, 1, 2, 3, 4, 5, 6, 7, 8, 9, 10, 11, 12, 13, 14, 15, 16] [] [] _ _ (sY (sY (sY (sY (sY sE))))) (fun _ h => h) Tryz.mixed (by kernel_rfl) ?_
    refine tP (vB true) rfl (fun w => (Step.cast (congrArg Value.bool (show (isFree l h.at_) = true by simpa using h17)) (Step.move rfl))) ?_
    refine tP (vB false) rfl (fun w => sP) ?_
    refine tP (vB false) rfl (fun w => (Step.move rfl)) ?_
    refine TW.skip rfl rfl ?_
    refine TW.skip rfl rfl ?_
    refine TW.skip rfl rfl ?_
    refine TW.skip rfl rfl ?_
    refine TW.skip rfl rfl ?_
    refine TW.skip rfl rfl ?_
    refine TW.skip rfl rfl ?_
    refine TW.skip rfl rfl ?_
    refine TW.skip rfl rfl ?_
    refine TW.skip rfl rfl ?_
    refine TW.skip rfl rfl ?_
    refine TW.skip rfl rfl ?_
    refine tP (vB false) rfl (fun w => (Step.pick (t := false) rfl rfl)) ?_
    refine tP (vB false) rfl (fun w => (Step.assign rfl)) ?_
    refine TW.done (fun w29 M => ?_)
    refine W.ret ?_
    refine ⟨.inl rfl, (vB false), ?_, ?_⟩
    · exact ⟨rfl, (Res.r1 (show RV _ _ _ (.tmp 4) (vB false) from by exact rfl))⟩
    refine ⟨?_, M.close [1, 2, 3, 4] rfl (by decide) trivial⟩
    refine congrArg Value.bool ?_
    first | exact Eq.symm (rhas_low (by omega)) | exact Eq.symm (rhas_high (by omega)) | exact Eq.symm (rhas_free (by first | assumption | (simp only [Bool.not_eq_false'] at *; assumption))) | exact Eq.symm (rhas_turn (by omega) (by assumption) (by first | assumption | (simp only [Bool.not_eq_true'] at *; assumption)))
theorem at_hit {G X : Nat → Prop} {w : World} (ab : Nat) (l : List RPlace) (i : ArI) (h : Handle)  (hK : FreeOk i.ks l) (hh : rhas l h = true) (M : Mem G X w [bk ab #[i.pv, (Value.map (some i.fb))] 107, own 112 5 i.pv l.length i.cs, setC i.fb i.ks, nodesC i.N i.cs l] [] w) : Rets Tryz.prog 95 #[(vP ab), (Value.agg #[(vI h.at_), (vI h.turn)])] w fun r w' => r = (Value.tuple #[(vQ i.pv h.at_.toNat 5), (vI 0)]) ∧ Mem G X w [bk ab #[i.pv, (Value.map (some i.fb))] 107, own 112 5 i.pv l.length i.cs, setC i.fb i.ks, nodesC i.N i.cs l] [] w' := by
 refine Rets.enter 21 _ Tryz.func95 rfl Tryz.ntmps95 Tryz.results95 (by simp) ?_
 have sl1 : IsSl i.pv := SlAt.isSl (own_slAt (Mem.chunk M 1 rfl).inv)
 have hle2 := SlAt.le' (own_slAt (Mem.chunk M 1 rfl).inv)
 obtain ⟨p, hp, hu, ht, h0, hlt⟩ := rhas_place hh
 refine wR ?_
 refine WL.box (v := (Value.agg #[(vI h.at_), (vI h.turn)])) (c := #[(vI h.at_), (vI h.turn)]) M rfl rfl rfl (fun b3 w4 hb3 M => ?_)
 refine wA vN (wA (vI 0) (WL.nil (W.seq' (W.block (wR ?_)))))
 refine wM (vP ab) (wP (vB false) (wA (vB false) (WL.nil ?_)))
 refine W.cond (t := false) rfl (fun h => by cases h) (fun _ => ?_)
 refine wR (wM (vP ab) (wS (Value.agg #[(vI h.at_), (vI h.turn)]) rfl (Step.loadN Tryz.ag68 rfl (M.blk 0 rfl) (Nat.le_of_ble_eq_true rfl) rfl) ?_))
 have fq := M.frm [bk ab #[i.pv, (Value.map (some i.fb))] 107, own 112 5 i.pv l.length i.cs, setC i.fb i.ks, nodesC i.N i.cs l] [bk b3 #[(vI h.at_), (vI h.turn)] 68] [1, 2, 3, 4, 0] rfl
 refine WL.callX rfl (ar_has ab l i h hK (M.eF fq trivial)) (CallsF.func Tryz.en78 rfl) ?_
 rintro _ w5 ⟨rfl, m⟩
 replace M := M.lF fq m
 clear m
 rw [hh]
 refine wP (vB false) (wA (vB false) (WL.nil ?_))
 refine W.cond (t := false) rfl (fun h => by cases h) (fun _ => ?_)
 refine W.skip (W.seq' ?_)
 obtain ⟨cap7, hb6⟩ := SlAt.base (own_slAt (M.chunk 1 rfl).inv) (by omega)
 obtain ⟨kv9, dv10, vv11, sl12, sl13, sl14, hc15⟩ := place_cells (M.chunk 3 rfl).inv hp
 refine W.drawn M [0, 1, 2, 3, 4, 5, 6, 7, 8] [] [] _ _ (sY (sY (sY (sY (sY sE))))) (fun _ h => h) Tryz.mixed (by kernel_rfl) ?_
 refine tP (vP ab) rfl (fun w => (Step.move rfl)) ?_
 refine tP (vP ab) rfl (fun w => sP) ?_
 refine tP (vP ab) rfl (fun w => sP) ?_
 refine tR i.pv rfl (fun A w M => (Step.load1 Tryz.sc105 rfl ((M.cell 1 rfl 0).trans rfl))) ?_
 refine tP (vP b3) rfl (fun w => sP) ?_
 refine tR (vI h.at_) rfl (fun A w M => (Step.load1 Tryz.sc3 rfl ((M.cell 5 rfl 0).trans rfl))) ?_
 refine tP (vQ i.pv h.at_.toNat 5) rfl (fun w => (sX h.at_.toNat Tryz.un105 Tryz.el112 rfl rfl hb6)) ?_
 refine tP (vQ i.pv h.at_.toNat 5) rfl (fun w => (Step.assign rfl)) ?_
 refine tP (vI 0) rfl (fun w => (Step.assign rfl)) ?_
 refine TW.done (fun w16 M => ?_)
 refine W.ret ?_
 refine ⟨.inl rfl, (Value.tuple #[(vQ i.pv h.at_.toNat 5), (vI 0)]), ?_, ?_⟩
 · exact ⟨rfl, (Res.r2 (show RV _ _ _ (.tmp 4) (vQ i.pv h.at_.toNat 5) from by exact rfl) (show RV _ _ _ (.tmp 5) (vI 0) from by exact rfl))⟩
 refine ⟨?_, M.close [0, 1, 2, 3] rfl (by decide) trivial⟩
 rfl
theorem at_miss {G X : Nat → Prop} {w : World} (ab : Nat) (l : List RPlace) (i : ArI) (h : Handle)  (hK : FreeOk i.ks l) (hh : rhas l h = false) (M : Mem G X w [bk ab #[i.pv, (Value.map (some i.fb))] 107, own 112 5 i.pv l.length i.cs, setC i.fb i.ks, nodesC i.N i.cs l] [] w) : Rets Tryz.prog 95 #[(vP ab), (Value.agg #[(vI h.at_), (vI h.turn)])] w fun r w' => r = (Value.tuple #[vN, (vI 110)]) ∧ Mem G X w [bk ab #[i.pv, (Value.map (some i.fb))] 107, own 112 5 i.pv l.length i.cs, setC i.fb i.ks, nodesC i.N i.cs l] [] w' := by
 refine Rets.enter 21 _ Tryz.func95 rfl Tryz.ntmps95 Tryz.results95 (by simp) ?_
 have sl1 : IsSl i.pv := SlAt.isSl (own_slAt (Mem.chunk M 1 rfl).inv)
 have hle2 := SlAt.le' (own_slAt (Mem.chunk M 1 rfl).inv)
 refine wR ?_
 refine WL.box (v := (Value.agg #[(vI h.at_), (vI h.turn)])) (c := #[(vI h.at_), (vI h.turn)]) M rfl rfl rfl (fun b3 w4 hb3 M => ?_)
 refine wA vN (wA (vI 0) (WL.nil (W.seq' (W.block (wR ?_)))))
 refine wM (vP ab) (wP (vB false) (wA (vB false) (WL.nil ?_)))
 refine W.cond (t := false) rfl (fun h => by cases h) (fun _ => ?_)
 refine wR (wM (vP ab) (wS (Value.agg #[(vI h.at_), (vI h.turn)]) rfl (Step.loadN Tryz.ag68 rfl (M.blk 0 rfl) (Nat.le_of_ble_eq_true rfl) rfl) ?_))
 have fq := M.frm [bk ab #[i.pv, (Value.map (some i.fb))] 107, own 112 5 i.pv l.length i.cs, setC i.fb i.ks, nodesC i.N i.cs l] [bk b3 #[(vI h.at_), (vI h.turn)] 68] [1, 2, 3, 4, 0] rfl
 refine WL.callX rfl (ar_has ab l i h hK (M.eF fq trivial)) (CallsF.func Tryz.en78 rfl) ?_
 rintro _ w5 ⟨rfl, m⟩
 replace M := M.lF fq m
 clear m
 rw [hh]
 refine wP (vB true) (wA (vB true) (WL.nil ?_))
 refine W.cond (t := true) rfl (fun _ => ?_) (fun h => by cases h)
 refine wR (wA vN (wA (vI 110) (WL.nil ?_)))
 refine W.ret ?_
 refine ⟨.inl rfl, (Value.tuple #[vN, (vI 110)]), ?_, ?_⟩
 · exact ⟨rfl, (Res.r2 (show RV _ _ _ (.tmp 4) vN from by exact rfl) (show RV _ _ _ (.tmp 5) (vI 110) from by exact rfl))⟩
 refine ⟨?_, M.close [0, 1, 2, 3] rfl (by decide) trivial⟩
 rfl
theorem ar_least {G X : Nat → Prop} {w : World} (ab : Nat) (l : List RPlace) (i : ArI)  (hK : FreeOk i.ks l) (M : Mem G X w [bk ab #[i.pv, (Value.map (some i.fb))] 107, own 112 5 i.pv l.length i.cs, setC i.fb i.ks, nodesC i.N i.cs l] [] w) : Rets Tryz.prog 65 #[(vP ab)] w fun r w' => r = (vI (↑(leastF l))) ∧ Mem G X w [bk ab #[i.pv, (Value.map (some i.fb))] 107, own 112 5 i.pv l.length i.cs, setC i.fb i.ks, nodesC i.N i.cs l] [] w' := by
 refine Rets.enter 31 _ Tryz.func65 rfl Tryz.ntmps65 Tryz.results65 (by simp) ?_
 have sl1 : IsSl i.pv := SlAt.isSl (own_slAt (Mem.chunk M 1 rfl).inv)
 have hle2 := SlAt.le' (own_slAt (Mem.chunk M 1 rfl).inv)
 refine wR (wA (vI 0) (WL.nil (W.seq' (wR (wM (vP ab) ?_)))))
 refine wP (vP ab) (wP (vP ab) (wS i.pv rfl (Step.load1 Tryz.sc105 rfl ((M.cell 0 rfl 0).trans rfl)) (wS (vI ↑l.length) rfl (Step.lenSl Tryz.un105 rfl (own_slAt (M.chunk 1 rfl).inv)) (wM (vI 0) (WL.nil ?_)))))
 refine W.block ?_
 refine W.loop (fun kk ρ w' => ∃ (i_ : Nat), ((i_ ≤ l.length) ∧ (∀ j : Nat, j < i_ → isFree l (j : Int) = false) ∧ kk = l.length - i_) ∧ ρ.has [(0, (vP ab)), (10, (vI ↑l.length)), (11, (vI ↑i_))] ∧ Mem G X w [bk ab #[i.pv, (Value.map (some i.fb))] 107, own 112 5 i.pv l.length i.cs, setC i.fb i.ks, nodesC i.N i.cs l] []  w') _ ⟨0, ⟨(Nat.zero_le _), (fun _ h => absurd h (Nat.not_lt_zero _)), rfl⟩, ⟨rfl, rfl, rfl, rfl, rfl⟩, M⟩ ?_
 rintro _ ρ4 w3 ⟨i_, ⟨hi5, hi6, rfl⟩, hρ, M⟩
 obtain ⟨ρ4, rfl⟩ := hρ.know
 clear hρ
 refine wR (wP (vB (decide ((↑i_ : Int) < (↑l.length : Int)))) (WL.nil (W.seq' ?_)))
 refine W.cond (t := decide ((↑i_ : Int) < (↑l.length : Int))) rfl (fun h7 => ?_) (fun h7 => ?_)
 ·
  have h7p := of_decide_eq_true h7
  refine W.skip (W.seq' (W.block (wR (wM (vI ↑i_) (wA (vI ↑i_) ?_)))))
  refine WL.nil (wR (wM (vP ab) (wP (vP ab) (wP (Value.pointer (some ⟨ab, 1, none⟩)) (wS (Value.map (some i.fb)) rfl (Step.load1 Tryz.sc104 rfl ((M.cell 0 rfl 1).trans rfl)) ?_)))))
  refine wM (vI ↑i_) (wS (Value.tuple #[(Value.agg #[]), (vB (isFree l ↑i_))]) rfl (Mem.setLook M 2 rfl hK Tryz.mt104 rfl rfl) (wM (Value.tuple #[(Value.agg #[]), (vB (isFree l ↑i_))]) (wP (Value.agg #[]) (wP (vB (isFree l ↑i_)) ?_))))
  refine WL.alloc (c := #[]) M rfl Tryz.el129.zero rfl (fun b8 w9 hb8 M => ?_)
  refine WL.store (v := (Value.agg #[])) (cs := []) (c' := #[]) M 0 rfl rfl Tryz.el129.sized rfl rfl rfl rfl (Nat.le_of_ble_eq_true rfl) cel_nil rfl rfl (fun w10 M => ?_)
  refine wA (vB (isFree l ↑i_)) (WL.nil (wR (wM (vB (isFree l ↑i_)) (WL.nil ?_))))
  refine W.cond (t := isFree l ↑i_) rfl (fun h11 => ?_) (fun h11 => ?_)
  ·
   refine wR (wM (vI ↑i_) (wA (vI ↑i_) (WL.nil ?_)))
   refine W.ret ?_
   refine ⟨.inl rfl, (vI ↑i_), ?_, ?_⟩
   · exact ⟨rfl, (Res.r1 (show RV _ _ _ (.tmp 2) (vI ↑i_) from by exact rfl))⟩
   refine ⟨?_, M.close [1, 2, 3, 4] rfl (by decide) trivial⟩
   refine congrArg (Value.int .i64) ?_
   rw [leastF_hit (by omega) (by assumption) hi6]
  ·
   refine W.skip (W.region rfl (wS (vI (↑i_ + 1)) rfl (Step.add rfl rfl (wrap_i64 (by omega))) (wM (vI (↑i_ + 1)) (WL.nil ?_))))
   have hs : ∀ j : Nat, j < i_ + 1 → isFree l (j : Int) = false := fun j hj => (Nat.lt_succ_iff_lt_or_eq.1 hj).elim (hi6 j) fun e => by subst e; assumption
   replace M := M.sel (L' := [bk ab #[i.pv, (Value.map (some i.fb))] 107, own 112 5 i.pv l.length i.cs, setC i.fb i.ks, nodesC i.N i.cs l]) [1, 2, 3, 4] rfl (by decide)
   exact ⟨_, (by omega), i_ + 1, ⟨(by omega), hs, rfl⟩, ⟨rfl, rfl, rfl, rfl, rfl⟩, M⟩
 ·
  have h7p := of_decide_eq_false h7
  refine W.exit ?_
  refine thn_exit ?_
  refine thn_exit ?_
  refine inBlk_hit ?_
  refine wR (wM (vP ab) (wP (vP ab) (wP (vP ab) (wS i.pv rfl (Step.load1 Tryz.sc105 rfl ((M.cell 0 rfl 0).trans rfl)) (wS (vI ↑l.length) rfl (Step.lenSl Tryz.un105 rfl (own_slAt (M.chunk 1 rfl).inv)) ?_)))))
  refine wA (vI ↑l.length) (WL.nil ?_)
  refine W.ret ?_
  refine ⟨.inl rfl, (vI ↑l.length), ?_, ?_⟩
  · exact ⟨rfl, (Res.r1 (show RV _ _ _ (.tmp 2) (vI ↑l.length) from by exact rfl))⟩
  refine ⟨?_, M.close [0, 1, 2, 3] rfl (by decide) trivial⟩
  refine congrArg (Value.int .i64) ?_
  rw [leastF_all hi6 (by omega)]
theorem ar_get {G X : Nat → Prop} {w : World} (ab : Nat) (l : List RPlace) (S : Nat → Prop) (h : Handle)  (hA : SmallA l) (M : Mem G X w [arenaC 107 112 S ab l] [] w) : Rets Tryz.prog 77 #[(vP ab), (Value.agg #[(vI h.at_), (vI h.turn)])] w fun r w' => ∃ (kv' : Value) (dv' : Value) (vv' : Value), r = (Value.tuple #[(Value.agg #[(vB (((rget l h).1).leaf)), kv', dv', vv']), (vI ((rget l h).2))]) ∧ Mem G X w [arenaC 107 112 S ab l, oS kv' (((rget l h).1).keys), oH dv' (((rget l h).1).kids), oI vv' (((rget l h).1).vals)] [] w' := by
 refine Rets.enter 23 _ Tryz.func77 rfl Tryz.ntmps77 Tryz.results77 (by simp) ?_
 obtain ⟨⟨pv, fb, cs, ks, N⟩, hK, hS, M⟩ := M.unpack
 replace hK : FreeOk ks l := hK
 have hcl := (M.chunk 1 rfl).inv.1
 simp only at hcl
 have sl1 : IsSl pv := SlAt.isSl (own_slAt (Mem.chunk M 1 rfl).inv)
 have hle2 := SlAt.le' (own_slAt (Mem.chunk M 1 rfl).inv)
 rcases Bool.eq_false_or_eq_true (rhas l h) with hh | hh
 ·
  obtain ⟨p, hp, hu, ht, h0, hlt⟩ := rhas_place hh
  obtain ⟨_, _, hs1, hs2, hs3⟩ := hA.2 _ _ hp
  refine wR ?_
  refine WL.box (v := (Value.agg #[(vI h.at_), (vI h.turn)])) (c := #[(vI h.at_), (vI h.turn)]) M rfl rfl rfl (fun b3 w4 hb3 M => ?_)
  refine WL.alloc (c := #[(vB false), vZ, vZ, vZ]) M rfl Tryz.el93.zero rfl (fun b5 w6 hb5 M => ?_)
  refine wA (vI 0) (WL.nil (wR (wM (vP ab) (wS (Value.agg #[(vI h.at_), (vI h.turn)]) rfl (Step.loadN Tryz.ag68 rfl (M.blk 1 rfl) (Nat.le_of_ble_eq_true rfl) rfl) ?_))))
  have fq := M.frm [bk ab #[pv, (Value.map (some fb))] 107, own 112 5 pv l.length cs, setC fb ks, nodesC N cs l] [bk b5 #[(vB false), vZ, vZ, vZ] 93, bk b3 #[(vI h.at_), (vI h.turn)] 68] [2, 3, 4, 5, 0, 1] rfl
  refine WL.callX rfl (at_hit ab l (⟨pv, fb, cs, ks, N⟩ : ArI) h hK hh (M.eF fq trivial)) (CallsF.func Tryz.en95 rfl) ?_
  rintro _ w7 ⟨rfl, m⟩
  replace M := M.lF fq m
  clear m
  refine wM (Value.tuple #[(vQ pv h.at_.toNat 5), (vI 0)]) (wP (vQ pv h.at_.toNat 5) (wP (vI 0) (wA (vQ pv h.at_.toNat 5) (wA (vI 0) (WL.nil ?_)))))
  refine W.seq' (wR (wM (vI 0) (wP (vB false) (WL.nil ?_))))
  refine W.cond (t := false) rfl (fun h => by cases h) (fun _ => ?_)
  refine W.skip (W.seq' ?_)
  replace M := M.loseI 5
  refine W.region rfl (wM (vQ pv h.at_.toNat 5) (wP (vQ pv h.at_.toNat 5) (wP (vQ pv h.at_.toNat 5) ?_)))
  obtain ⟨kv9, dv10, vv11, sl12, sl13, sl14, hc15⟩ := place_cells (M.chunk 3 rfl).inv hp
  refine wS (Value.agg #[(vB p.node.leaf), kv9, dv10, vv11]) rfl (Step.loadEN (k := 0) (cs' := [(vB p.node.leaf), kv9, dv10, vv11]) Tryz.ag93 (ec_row (own_slAt (M.chunk 1 rfl).inv) hc15 (by omega)) (by decide) rfl rfl rfl) ?_
  refine WL.callX rfl (copied kv9 dv10 vv11 p.node (by omega) (by omega) (by omega) (M.enterW0 ⟨((M.wideC0 3 rfl).imp fun _ h => (place_node h hp hc15).1), ((M.wideC0 3 rfl).imp fun _ h => (place_node h hp hc15).2.1), ((M.wideC0 3 rfl).imp fun _ h => (place_node h hp hc15).2.2), trivial⟩)) (CallsF.func Tryz.en66 rfl) ?_
  rintro _ w19 ⟨kv16, dv17, vv18, rfl, m⟩
  replace M := M.leaveW0 m
  clear m
  have sl20 : IsSl kv16 := SlAt.isSl (own_slAt (Mem.chunk M 0 rfl).inv)
  have hle21 := SlAt.le' (own_slAt (Mem.chunk M 0 rfl).inv)
  have sl22 : IsSl dv17 := SlAt.isSl (own_slAt (Mem.chunk M 1 rfl).inv)
  have hle23 := SlAt.le' (own_slAt (Mem.chunk M 1 rfl).inv)
  have sl24 : IsSl vv18 := SlAt.isSl (own_slAt (Mem.chunk M 2 rfl).inv)
  have hle25 := SlAt.le' (own_slAt (Mem.chunk M 2 rfl).inv)
  refine WL.store (v := (Value.agg #[(vB p.node.leaf), kv16, dv17, vv18])) (cs := [(vB p.node.leaf), kv16, dv17, vv18]) (c' := #[(vB p.node.leaf), kv16, dv17, vv18]) M 7 rfl rfl Tryz.el93.sized rfl rfl rfl rfl (Nat.le_of_ble_eq_true rfl) (cel_cons rfl (cel_cons (IsSl.cel sl20) (cel_cons (IsSl.cel sl22) (cel_cons (IsSl.cel sl24) cel_nil)))) rfl rfl (fun w26 M => ?_)
  refine wA (vI 0) (WL.nil ?_)
  refine W.ret ?_
  refine ⟨.inl rfl, (Value.tuple #[(Value.agg #[(vB p.node.leaf), kv16, dv17, vv18]), (vI 0)]), ?_, ?_⟩
  · exact ⟨rfl, (Res.r2 (RV.cellN Tryz.ag93 rfl (M.blk 7 rfl) rfl) (show RV _ _ _ (.tmp 5) (vI 0) from by exact rfl))⟩
  replace M := M.sel (L' := [bk ab #[pv, (Value.map (some fb))] 107, own 112 5 pv l.length cs, setC fb ks, nodesC N cs l, oS kv16 p.node.keys, oH dv17 p.node.kids, oI vv18 p.node.vals, bk b5 #[(vB p.node.leaf), kv16, dv17, vv18] 93]) [3, 4, 5, 6, 0, 1, 2, 7] rfl (by decide)
  replace M := Mem.pack (Ls := arenaL 107 112 ab l) (p := fun i => FreeOk i.ks l) (⟨pv, fb, cs, ks, N⟩ : ArI) M hK
  rw [← hS] at M
  have e27 : ((rget l h).1).keys = p.node.keys := by
   first | (rw [rget_hit hh hp]) | (rw [rget_miss hh]) | (simp [rget_miss hh, ndZero])
   try rfl
  replace M := M.rechunk 1 (c' := oS kv16 (((rget l h).1).keys)) rfl (congrArg (fun z => own 9 1 kv16 z.length (z.flatMap strE)) e27.symm)
  have e28 : ((rget l h).1).kids = p.node.kids := by
   first | (rw [rget_hit hh hp]) | (rw [rget_miss hh]) | (simp [rget_miss hh, ndZero])
   try rfl
  replace M := M.rechunk 2 (c' := oH dv17 (((rget l h).1).kids)) rfl (congrArg (fun z => own 68 2 dv17 z.length (z.flatMap handleE)) e28.symm)
  have e29 : ((rget l h).1).vals = p.node.vals := by
   first | (rw [rget_hit hh hp]) | (rw [rget_miss hh]) | (simp [rget_miss hh, ndZero])
   try rfl
  replace M := M.rechunk 3 (c' := oI vv18 (((rget l h).1).vals)) rfl (congrArg (fun z => own 3 1 vv18 z.length (z.flatMap intE)) e29.symm)
  refine ⟨kv16, dv17, vv18, ?_, M.close [0, 1, 2, 3] rfl (by decide) trivial⟩
  first | (rw [rget_hit hh hp]) | (rw [rget_miss hh]) | (simp [rget_miss hh, ndZero])
  try rfl
 ·
  refine wR ?_
  refine WL.box (v := (Value.agg #[(vI h.at_), (vI h.turn)])) (c := #[(vI h.at_), (vI h.turn)]) M rfl rfl rfl (fun b30 w31 hb30 M => ?_)
  refine WL.alloc (c := #[(vB false), vZ, vZ, vZ]) M rfl Tryz.el93.zero rfl (fun b32 w33 hb32 M => ?_)
  refine wA (vI 0) (WL.nil (wR (wM (vP ab) (wS (Value.agg #[(vI h.at_), (vI h.turn)]) rfl (Step.loadN Tryz.ag68 rfl (M.blk 1 rfl) (Nat.le_of_ble_eq_true rfl) rfl) ?_))))
  have fq := M.frm [bk ab #[pv, (Value.map (some fb))] 107, own 112 5 pv l.length cs, setC fb ks, nodesC N cs l] [bk b32 #[(vB false), vZ, vZ, vZ] 93, bk b30 #[(vI h.at_), (vI h.turn)] 68] [2, 3, 4, 5, 0, 1] rfl
  refine WL.callX rfl (at_miss ab l (⟨pv, fb, cs, ks, N⟩ : ArI) h hK hh (M.eF fq trivial)) (CallsF.func Tryz.en95 rfl) ?_
  rintro _ w34 ⟨rfl, m⟩
  replace M := M.lF fq m
  clear m
  refine wM (Value.tuple #[vN, (vI 110)]) (wP vN (wP (vI 110) (wA vN (wA (vI 110) (WL.nil ?_)))))
  refine W.seq' (wR (wM (vI 110) (wP (vB true) (WL.nil ?_))))
  refine W.cond (t := true) rfl (fun _ => ?_) (fun h => by cases h)
  refine wR (wP (Value.agg #[(vB false), vZ, vZ, vZ]) (wM (vI 110) ?_))
  refine WL.store (v := (Value.agg #[(vB false), vZ, vZ, vZ])) (cs := [(vB false), vZ, vZ, vZ]) (c' := #[(vB false), vZ, vZ, vZ]) M 4 rfl rfl Tryz.el93.sized rfl rfl rfl rfl (Nat.le_of_ble_eq_true rfl) (cel_cons rfl (cel_cons rfl (cel_cons rfl (cel_cons rfl cel_nil)))) rfl rfl (fun w35 M => ?_)
  refine wA (vI 110) (WL.nil ?_)
  refine W.ret ?_
  refine ⟨.inl rfl, (Value.tuple #[(Value.agg #[(vB false), vZ, vZ, vZ]), (vI 110)]), ?_, ?_⟩
  · exact ⟨rfl, (Res.r2 (RV.cellN Tryz.ag93 rfl (M.blk 4 rfl) rfl) (show RV _ _ _ (.tmp 5) (vI 110) from by exact rfl))⟩
  replace M := M.sel (L' := [bk ab #[pv, (Value.map (some fb))] 107, own 112 5 pv l.length cs, setC fb ks, nodesC N cs l, bk b32 #[(vB false), vZ, vZ, vZ] 93, bk b30 #[(vI h.at_), (vI h.turn)] 68]) [0, 1, 2, 3, 4, 5] rfl (by decide)
  replace M := Mem.pack (Ls := arenaL 107 112 ab l) (p := fun i => FreeOk i.ks l) (⟨pv, fb, cs, ks, N⟩ : ArI) M hK
  rw [← hS] at M
  replace M := M.ownNil 9 1
  have e36 : ((rget l h).1).keys = [] := by
   first | (rw [rget_hit hh hp]) | (rw [rget_miss hh]) | (simp [rget_miss hh, ndZero])
   try rfl
  replace M := M.rechunk 0 (c' := oS vZ (((rget l h).1).keys)) rfl (by rw [e36]; try rfl)
  replace M := M.ownNil 68 2
  have e37 : ((rget l h).1).kids = [] := by
   first | (rw [rget_hit hh hp]) | (rw [rget_miss hh]) | (simp [rget_miss hh, ndZero])
   try rfl
  replace M := M.rechunk 0 (c' := oH vZ (((rget l h).1).kids)) rfl (by rw [e37]; try rfl)
  replace M := M.ownNil 3 1
  have e38 : ((rget l h).1).vals = [] := by
   first | (rw [rget_hit hh hp]) | (rw [rget_miss hh]) | (simp [rget_miss hh, ndZero])
   try rfl
  replace M := M.rechunk 0 (c' := oI vZ (((rget l h).1).vals)) rfl (by rw [e38]; try rfl)
  refine ⟨vZ, vZ, vZ, ?_, M.close [3, 2, 1, 0] rfl (by decide) trivial⟩
  first | (rw [rget_hit hh hp]) | (rw [rget_miss hh]) | (simp [rget_miss hh, ndZero])
  try rfl
theorem ar_make {G X : Nat → Prop} {w : World} (ab : Nat) (l : List RPlace) (S : Nat → Prop) (kv : Value) (dv : Value) (vv : Value) (n : Nd)  (hA : SmallA l) (hkn : n.keys.length ≤ 1000000) (hdn : n.kids.length ≤ 1000000) (hvn : n.vals.length ≤ 1000000) (M : Mem G X w [arenaC 107 112 S ab l] [fS kv n.keys, fH dv n.kids, fI vv n.vals] w) : Rets Tryz.prog 49 #[(vP ab), (Value.agg #[(vB n.leaf), kv, dv, vv])] w fun r w' => ∃ (S' : Nat → Prop), r = (Value.agg #[(vI (((rmake l n).2).at_)), (vI (((rmake l n).2).turn))]) ∧ Mem G X w [arenaC 107 112 S' ab ((rmake l n).1)] [] w' := by
 refine Rets.enter 58 _ Tryz.func49 rfl Tryz.ntmps49 Tryz.results49 (by simp) ?_
 have hle1 := SlAt.le' (M.rep 0 rfl)
 have hle2 := SlAt.le' (M.rep 1 rfl)
 have hle3 := SlAt.le' (M.rep 2 rfl)
 have sl4 : IsSl kv := SlAt.isSl (Mem.rep M 0 rfl)
 have sl5 : IsSl dv := SlAt.isSl (Mem.rep M 1 rfl)
 have sl6 : IsSl vv := SlAt.isSl (Mem.rep M 2 rfl)
 have hA1 := hA.1; have hle0 := leastF_le (l := l)
 obtain ⟨⟨pv, fb, cs, ks, N⟩, hK, hS, M⟩ := M.unpack
 replace hK : FreeOk ks l := hK
 have hcl := (M.chunk 1 rfl).inv.1
 simp only at hcl
 have sl7 : IsSl pv := SlAt.isSl (own_slAt (Mem.chunk M 1 rfl).inv)
 have hle8 := SlAt.le' (own_slAt (Mem.chunk M 1 rfl).inv)
 refine wR ?_
 refine WL.box (v := (Value.agg #[(vB n.leaf), kv, dv, vv])) (c := #[(vB n.leaf), kv, dv, vv]) M rfl rfl rfl (fun b9 w10 hb9 M => ?_)
 refine WL.alloc (c := #[(vI 0), (vI 0)]) M rfl Tryz.el68.zero rfl (fun b11 w12 hb11 M => ?_)
 refine WL.nil (W.seq' (wR (wM (vP ab) (wP (vB false) (WL.nil ?_)))))
 refine W.cond (t := false) rfl (fun h => by cases h) (fun _ => ?_)
 refine W.skip (wR (wM (vP ab) ?_))
 have fq := M.frm [bk ab #[pv, (Value.map (some fb))] 107, own 112 5 pv l.length cs, setC fb ks, nodesC N cs l] [bk b11 #[(vI 0), (vI 0)] 68, bk b9 #[(vB n.leaf), kv, dv, vv] 93] [2, 3, 4, 5, 0, 1] rfl
 refine WL.callX rfl (ar_least ab l (⟨pv, fb, cs, ks, N⟩ : ArI) hK (M.eF fq trivial)) (CallsF.func Tryz.en65 rfl) ?_
 rintro _ w13 ⟨rfl, m⟩
 replace M := M.lF fq m
 clear m
 refine wA (vI (↑(leastF l))) (WL.nil (W.seq' (wR (wM (vI (↑(leastF l))) (wM (vP ab) ?_)))))
 refine wP (vP ab) (wP (vP ab) (wS pv rfl (Step.load1 Tryz.sc105 rfl ((M.cell 0 rfl 0).trans rfl)) (wS (vI ↑l.length) rfl (Step.lenSl Tryz.un105 rfl (own_slAt (M.chunk 1 rfl).inv)) (wP (vB ((↑(leastF l) : Int) == (↑l.length : Int))) (WL.nil ?_)))))
 refine W.cond (t := (↑(leastF l) : Int) == (↑l.length : Int)) rfl (fun h14 => ?_) (fun h14 => ?_)
 ·
  have h14p : (↑(leastF l) : Int) = (↑l.length : Int) := by simpa using h14
  refine W.region rfl (wM (vP ab) (wM (vP ab) (wP (vP ab) (wP (vP ab) (wS pv rfl (Step.load1 Tryz.sc105 rfl ((M.cell 0 rfl 0).trans rfl)) ?_)))))
  refine wP (Value.agg #[(vB false), vZ, vZ, vZ, (vI 0)]) ?_
  refine WL.new (obj := .cells #[(vB false), vZ, vZ, vZ, (vI 0)] 112) (fun b => .slice (some ⟨b, 0, none⟩) 1 1) M rfl (fun w => Step.make (by kernel_rfl)) (fun b15 w16 hb15 M => ?_)
  refine WL.does rfl (M.append (sv := (Value.slice (some ⟨b15, 0, none⟩) 1 1)) (news := [(vB false), vZ, vZ, vZ, (vI 0)]) 2 Tryz.un105 Tryz.el112 rfl (by decide) rfl rfl rfl (SlAt.of_blk (M.blk 0 rfl) rfl (by decide)) (Step.Cellish.one (cel_cons rfl (cel_cons rfl (cel_cons rfl (cel_cons rfl (cel_cons rfl cel_nil)))))) (by have := trivial; simp only [maxLen]; omega) (by have := trivial; omega)) ?_
  rintro v17 w18 ⟨-, -, M⟩
  have sl19 : IsSl v17 := SlAt.isSl (own_slAt (M.chunk 2 rfl).inv)
  refine wP (vP ab) (wP (vP ab) ?_)
  refine WL.store (v := v17) (cs := [v17]) (c' := #[v17, (Value.map (some fb))]) M 1 rfl rfl Tryz.el105.sized rfl rfl (IsSl.list sl19) rfl (Nat.le_of_ble_eq_true rfl) (cel_cons (IsSl.cel sl19) cel_nil) rfl rfl (fun w20 M => ?_)
  refine WL.nil (wR (wM (vP ab) (wP (vP ab) (wP (Value.pointer (some ⟨ab, 1, none⟩)) (wS (Value.map (some fb)) rfl (Step.load1 Tryz.sc104 rfl ((M.cell 1 rfl 1).trans rfl)) ?_)))))
  refine wM (vI (↑(leastF l))) ?_
  refine WL.act rfl (M.setDel 3 rfl hK.1 Tryz.mt104 rfl rfl) ?_
  rintro w21 ⟨M, -⟩
  refine WL.nil (wR (wM (vP ab) (wP (vP ab) (wP (vP ab) (wS v17 rfl (Step.load1 Tryz.sc105 rfl ((M.cell 1 rfl 0).trans rfl)) ?_)))))
  refine wM (vI (↑(leastF l))) ?_
  obtain ⟨cap23, hb22⟩ := SlAt.base (own_slAt (M.chunk 2 rfl).inv) (by omega)
  have hpre24 : (cs).length = (leastF l) * 5 := by omega
  replace M := M.rechunk 2 (c' := own 112 5 v17 (l.length + 1) (cs ++ ([(vB false), vZ, vZ, vZ, (vI 0)] ++ []))) rfl rfl
  refine wS (vQ v17 (leastF l) 5) rfl (sX (leastF l) Tryz.un105 Tryz.el112 rfl rfl hb22) (wA (vQ v17 (leastF l) 5) (WL.nil (wR (wM (vQ v17 (leastF l) 5) (wP (vQ v17 (leastF l) 5) ?_)))))
  refine wP (vR v17 (leastF l) 5 4) (wS (vI 0) rfl (Step.loadE (k := 4) Tryz.sc3 (ec_open (own_slAt (M.chunk 2 rfl).inv) hpre24 rfl (by first | omega | (simp only [List.length_set, List.length_append, List.length_cons, List.length_nil]; omega))) (by decide) rfl rfl) (wP (vI 1) (wP (vQ v17 (leastF l) 5) (wP (vR v17 (leastF l) 5 4) ?_))))
  refine WL.act rfl (M.storeAt (cells := [(vB false), vZ, vZ, vZ, (vI 0)]) (cells' := [(vB false), vZ, vZ, vZ, (vI 1)]) (new := [(vI 1)]) (k := 4) 2 rfl hpre24 Tryz.el3.sized rfl rfl rfl (cel_cons rfl cel_nil) (by first | omega | (simp only [List.length_set, List.length_append, List.length_cons, List.length_nil]; omega)) (Nat.le_of_ble_eq_true rfl) rfl rfl) ?_
  rintro w25 ⟨M, -⟩
  refine WL.nil (W.seq' ?_)
  replace M := M.loseI 0
  refine W.region rfl (wM (vQ v17 (leastF l) 5) (wS (Value.agg #[(vB n.leaf), kv, dv, vv]) rfl (Step.loadN Tryz.ag93 rfl (M.blk 5 rfl) (Nat.le_of_ble_eq_true rfl) rfl) ?_))
  refine WL.callX rfl (copied kv dv vv n (by omega) (by omega) (by omega) (M.enterW0 ⟨(M.wideR0 0 rfl), (M.wideR0 1 rfl), (M.wideR0 2 rfl), trivial⟩)) (CallsF.func Tryz.en66 rfl) ?_
  rintro _ w29 ⟨kv26, dv27, vv28, rfl, m⟩
  replace M := M.leaveW0 m
  clear m
  have sl30 : IsSl kv26 := SlAt.isSl (own_slAt (Mem.chunk M 0 rfl).inv)
  have hle31 := SlAt.le' (own_slAt (Mem.chunk M 0 rfl).inv)
  have sl32 : IsSl dv27 := SlAt.isSl (own_slAt (Mem.chunk M 1 rfl).inv)
  have hle33 := SlAt.le' (own_slAt (Mem.chunk M 1 rfl).inv)
  have sl34 : IsSl vv28 := SlAt.isSl (own_slAt (Mem.chunk M 2 rfl).inv)
  have hle35 := SlAt.le' (own_slAt (Mem.chunk M 2 rfl).inv)
  refine wP (vQ v17 (leastF l) 5) (wP (vQ v17 (leastF l) 5) ?_)
  refine WL.act rfl (M.storeAt (cells := [(vB false), vZ, vZ, vZ, (vI 1)]) (cells' := [(vB n.leaf), kv26, dv27, vv28, (vI 1)]) (new := [(vB n.leaf), kv26, dv27, vv28]) (k := 0) 4 rfl hpre24 Tryz.el93.sized rfl rfl rfl (cel_cons rfl (cel_cons (IsSl.cel sl30) (cel_cons (IsSl.cel sl32) (cel_cons (IsSl.cel sl34) cel_nil)))) (by first | omega | (simp only [List.length_set, List.length_append, List.length_cons, List.length_nil]; omega)) (Nat.le_of_ble_eq_true rfl) rfl rfl) ?_
  rintro w36 ⟨M, -⟩
  refine WL.nil (wR (wM (vI (↑(leastF l))) (wM (vQ v17 (leastF l) 5) (wP (vQ v17 (leastF l) 5) (wP (vR v17 (leastF l) 5 4) ?_)))))
  refine wS (vI 1) rfl (Step.loadE (k := 4) Tryz.sc3 (ec_open (own_slAt (M.chunk 4 rfl).inv) hpre24 rfl (by first | omega | (simp only [List.length_set, List.length_append, List.length_cons, List.length_nil]; omega))) (by decide) rfl rfl) (wP (Value.agg #[(vI (↑(leastF l))), (vI 1)]) ?_)
  refine WL.store (v := (Value.agg #[(vI (↑(leastF l))), (vI 1)])) (cs := [(vI (↑(leastF l))), (vI 1)]) (c' := #[(vI (↑(leastF l))), (vI 1)]) M 7 rfl rfl Tryz.el68.sized rfl rfl rfl rfl (Nat.le_of_ble_eq_true rfl) (cel_cons rfl (cel_cons rfl cel_nil)) rfl rfl (fun w37 M => ?_)
  refine WL.nil ?_
  refine W.ret ?_
  refine ⟨.inl rfl, (Value.agg #[(vI (↑(leastF l))), (vI 1)]), ?_, ?_⟩
  · exact ⟨rfl, (Res.r1 (RV.cellN Tryz.ag68 rfl (M.blk 7 rfl) rfl))⟩
  replace M := M.sel (L' := [nodesC N cs l, oS kv26 n.keys, oH dv27 n.kids, oI vv28 n.vals, bk ab #[v17, (Value.map (some fb))] 107, own 112 5 v17 (l.length + 1) (cs ++ ([(vB n.leaf), kv26, dv27, vv28, (vI 1)] ++ [])), setC fb (ks.erase (↑(leastF l))), bk b11 #[(vI (↑(leastF l))), (vI 1)] 68, bk b9 #[(vB n.leaf), kv, dv, vv] 93]) [6, 0, 1, 2, 3, 4, 5, 7, 8] rfl (by decide)
  obtain ⟨N38, M⟩ := M.nodesAdd (n := n) (u := true) (t := 1)
  replace M := M.rechunk 2 (c' := own 112 5 v17 ((l ++ [(⟨true, 1, n⟩ : RPlace)]).length) (cs ++ ([(vB n.leaf), kv26, dv27, vv28, (vI 1)] ++ []))) rfl (by rw [List.length_append, List.length_singleton])
  replace M := M.sel (L' := [bk ab #[v17, (Value.map (some fb))] 107, own 112 5 v17 ((l ++ [(⟨true, 1, n⟩ : RPlace)]).length) (cs ++ ([(vB n.leaf), kv26, dv27, vv28, (vI 1)] ++ [])), setC fb (ks.erase (↑(leastF l))), nodesC N38 (cs ++ ([(vB n.leaf), kv26, dv27, vv28, (vI 1)] ++ [])) (l ++ [(⟨true, 1, n⟩ : RPlace)]), bk b11 #[(vI (↑(leastF l))), (vI 1)] 68, bk b9 #[(vB n.leaf), kv, dv, vv] 93]) [1, 2, 3, 0, 4, 5] rfl (by decide)
  replace M := Mem.pack (Ls := arenaL 107 112 ab (l ++ [(⟨true, 1, n⟩ : RPlace)])) (p := fun i => FreeOk i.ks (l ++ [(⟨true, 1, n⟩ : RPlace)])) (⟨v17, fb, (cs ++ ([(vB n.leaf), kv26, dv27, vv28, (vI 1)] ++ [])), ks.erase (↑(leastF l)), N38⟩ : ArI) M (free_make_new hK (by omega))
  have hr := rmake_new (l := l) (n := n) (by omega)
  rw [hr]
  exact ⟨_, rfl, M.close [0] rfl (by decide) trivial⟩
 ·
  have h14p : ¬ (↑(leastF l) : Int) = (↑l.length : Int) := by simpa using h14
  refine W.skip (wR (wM (vP ab) (wP (vP ab) (wP (Value.pointer (some ⟨ab, 1, none⟩)) (wS (Value.map (some fb)) rfl (Step.load1 Tryz.sc104 rfl ((M.cell 0 rfl 1).trans rfl)) ?_)))))
  refine wM (vI (↑(leastF l))) ?_
  refine WL.act rfl (M.setDel 2 rfl hK.1 Tryz.mt104 rfl rfl) ?_
  rintro w39 ⟨M, -⟩
  refine WL.nil (wR (wM (vP ab) (wP (vP ab) (wP (vP ab) (wS pv rfl (Step.load1 Tryz.sc105 rfl ((M.cell 0 rfl 0).trans rfl)) ?_)))))
  refine wM (vI (↑(leastF l))) ?_
  obtain ⟨cap41, hb40⟩ := SlAt.base (own_slAt (M.chunk 1 rfl).inv) (by omega)
  obtain ⟨p42, hp42⟩ := elem_of_lt (xs := l) (i := leastF l) (by omega)
  obtain ⟨hs43, hs44, hs45, hs46, hs47⟩ := hA.2 _ _ hp42
  obtain ⟨kv48, dv49, vv50, sl51, sl52, sl53, hc54⟩ := place_cells (M.chunk 3 rfl).inv hp42
  refine wS (vQ pv (leastF l) 5) rfl (sX (leastF l) Tryz.un105 Tryz.el112 rfl rfl hb40) (wA (vQ pv (leastF l) 5) (WL.nil (wR (wM (vQ pv (leastF l) 5) (wP (vQ pv (leastF l) 5) ?_)))))
  refine wP (vR pv (leastF l) 5 4) (wS (vI p42.turn) rfl (Step.loadE (k := 4) Tryz.sc3 (ec_row (own_slAt (M.chunk 1 rfl).inv) hc54 (by omega)) (by decide) rfl rfl) (wS (vI (p42.turn + 1)) rfl (Step.add rfl rfl (wrap_i64 (by omega))) (wP (vQ pv (leastF l) 5) (wP (vR pv (leastF l) 5 4) ?_))))
  obtain ⟨pre61, post62, kv55, dv56, vv57, sl58, sl59, sl60, hcs63, hpre64⟩ := place_open (M.chunk 3 rfl).inv hp42
  replace M := M.rechunk 1 (c' := own 112 5 pv l.length (pre61 ++ ([(vB p42.node.leaf), kv55, dv56, vv57, (vI p42.turn)] ++ post62))) rfl (by rw [hcs63])
  replace M := M.rechunk 3 (c' := nodesC N (pre61 ++ ([(vB p42.node.leaf), kv55, dv56, vv57, (vI p42.turn)] ++ post62)) l) rfl (by rw [hcs63])
  refine WL.act rfl (M.storeAt (cells := [(vB p42.node.leaf), kv55, dv56, vv57, (vI p42.turn)]) (cells' := [(vB p42.node.leaf), kv55, dv56, vv57, (vI (p42.turn + 1))]) (new := [(vI (p42.turn + 1))]) (k := 4) 1 rfl hpre64 Tryz.el3.sized rfl rfl rfl (cel_cons rfl cel_nil) (by first | omega | (simp only [List.length_set, List.length_append, List.length_cons, List.length_nil]; omega)) (Nat.le_of_ble_eq_true rfl) rfl rfl) ?_
  rintro w65 ⟨M, -⟩
  refine WL.nil (wR (wM (vQ pv (leastF l) 5) (wS (Value.agg #[(vB n.leaf), kv, dv, vv]) rfl (Step.loadN Tryz.ag93 rfl (M.blk 5 rfl) (Nat.le_of_ble_eq_true rfl) rfl) ?_)))
  refine WL.callX rfl (copied kv dv vv n (by omega) (by omega) (by omega) (M.enterW0 ⟨(M.wideR0 0 rfl), (M.wideR0 1 rfl), (M.wideR0 2 rfl), trivial⟩)) (CallsF.func Tryz.en66 rfl) ?_
  rintro _ w69 ⟨kv66, dv67, vv68, rfl, m⟩
  replace M := M.leaveW0 m
  clear m
  have sl70 : IsSl kv66 := SlAt.isSl (own_slAt (Mem.chunk M 0 rfl).inv)
  have hle71 := SlAt.le' (own_slAt (Mem.chunk M 0 rfl).inv)
  have sl72 : IsSl dv67 := SlAt.isSl (own_slAt (Mem.chunk M 1 rfl).inv)
  have hle73 := SlAt.le' (own_slAt (Mem.chunk M 1 rfl).inv)
  have sl74 : IsSl vv68 := SlAt.isSl (own_slAt (Mem.chunk M 2 rfl).inv)
  have hle75 := SlAt.le' (own_slAt (Mem.chunk M 2 rfl).inv)
  refine wP (vQ pv (leastF l) 5) (wP (vQ pv (leastF l) 5) ?_)
  refine WL.act rfl (M.storeAt (cells := [(vB p42.node.leaf), kv55, dv56, vv57, (vI (p42.turn + 1))]) (cells' := [(vB n.leaf), kv66, dv67, vv68, (vI (p42.turn + 1))]) (new := [(vB n.leaf), kv66, dv67, vv68]) (k := 0) 4 rfl hpre64 Tryz.el93.sized rfl rfl rfl (cel_cons rfl (cel_cons (IsSl.cel sl70) (cel_cons (IsSl.cel sl72) (cel_cons (IsSl.cel sl74) cel_nil)))) (by first | omega | (simp only [List.length_set, List.length_append, List.length_cons, List.length_nil]; omega)) (Nat.le_of_ble_eq_true rfl) rfl rfl) ?_
  rintro w76 ⟨M, -⟩
  refine WL.nil (wR (wM (vI (↑(leastF l))) (wM (vQ pv (leastF l) 5) (wP (vQ pv (leastF l) 5) (wP (vR pv (leastF l) 5 4) ?_)))))
  refine wS (vI (p42.turn + 1)) rfl (Step.loadE (k := 4) Tryz.sc3 (ec_open (own_slAt (M.chunk 4 rfl).inv) hpre64 rfl (by first | omega | (simp only [List.length_set, List.length_append, List.length_cons, List.length_nil]; omega))) (by decide) rfl rfl) (wP (Value.agg #[(vI (↑(leastF l))), (vI (p42.turn + 1))]) ?_)
  refine WL.store (v := (Value.agg #[(vI (↑(leastF l))), (vI (p42.turn + 1))])) (cs := [(vI (↑(leastF l))), (vI (p42.turn + 1))]) (c' := #[(vI (↑(leastF l))), (vI (p42.turn + 1))]) M 7 rfl rfl Tryz.el68.sized rfl rfl rfl rfl (Nat.le_of_ble_eq_true rfl) (cel_cons rfl (cel_cons rfl cel_nil)) rfl rfl (fun w77 M => ?_)
  refine WL.nil ?_
  refine W.ret ?_
  refine ⟨.inl rfl, (Value.agg #[(vI (↑(leastF l))), (vI (p42.turn + 1))]), ?_, ?_⟩
  · exact ⟨rfl, (Res.r1 (RV.cellN Tryz.ag68 rfl (M.blk 7 rfl) rfl))⟩
  replace M := M.sel (L' := [nodesC N (pre61 ++ ([(vB p42.node.leaf), kv55, dv56, vv57, (vI p42.turn)] ++ post62)) l, oS kv66 n.keys, oH dv67 n.kids, oI vv68 n.vals, bk ab #[pv, (Value.map (some fb))] 107, own 112 5 pv l.length (pre61 ++ ([(vB n.leaf), kv66, dv67, vv68, (vI (p42.turn + 1))] ++ post62)), setC fb (ks.erase (↑(leastF l))), bk b11 #[(vI (↑(leastF l))), (vI (p42.turn + 1))] 68, bk b9 #[(vB n.leaf), kv, dv, vv] 93]) [6, 0, 1, 2, 3, 4, 5, 7, 8] rfl (by decide)
  obtain ⟨N78, M⟩ := M.nodesPut (n := n) (i := leastF l) (u := true) (t := p42.turn + 1) hpre64 rfl (by omega)
  replace M := M.rechunk 2 (c' := own 112 5 pv ((l.set (leastF l) (⟨true, p42.turn + 1, n⟩ : RPlace)).length) (pre61 ++ ([(vB n.leaf), kv66, dv67, vv68, (vI (p42.turn + 1))] ++ post62))) rfl (by rw [List.length_set])
  replace M := M.sel (L' := [bk ab #[pv, (Value.map (some fb))] 107, own 112 5 pv ((l.set (leastF l) (⟨true, p42.turn + 1, n⟩ : RPlace)).length) (pre61 ++ ([(vB n.leaf), kv66, dv67, vv68, (vI (p42.turn + 1))] ++ post62)), setC fb (ks.erase (↑(leastF l))), nodesC N78 (pre61 ++ ([(vB n.leaf), kv66, dv67, vv68, (vI (p42.turn + 1))] ++ post62)) (l.set (leastF l) (⟨true, p42.turn + 1, n⟩ : RPlace)), bk b11 #[(vI (↑(leastF l))), (vI (p42.turn + 1))] 68, bk b9 #[(vB n.leaf), kv, dv, vv] 93]) [1, 2, 3, 0, 4, 5] rfl (by decide)
  replace M := Mem.pack (Ls := arenaL 107 112 ab (l.set (leastF l) (⟨true, p42.turn + 1, n⟩ : RPlace))) (p := fun i => FreeOk i.ks (l.set (leastF l) (⟨true, p42.turn + 1, n⟩ : RPlace))) (⟨pv, fb, (pre61 ++ ([(vB n.leaf), kv66, dv67, vv68, (vI (p42.turn + 1))] ++ post62)), ks.erase (↑(leastF l)), N78⟩ : ArI) M (free_make_old hK (by omega))
  have hr := rmake_old (n := n) hp42
  rw [hr]
  exact ⟨_, rfl, M.close [0] rfl (by decide) trivial⟩
theorem ar_put {G X : Nat → Prop} {w : World} (ab : Nat) (l : List RPlace) (S : Nat → Prop) (h : Handle) (kv : Value) (dv : Value) (vv : Value) (n : Nd)  (hA : SmallA l) (hkn : n.keys.length ≤ 1000000) (hdn : n.kids.length ≤ 1000000) (hvn : n.vals.length ≤ 1000000) (M : Mem G X w [arenaC 107 112 S ab l] [fS kv n.keys, fH dv n.kids, fI vv n.vals] w) : Rets Tryz.prog 85 #[(vP ab), (Value.agg #[(vI h.at_), (vI h.turn)]), (Value.agg #[(vB n.leaf), kv, dv, vv])] w fun r w' => ∃ (S' : Nat → Prop), r = (vI ((rput l h n).2)) ∧ Mem G X w [arenaC 107 112 S' ab ((rput l h n).1)] [] w' := by
 refine Rets.enter 23 _ Tryz.func85 rfl Tryz.ntmps85 Tryz.results85 (by simp) ?_
 have hle1 := SlAt.le' (M.rep 0 rfl)
 have hle2 := SlAt.le' (M.rep 1 rfl)
 have hle3 := SlAt.le' (M.rep 2 rfl)
 have sl4 : IsSl kv := SlAt.isSl (Mem.rep M 0 rfl)
 have sl5 : IsSl dv := SlAt.isSl (Mem.rep M 1 rfl)
 have sl6 : IsSl vv := SlAt.isSl (Mem.rep M 2 rfl)
 obtain ⟨⟨pv, fb, cs, ks, N⟩, hK, hS, M⟩ := M.unpack
 replace hK : FreeOk ks l := hK
 have hcl := (M.chunk 1 rfl).inv.1
 simp only at hcl
 have sl7 : IsSl pv := SlAt.isSl (own_slAt (Mem.chunk M 1 rfl).inv)
 have hle8 := SlAt.le' (own_slAt (Mem.chunk M 1 rfl).inv)
 rcases Bool.eq_false_or_eq_true (rhas l h) with hh | hh
 ·
  obtain ⟨p, hp, hu, ht, h0, hlt⟩ := rhas_place hh
  obtain ⟨_, _, hs1, hs2, hs3⟩ := hA.2 _ _ hp
  refine wR ?_
  refine WL.box (v := (Value.agg #[(vI h.at_), (vI h.turn)])) (c := #[(vI h.at_), (vI h.turn)]) M rfl rfl rfl (fun b9 w10 hb9 M => ?_)
  refine WL.box (v := (Value.agg #[(vB n.leaf), kv, dv, vv])) (c := #[(vB n.leaf), kv, dv, vv]) M rfl rfl rfl (fun b11 w12 hb11 M => ?_)
  refine wA (vI 0) (WL.nil (wR (wM (vP ab) (wS (Value.agg #[(vI h.at_), (vI h.turn)]) rfl (Step.loadN Tryz.ag68 rfl (M.blk 1 rfl) (Nat.le_of_ble_eq_true rfl) rfl) ?_))))
  have fq := M.frm [bk ab #[pv, (Value.map (some fb))] 107, own 112 5 pv l.length cs, setC fb ks, nodesC N cs l] [bk b11 #[(vB n.leaf), kv, dv, vv] 93, bk b9 #[(vI h.at_), (vI h.turn)] 68] [2, 3, 4, 5, 0, 1] rfl
  refine WL.callX rfl (at_hit ab l (⟨pv, fb, cs, ks, N⟩ : ArI) h hK hh (M.eF fq trivial)) (CallsF.func Tryz.en95 rfl) ?_
  rintro _ w13 ⟨rfl, m⟩
  replace M := M.lF fq m
  clear m
  refine wM (Value.tuple #[(vQ pv h.at_.toNat 5), (vI 0)]) (wP (vQ pv h.at_.toNat 5) (wP (vI 0) (wA (vQ pv h.at_.toNat 5) (wA (vI 0) (WL.nil ?_)))))
  refine W.seq' (wR (wM (vI 0) (wP (vB true) (WL.nil ?_))))
  refine W.cond (t := true) rfl (fun _ => ?_) (fun h => by cases h)
  replace M := M.loseI 5
  refine W.region rfl (wM (vQ pv h.at_.toNat 5) (wS (Value.agg #[(vB n.leaf), kv, dv, vv]) rfl (Step.loadN Tryz.ag93 rfl (M.blk 4 rfl) (Nat.le_of_ble_eq_true rfl) rfl) ?_))
  refine WL.callX rfl (copied kv dv vv n (by omega) (by omega) (by omega) (M.enterW0 ⟨(M.wideR0 0 rfl), (M.wideR0 1 rfl), (M.wideR0 2 rfl), trivial⟩)) (CallsF.func Tryz.en66 rfl) ?_
  rintro _ w17 ⟨kv14, dv15, vv16, rfl, m⟩
  replace M := M.leaveW0 m
  clear m
  have sl18 : IsSl kv14 := SlAt.isSl (own_slAt (Mem.chunk M 0 rfl).inv)
  have hle19 := SlAt.le' (own_slAt (Mem.chunk M 0 rfl).inv)
  have sl20 : IsSl dv15 := SlAt.isSl (own_slAt (Mem.chunk M 1 rfl).inv)
  have hle21 := SlAt.le' (own_slAt (Mem.chunk M 1 rfl).inv)
  have sl22 : IsSl vv16 := SlAt.isSl (own_slAt (Mem.chunk M 2 rfl).inv)
  have hle23 := SlAt.le' (own_slAt (Mem.chunk M 2 rfl).inv)
  refine wP (vQ pv h.at_.toNat 5) (wP (vQ pv h.at_.toNat 5) ?_)
  obtain ⟨pre31, post32, kv25, dv26, vv27, sl28, sl29, sl30, hcs33, hpre34⟩ := place_open (M.chunk 6 rfl).inv hp
  replace M := M.rechunk 4 (c' := own 112 5 pv l.length (pre31 ++ ([(vB p.node.leaf), kv25, dv26, vv27, (vI p.turn)] ++ post32))) rfl (by rw [hcs33])
  replace M := M.rechunk 6 (c' := nodesC N (pre31 ++ ([(vB p.node.leaf), kv25, dv26, vv27, (vI p.turn)] ++ post32)) l) rfl (by rw [hcs33])
  refine WL.act rfl (M.storeAt (cells := [(vB p.node.leaf), kv25, dv26, vv27, (vI p.turn)]) (cells' := [(vB n.leaf), kv14, dv15, vv16, (vI p.turn)]) (new := [(vB n.leaf), kv14, dv15, vv16]) (k := 0) 4 rfl hpre34 Tryz.el93.sized rfl rfl rfl (cel_cons rfl (cel_cons (IsSl.cel sl18) (cel_cons (IsSl.cel sl20) (cel_cons (IsSl.cel sl22) cel_nil)))) (by first | omega | (simp only [List.length_set, List.length_append, List.length_cons, List.length_nil]; omega)) (Nat.le_of_ble_eq_true rfl) rfl rfl) ?_
  rintro w35 ⟨M, -⟩
  refine WL.nil (wR (wM (vI 0) (wA (vI 0) (WL.nil ?_))))
  refine W.ret ?_
  refine ⟨.inl rfl, (vI 0), ?_, ?_⟩
  · exact ⟨rfl, (Res.r1 (show RV _ _ _ (.tmp 6) (vI 0) from by exact rfl))⟩
  replace M := M.sel (L' := [nodesC N (pre31 ++ ([(vB p.node.leaf), kv25, dv26, vv27, (vI p.turn)] ++ post32)) l, oS kv14 n.keys, oH dv15 n.kids, oI vv16 n.vals, bk ab #[pv, (Value.map (some fb))] 107, own 112 5 pv l.length (pre31 ++ ([(vB n.leaf), kv14, dv15, vv16, (vI p.turn)] ++ post32)), setC fb ks, bk b11 #[(vB n.leaf), kv, dv, vv] 93]) [6, 0, 1, 2, 3, 4, 5, 7] rfl (by decide)
  obtain ⟨N36, M⟩ := M.nodesPut (n := n) (i := h.at_.toNat) (u := true) (t := p.turn) hpre34 rfl (by omega)
  replace M := M.rechunk 2 (c' := own 112 5 pv ((l.set h.at_.toNat (⟨true, p.turn, n⟩ : RPlace)).length) (pre31 ++ ([(vB n.leaf), kv14, dv15, vv16, (vI p.turn)] ++ post32))) rfl (by rw [List.length_set])
  rw [rput_hit hh, ← ht]
  replace M := M.sel (L' := [bk ab #[pv, (Value.map (some fb))] 107, own 112 5 pv ((l.set h.at_.toNat (⟨true, p.turn, n⟩ : RPlace)).length) (pre31 ++ ([(vB n.leaf), kv14, dv15, vv16, (vI p.turn)] ++ post32)), setC fb ks, nodesC N36 (pre31 ++ ([(vB n.leaf), kv14, dv15, vv16, (vI p.turn)] ++ post32)) (l.set h.at_.toNat (⟨true, p.turn, n⟩ : RPlace)), bk b11 #[(vB n.leaf), kv, dv, vv] 93]) [1, 2, 3, 0, 4] rfl (by decide)
  replace M := Mem.pack (Ls := arenaL 107 112 ab (l.set h.at_.toNat (⟨true, p.turn, n⟩ : RPlace))) (p := fun i => FreeOk i.ks (l.set h.at_.toNat (⟨true, p.turn, n⟩ : RPlace))) (⟨pv, fb, (pre31 ++ ([(vB n.leaf), kv14, dv15, vv16, (vI p.turn)] ++ post32)), ks, N36⟩ : ArI) M (free_set_used hK hp hu)
  exact ⟨_, rfl, M.close [0] rfl (by decide) trivial⟩
 ·
  refine wR ?_
  refine WL.box (v := (Value.agg #[(vI h.at_), (vI h.turn)])) (c := #[(vI h.at_), (vI h.turn)]) M rfl rfl rfl (fun b37 w38 hb37 M => ?_)
  refine WL.box (v := (Value.agg #[(vB n.leaf), kv, dv, vv])) (c := #[(vB n.leaf), kv, dv, vv]) M rfl rfl rfl (fun b39 w40 hb39 M => ?_)
  refine wA (vI 0) (WL.nil (wR (wM (vP ab) (wS (Value.agg #[(vI h.at_), (vI h.turn)]) rfl (Step.loadN Tryz.ag68 rfl (M.blk 1 rfl) (Nat.le_of_ble_eq_true rfl) rfl) ?_))))
  have fq := M.frm [bk ab #[pv, (Value.map (some fb))] 107, own 112 5 pv l.length cs, setC fb ks, nodesC N cs l] [bk b39 #[(vB n.leaf), kv, dv, vv] 93, bk b37 #[(vI h.at_), (vI h.turn)] 68] [2, 3, 4, 5, 0, 1] rfl
  refine WL.callX rfl (at_miss ab l (⟨pv, fb, cs, ks, N⟩ : ArI) h hK hh (M.eF fq trivial)) (CallsF.func Tryz.en95 rfl) ?_
  rintro _ w41 ⟨rfl, m⟩
  replace M := M.lF fq m
  clear m
  refine wM (Value.tuple #[vN, (vI 110)]) (wP vN (wP (vI 110) (wA vN (wA (vI 110) (WL.nil ?_)))))
  refine W.seq' (wR (wM (vI 110) (wP (vB false) (WL.nil ?_))))
  refine W.cond (t := false) rfl (fun h => by cases h) (fun _ => ?_)
  refine W.skip (wR (wM (vI 110) (wA (vI 110) (WL.nil ?_))))
  refine W.ret ?_
  refine ⟨.inl rfl, (vI 110), ?_, ?_⟩
  · exact ⟨rfl, (Res.r1 (show RV _ _ _ (.tmp 6) (vI 110) from by exact rfl))⟩
  rw [rput_miss hh]
  replace M := M.sel (L' := [bk ab #[pv, (Value.map (some fb))] 107, own 112 5 pv l.length cs, setC fb ks, nodesC N cs l, bk b39 #[(vB n.leaf), kv, dv, vv] 93, bk b37 #[(vI h.at_), (vI h.turn)] 68]) [0, 1, 2, 3, 4, 5] rfl (by decide)
  replace M := Mem.pack (Ls := arenaL 107 112 ab l) (p := fun i => FreeOk i.ks l) (⟨pv, fb, cs, ks, N⟩ : ArI) M hK
  exact ⟨_, rfl, M.close [0] rfl (by decide) trivial⟩
theorem ar_len {G X : Nat → Prop} {w : World} (ab : Nat) (l : List RPlace) (S : Nat → Prop)   (M : Mem G X w [arenaC 107 112 S ab l] [] w) : Rets Tryz.prog 33 #[(vP ab)] w fun r w' => r = (Value.tuple #[(vI (↑(usedN l))), (vI ↑l.length)]) ∧ Mem G X w [arenaC 107 112 S ab l] [] w' := by
 refine Rets.enter 22 _ Tryz.func33 rfl Tryz.ntmps33 Tryz.results33 (by simp) ?_
 obtain ⟨⟨pv, fb, cs, ks, N⟩, hK, hS, M⟩ := M.unpack
 replace hK : FreeOk ks l := hK
 have hcl := (M.chunk 1 rfl).inv.1
 simp only at hcl
 have sl1 : IsSl pv := SlAt.isSl (own_slAt (Mem.chunk M 1 rfl).inv)
 have hle2 := SlAt.le' (own_slAt (Mem.chunk M 1 rfl).inv)
 have hfl := free_len hK
 refine wR (wA (vI 0) (wA (vI 0) (WL.nil (W.seq' (wR ?_)))))
 refine wM (vP ab) (wP (vB false) (WL.nil ?_))
 refine W.cond (t := false) rfl (fun h => by cases h) (fun _ => ?_)
 refine W.skip (W.seq' ?_)
 refine W.drawn M [0, 1, 2, 3, 4, 5, 6, 7, 8, 9, 10, 11, 12, 13, 14, 15, 16, 17] [] [] _ _ (sY (sY (sY (sY sE)))) (fun _ h => h) Tryz.mixed (by kernel_rfl) ?_
 refine tP (vP ab) rfl (fun w => (Step.move rfl)) ?_
 refine tP (vP ab) rfl (fun w => sP) ?_
 refine tP (vP ab) rfl (fun w => sP) ?_
 refine tR pv rfl (fun A w M => (Step.load1 Tryz.sc105 rfl ((M.cell 1 rfl 0).trans rfl))) ?_
 refine tR (vI ↑l.length) rfl (fun A w M => (Step.lenSl Tryz.un105 rfl (own_slAt (M.chunk 2 rfl).inv))) ?_
 refine tP (vP ab) rfl (fun w => (Step.move rfl)) ?_
 refine tP (vP ab) rfl (fun w => sP) ?_
 refine tP (Value.pointer (some ⟨ab, 1, none⟩)) rfl (fun w => sP) ?_
 refine tR (Value.map (some fb)) rfl (fun A w M => (Step.load1 Tryz.sc104 rfl ((M.cell 1 rfl 1).trans rfl))) ?_
 refine tR (vI ↑ks.length) rfl (fun A w M => (Mem.setLen M 3 rfl Tryz.mt104 rfl)) ?_
 refine tP (vI ((↑l.length : Int) - ↑ks.length)) rfl (fun w => (Step.sub rfl rfl (wrap_i64 (by omega)))) ?_
 refine tP (vP ab) rfl (fun w => (Step.move rfl)) ?_
 refine tP (vP ab) rfl (fun w => sP) ?_
 refine tP (vP ab) rfl (fun w => sP) ?_
 refine tR pv rfl (fun A w M => (Step.load1 Tryz.sc105 rfl ((M.cell 1 rfl 0).trans rfl))) ?_
 refine tR (vI ↑l.length) rfl (fun A w M => (Step.lenSl Tryz.un105 rfl (own_slAt (M.chunk 2 rfl).inv))) ?_
 refine tP (vI ((↑l.length : Int) - ↑ks.length)) rfl (fun w => (Step.assign rfl)) ?_
 refine tP (vI ↑l.length) rfl (fun w => (Step.assign rfl)) ?_
 refine TW.done (fun w3 M => ?_)
 refine W.ret ?_
 refine ⟨.inl rfl, (Value.tuple #[(vI ((↑l.length : Int) - ↑ks.length)), (vI ↑l.length)]), ?_, ?_⟩
 · exact ⟨rfl, (Res.r2 (show RV _ _ _ (.tmp 2) (vI ((↑l.length : Int) - ↑ks.length)) from by exact rfl) (show RV _ _ _ (.tmp 3) (vI ↑l.length) from by exact rfl))⟩
 replace M := M.sel (L' := [bk ab #[pv, (Value.map (some fb))] 107, own 112 5 pv l.length cs, setC fb ks, nodesC N cs l]) [0, 1, 2, 3] rfl (by decide)
 replace M := Mem.pack (Ls := arenaL 107 112 ab l) (p := fun i => FreeOk i.ks l) (⟨pv, fb, cs, ks, N⟩ : ArI) M hK
 rw [← hS] at M
 refine ⟨?_, M.close [0] rfl (by decide) trivial⟩
 rw [show ((l.length : Int) - ↑ks.length) = ↑(usedN l) by omega]
theorem ar_new {G : Nat → Prop} {w : World}    (M : Mem G (fun _ => False) w [] [] w) : Rets Tryz.prog 31 #[] w fun r w' => ∃ (ab' : Nat) (S' : Nat → Prop), r = (vP ab') ∧ Mem G (fun _ => False) w [arenaC 107 112 S' ab' ([] : List RPlace)] [] w' := by
 refine Rets.enter 4 _ Tryz.func31 rfl Tryz.ntmps31 Tryz.results31 (by simp) ?_
 refine wR (wA vN (WL.nil (wR ?_)))
 refine WL.new (obj := .map #[] 0) (fun b => .map (some b)) M rfl (fun w => Step.makeMap) (fun b1 w2 hb1 M => ?_)
 refine wP (Value.agg #[vZ, (Value.map (some b1))]) ?_
 refine WL.box (v := (Value.agg #[vZ, (Value.map (some b1))])) (c := #[vZ, (Value.map (some b1))]) M rfl rfl rfl (fun b3 w4 hb3 M => ?_)
 refine wA (vP b3) (WL.nil ?_)
 refine W.ret ?_
 refine ⟨.inl rfl, (vP b3), ?_, ?_⟩
 · exact ⟨rfl, (Res.r1 (show RV _ _ _ (.tmp 0) (vP b3) from by exact rfl))⟩
 replace M := M.setNew 1 rfl
 replace M := (M.ownNil 112 5).nodesNil
 replace M := M.rechunk 1 (c' := own 112 5 (Value.slice none 0 0) ([] : List RPlace).length []) rfl rfl
 replace M := M.sel (L' := [bk b3 #[vZ, (Value.map (some b1))] 107, own 112 5 vZ (([] : List RPlace).length) ([]), setC b1 ([]), nodesC (fun _ => False) ([]) ([] : List RPlace)]) [2, 1, 3, 0] rfl (by decide)
 replace M := Mem.pack (Ls := arenaL 107 112 b3 ([] : List RPlace)) (p := fun i => FreeOk i.ks ([] : List RPlace)) (⟨vZ, b1, [], [], (fun _ => False)⟩ : ArI) M free_nil
 exact ⟨_, _, rfl, M.close [0] rfl (by decide) trivial⟩
theorem ar_free {G X : Nat → Prop} {w : World} (ab : Nat) (l : List RPlace) (S : Nat → Prop) (v : Value) (hs : List Handle)  (hA : SmallA l) (M : Mem G X w [arenaC 107 112 S ab l] [fH v hs] w) : Rets Tryz.prog 53 #[(vP ab), v] w fun r w' => ∃ (S' : Nat → Prop), r = (vI ((rfree l hs).2)) ∧ Mem G X w [arenaC 107 112 S' ab ((rfree l hs).1)] [] w' := by
 refine Rets.enter 62 _ Tryz.func53 rfl Tryz.ntmps53 Tryz.results53 (by simp) ?_
 have hle1 := SlAt.le' (M.rep 0 rfl)
 have sl2 : IsSl v := SlAt.isSl (Mem.rep M 0 rfl)
 have hA1 := hA.1
 obtain ⟨⟨pv, fb, cs, ks, N⟩, hK, hS, M⟩ := M.unpack
 replace hK : FreeOk ks l := hK
 have hcl := (M.chunk 1 rfl).inv.1
 simp only at hcl
 have sl3 : IsSl pv := SlAt.isSl (own_slAt (Mem.chunk M 1 rfl).inv)
 have hle4 := SlAt.le' (own_slAt (Mem.chunk M 1 rfl).inv)
 refine wR (wA (vI 0) (WL.nil (W.seq' (wR (wM (vP ab) ?_)))))
 refine wP (vB false) (WL.nil ?_)
 refine W.cond (t := false) rfl (fun h => by cases h) (fun _ => ?_)
 refine W.skip (W.seq' (wR (wM v (wS (vI ↑hs.length) rfl (Step.lenSl Tryz.un90 rfl (M.rep 0 rfl)) (wM (vI 0) ?_)))))
 refine WL.nil (W.block ?_)
 refine W.loop (fun kk ρ w' => ∃ (ia_ : Nat), ((ia_ ≤ hs.length) ∧ (freeOkTo l hs ia_) ∧ kk = hs.length - ia_) ∧ ρ.has [(0, (vP ab)), (1, v), (11, v), (12, (vI ↑hs.length)), (13, (vI ↑ia_))] ∧ Mem G X w [bk ab #[pv, (Value.map (some fb))] 107, own 112 5 pv l.length cs, setC fb ks, nodesC N cs l] [fH v hs]  w') _ ⟨0, ⟨(Nat.zero_le _), (fun _ _ h => absurd h (Nat.not_lt_zero _)), rfl⟩, ⟨rfl, rfl, rfl, rfl, rfl, rfl, rfl⟩, M⟩ ?_
 rintro _ ρ6 w5 ⟨ia_, ⟨hi7, hi8, rfl⟩, hρ, M⟩
 obtain ⟨ρ6, rfl⟩ := hρ.know
 clear hρ
 refine wR (wP (vB (decide ((↑ia_ : Int) < (↑hs.length : Int)))) (WL.nil (W.seq' ?_)))
 refine W.cond (t := decide ((↑ia_ : Int) < (↑hs.length : Int))) rfl (fun h9 => ?_) (fun h9 => ?_)
 ·
  have h9p := of_decide_eq_true h9
  refine W.skip (W.seq' (W.block (wR (wM (vI ↑ia_) ?_))))
  obtain ⟨cap11, hb10⟩ := SlAt.base (M.rep 0 rfl) (by omega)
  obtain ⟨x12, hx12⟩ := elem_of_lt (xs := hs) (i := ia_) (by omega)
  refine wS (vQ v ia_ 2) rfl (sX ia_ Tryz.un90 Tryz.el68 rfl rfl hb10) (wS (Value.agg #[(vI x12.at_), (vI x12.turn)]) rfl (Step.loadEN (k := 0) (cs' := [(vI x12.at_), (vI x12.turn)]) Tryz.ag68 (flat_ec (M.rep 0 rfl) hx12 handleE_len) (by decide) rfl rfl rfl) ?_)
  refine WL.alloc (c := #[(vI 0), (vI 0)]) M rfl Tryz.el68.zero rfl (fun b13 w14 hb13 M => ?_)
  refine wA (vI ↑ia_) ?_
  refine WL.store (v := (Value.agg #[(vI x12.at_), (vI x12.turn)])) (cs := [(vI x12.at_), (vI x12.turn)]) (c' := #[(vI x12.at_), (vI x12.turn)]) M 0 rfl rfl Tryz.el68.sized rfl rfl rfl rfl (Nat.le_of_ble_eq_true rfl) (cel_cons rfl (cel_cons rfl cel_nil)) rfl rfl (fun w15 M => ?_)
  refine WL.nil (W.seq' ?_)
  rcases Bool.eq_false_or_eq_true (!(rhas l x12)) with h16 | h16
  ·
   refine W.drawn M [0, 1, 2, 3, 4, 5, 6, 7, 8, 9, 10] [2, 9] [] _ _ (sY (sY (sY (sY (sY sE))))) (fun _ h => h) Tryz.mixed (by kernel_rfl) ?_
   refine tP (vP ab) rfl (fun w => (Step.move rfl)) ?_
   refine tR (Value.agg #[(vI x12.at_), (vI x12.turn)]) rfl (fun A w M => (Step.loadN Tryz.ag68 rfl (M.blk 1 rfl) (Nat.le_of_ble_eq_true rfl) rfl)) ?_
   refine TW.callX (ι := Unit) (fun jx v_ => v_ = (vB (rhas l x12))) (fun jx => [bk b13 #[(vI x12.at_), (vI x12.turn)] 68, bk ab #[pv, (Value.map (some fb))] 107, own 112 5 pv l.length cs, setC fb ks, nodesC N cs l]) (fun jx => [fH v hs]) rfl (by decide) rfl (fun jx => (sY (sY (sY (sY (sY sE)))))) (fun jx r h => h) (fun A w M => have fq := M.frm [bk ab #[pv, (Value.map (some fb))] 107, own 112 5 pv l.length cs, setC fb ks, nodesC N cs l] [fl A, bk b13 #[(vI x12.at_), (vI x12.turn)] 68] [2, 3, 4, 5, 0, 1] rfl; Rets.mono (ar_has ab l (⟨pv, fb, cs, ks, N⟩ : ArI) x12 hK (M.eF fq trivial)) (fun v_ w_ ⟨e_, m⟩ => ⟨(), e_, (M.lF fq m).sel [4, 5, 0, 1, 2, 3] rfl (by decide), fun b hb => M.kF fq m b hb⟩)) (fun w => CallsF.func Tryz.en78 rfl) (fun jx v hp hin => ?_)
   replace hp := hp.symm; subst hp
   clear hin
   rw [(show (rhas l x12) = false by simpa using h16)]
   refine tP (vB true) rfl (fun w => sP) ?_
   refine tP (vB true) rfl (fun w => (Step.move rfl)) ?_
   refine TW.skip rfl rfl ?_
   refine TW.skip rfl rfl ?_
   refine TW.skip rfl rfl ?_
   refine TW.skip rfl rfl ?_
   refine TW.skip rfl rfl ?_
   refine tP (vB true) rfl (fun w => (Step.pick (t := true) rfl rfl)) ?_
   refine TW.done (fun w17 M => ?_)
   refine W.cond (t := true) rfl (fun _ => ?_) (fun h => by cases h)
   refine wR (wA (vI 110) (WL.nil ?_))
   refine W.ret ?_
   refine ⟨.inl rfl, (vI 110), ?_, ?_⟩
   · exact ⟨rfl, (Res.r1 (show RV _ _ _ (.tmp 4) (vI 110) from by exact rfl))⟩
   have hnf : freeable l hs = false := freeable_not hx12 (by first | (left; simpa using h16) | (right; simpa using h16))
   rw [rfree_miss hnf]
   replace M := M.sel (L' := [bk ab #[pv, (Value.map (some fb))] 107, own 112 5 pv l.length cs, setC fb ks, nodesC N cs l, bk b13 #[(vI x12.at_), (vI x12.turn)] 68]) [1, 2, 3, 4, 0] rfl (by decide)
   replace M := Mem.pack (Ls := arenaL 107 112 ab l) (p := fun i => FreeOk i.ks l) (⟨pv, fb, cs, ks, N⟩ : ArI) M hK
   exact ⟨_, rfl, M.close [0] rfl (by decide) trivial⟩
  ·
   have hsh18 := SlAt.shp (M.rep 0 rfl)
   have hsh18c := hsh18
   obtain ⟨_, _, hsh18l, hsh18m⟩ := hsh18c
   refine W.drawn M [0, 1, 2, 3, 4, 5, 6, 7, 8, 9, 10] [2, 9] [] _ _ (sY (sY (sY (sY (sY sE))))) (fun _ h => h) Tryz.mixed (by kernel_rfl) ?_
   refine tP (vP ab) rfl (fun w => (Step.move rfl)) ?_
   refine tR (Value.agg #[(vI x12.at_), (vI x12.turn)]) rfl (fun A w M => (Step.loadN Tryz.ag68 rfl (M.blk 1 rfl) (Nat.le_of_ble_eq_true rfl) rfl)) ?_
   refine TW.callX (ι := Unit) (fun jx v_ => v_ = (vB (rhas l x12))) (fun jx => [bk b13 #[(vI x12.at_), (vI x12.turn)] 68, bk ab #[pv, (Value.map (some fb))] 107, own 112 5 pv l.length cs, setC fb ks, nodesC N cs l]) (fun jx => [fH v hs]) rfl (by decide) rfl (fun jx => (sY (sY (sY (sY (sY sE)))))) (fun jx r h => h) (fun A w M => have fq := M.frm [bk ab #[pv, (Value.map (some fb))] 107, own 112 5 pv l.length cs, setC fb ks, nodesC N cs l] [fl A, bk b13 #[(vI x12.at_), (vI x12.turn)] 68] [2, 3, 4, 5, 0, 1] rfl; Rets.mono (ar_has ab l (⟨pv, fb, cs, ks, N⟩ : ArI) x12 hK (M.eF fq trivial)) (fun v_ w_ ⟨e_, m⟩ => ⟨(), e_, (M.lF fq m).sel [4, 5, 0, 1, 2, 3] rfl (by decide), fun b hb => M.kF fq m b hb⟩)) (fun w => CallsF.func Tryz.en78 rfl) (fun jx v hp hin => ?_)
   replace hp := hp.symm; subst hp
   clear hin
   rw [(show (rhas l x12) = true by simpa using h16)]
   refine tP (vB false) rfl (fun w => sP) ?_
   refine tP (vB false) rfl (fun w => (Step.move rfl)) ?_
   refine tP v rfl (fun w => (Step.move rfl)) ?_
   refine tP (vI ↑ia_) rfl (fun w => (Step.move rfl)) ?_
   refine tP (vTake ia_ v) rfl (fun w => (Step.sliceToP (h := ia_) Tryz.un90 Tryz.el68.sized rfl rfl (by omega) hsh18 (by obtain ⟨_, _, _, _⟩ := hsh18; omega))) ?_
   refine tR (Value.agg #[(vI x12.at_), (vI x12.turn)]) rfl (fun A w M => (Step.loadN Tryz.ag68 rfl (M.blk 1 rfl) (Nat.le_of_ble_eq_true rfl) rfl)) ?_
   let Q : List Chunk := [bk b13 #[(vI x12.at_), (vI x12.turn)] 68, bk ab #[pv, (Value.map (some fb))] 107, own 112 5 pv l.length cs, setC fb ks, nodesC N cs l]
   refine TW.callX (ι := Unit) (fun jx v_ => v_ = (vB (decide (x12 ∈ (hs.take ia_))))) (fun jx => Q) (fun jx => [fH v hs]) rfl (by decide) rfl (fun jx => (sY (sY (sY (sY (sY sE)))))) (fun jx r h => h) (fun A w M => Rets.mono (contains_handle (vTake ia_ v) (hs.take ia_) x12 (M.enterW0 ⟨(((M.wideR0 0 rfl)).imp fun _ h => slat_take handleE_len h (by omega)), trivial⟩)) (fun v_ w_ ⟨e_, m⟩ => ⟨(), e_, (M.leaveW0 m).sel [0, 1, 2, 3, 4, 5] rfl (by decide), fun b hb => M.k0F m b hb⟩)) (fun w => CallsF.func Tryz.en79 rfl) (fun jx v hp hin => ?_)
   replace hp := hp.symm; subst hp
   clear hin
   refine tP (vB (decide (x12 ∈ (hs.take ia_)))) rfl (fun w => (Step.pick (t := false) rfl rfl)) ?_
   refine TW.done (fun w19 M => ?_)
   refine W.cond (t := decide (x12 ∈ (hs.take ia_))) rfl (fun h20 => ?_) (fun h20 => ?_)
   ·
    have h20p := of_decide_eq_true h20
    refine wR (wA (vI 110) (WL.nil ?_))
    refine W.ret ?_
    refine ⟨.inl rfl, (vI 110), ?_, ?_⟩
    · exact ⟨rfl, (Res.r1 (show RV _ _ _ (.tmp 4) (vI 110) from by exact rfl))⟩
    have hnf : freeable l hs = false := freeable_not hx12 (by first | (left; simpa using h20) | (right; simpa using h20))
    rw [rfree_miss hnf]
    replace M := M.sel (L' := [bk ab #[pv, (Value.map (some fb))] 107, own 112 5 pv l.length cs, setC fb ks, nodesC N cs l, bk b13 #[(vI x12.at_), (vI x12.turn)] 68]) [1, 2, 3, 4, 0] rfl (by decide)
    replace M := Mem.pack (Ls := arenaL 107 112 ab l) (p := fun i => FreeOk i.ks l) (⟨pv, fb, cs, ks, N⟩ : ArI) M hK
    exact ⟨_, rfl, M.close [0] rfl (by decide) trivial⟩
   ·
    have h20p := of_decide_eq_false h20
    refine W.skip (W.region rfl (wS (vI (↑ia_ + 1)) rfl (Step.add rfl rfl (wrap_i64 (by omega))) (wM (vI (↑ia_ + 1)) (WL.nil ?_))))
    have hs := freeOkTo_step hi8 hx12 (by simpa using h16) (by simpa using h20)
    replace M := M.sel (L' := [bk ab #[pv, (Value.map (some fb))] 107, own 112 5 pv l.length cs, setC fb ks, nodesC N cs l]) [1, 2, 3, 4] rfl (by decide)
    exact ⟨_, (by omega), ia_ + 1, ⟨(by omega), hs, rfl⟩, ⟨rfl, rfl, rfl, rfl, rfl, rfl, rfl⟩, M⟩
 ·
  have h9p := of_decide_eq_false h9
  refine W.exit ?_
  refine thn_exit ?_
  refine thn_exit ?_
  refine inBlk_hit ?_
  refine W.seq' (wR (wM (vP ab) (wP (vP ab) (wP (Value.pointer (some ⟨ab, 1, none⟩)) (wS (Value.map (some fb)) rfl (Step.load1 Tryz.sc104 rfl ((M.cell 0 rfl 1).trans rfl)) ?_)))))
  refine wS (vB false) rfl (Step.mapNil Tryz.mt104 rfl rfl) (WL.nil ?_)
  refine W.cond (t := false) rfl (fun h => by cases h) (fun _ => ?_)
  refine W.skip (W.seq' (wR (wM v (wS (vI ↑hs.length) rfl (Step.lenSl Tryz.un90 rfl (M.rep 0 rfl)) (wM (vI 0) ?_)))))
  refine WL.nil (W.block ?_)
  have hfr := freeable_of hi8 (by omega)
  obtain ⟨hall, hnd⟩ := freeable_iff.1 hfr
  replace M := M.sel (L' := [bk ab #[pv, (Value.map (some fb))] 107, own 112 5 pv l.length cs, setC fb ks, nodesC N cs (freeAll l (hs.take 0))]) [0, 1, 2, 3] rfl (by decide)
  refine W.loop (fun kk ρ w' => ∃ (ib_ : Nat) (ks_ : List Int) (cs_ : List Value), ((ib_ ≤ hs.length) ∧ (FreeOk ks_ (freeAll l (hs.take ib_))) ∧ kk = hs.length - ib_) ∧ ρ.has [(0, (vP ab)), (39, v), (40, (vI ↑hs.length)), (41, (vI ↑ib_))] ∧ Mem G X w [bk ab #[pv, (Value.map (some fb))] 107, own 112 5 pv l.length cs_, setC fb ks_, nodesC N cs_ (freeAll l (hs.take ib_))] [fH v hs]  w') _ ⟨0, ks, cs, ⟨(Nat.zero_le _), hK, rfl⟩, ⟨rfl, rfl, rfl, rfl, rfl, rfl⟩, M⟩ ?_
  rintro _ ρ22 w21 ⟨ib_, ks_, cs_, ⟨hi23, hi24, rfl⟩, hρ, M⟩
  obtain ⟨ρ22, rfl⟩ := hρ.know
  clear hρ
  have hfl := freeAll_len (l := l) (hs := hs.take ib_)
  refine wR (wP (vB (decide ((↑ib_ : Int) < (↑hs.length : Int)))) (WL.nil (W.seq' ?_)))
  refine W.cond (t := decide ((↑ib_ : Int) < (↑hs.length : Int))) rfl (fun h25 => ?_) (fun h25 => ?_)
  ·
   have h25p := of_decide_eq_true h25
   refine W.skip (W.seq' (W.block (wR ?_)))
   obtain ⟨cap27, hb26⟩ := SlAt.base (M.rep 0 rfl) (by omega)
   obtain ⟨x28, hx28⟩ := elem_of_lt (xs := hs) (i := ib_) (by omega)
   obtain ⟨pl, hplace, _, htp, h0p, hltp⟩ := rhas_place (hall _ (List.mem_of_getElem? hx28))
   refine wS (vQ v ib_ 2) rfl (sX ib_ Tryz.un90 Tryz.el68 rfl rfl hb26) (wS (Value.agg #[(vI x28.at_), (vI x28.turn)]) rfl (Step.loadEN (k := 0) (cs' := [(vI x28.at_), (vI x28.turn)]) Tryz.ag68 (flat_ec (M.rep 0 rfl) hx28 handleE_len) (by decide) rfl rfl rfl) ?_)
   refine WL.alloc (c := #[(vI 0), (vI 0)]) M rfl Tryz.el68.zero rfl (fun b29 w30 hb29 M => ?_)
   refine WL.store (v := (Value.agg #[(vI x28.at_), (vI x28.turn)])) (cs := [(vI x28.at_), (vI x28.turn)]) (c' := #[(vI x28.at_), (vI x28.turn)]) M 0 rfl rfl Tryz.el68.sized rfl rfl rfl rfl (Nat.le_of_ble_eq_true rfl) (cel_cons rfl (cel_cons rfl cel_nil)) rfl rfl (fun w31 M => ?_)
   refine WL.nil (W.seq' ?_)
   obtain ⟨cap33, hb32⟩ := SlAt.base (own_slAt (M.chunk 2 rfl).inv) (by omega)
   obtain ⟨p34, hp34⟩ := elem_of_lt (xs := (freeAll l (hs.take ib_))) (i := x28.at_.toNat) (by omega)
   obtain ⟨kv35, dv36, vv37, sl38, sl39, sl40, hc41⟩ := place_cells (M.chunk 4 rfl).inv hp34
   obtain ⟨pre48, post49, kv42, dv43, vv44, sl45, sl46, sl47, hcs50, hpre51⟩ := place_open (M.chunk 4 rfl).inv hp34
   replace M := M.rechunk 2 (c' := own 112 5 pv l.length (pre48 ++ ([(vB p34.node.leaf), kv42, dv43, vv44, (vI p34.turn)] ++ post49))) rfl (by rw [hcs50])
   replace M := M.rechunk 4 (c' := nodesC N (pre48 ++ ([(vB p34.node.leaf), kv42, dv43, vv44, (vI p34.turn)] ++ post49)) (freeAll l (hs.take ib_))) rfl (by rw [hcs50])
   refine W.drawn M [0, 1, 2, 3, 4, 5, 6, 7, 8, 9] [9] [] _ _ (sY (sY (sN (sY (sY sE))))) (fun _ h => h) Tryz.mixed (by kernel_rfl) ?_
   refine tP (vP ab) rfl (fun w => (Step.move rfl)) ?_
   refine tP (vP ab) rfl (fun w => sP) ?_
   refine tP (vP ab) rfl (fun w => sP) ?_
   refine tR pv rfl (fun A w M => (Step.load1 Tryz.sc105 rfl ((M.cell 2 rfl 0).trans rfl))) ?_
   refine tP (vP b29) rfl (fun w => sP) ?_
   refine tR (vI x28.at_) rfl (fun A w M => (Step.load1 Tryz.sc3 rfl ((M.cell 1 rfl 0).trans rfl))) ?_
   refine tP (Value.agg #[(vB false), vZ, vZ, vZ]) rfl (fun w => sP) ?_
   refine tP (vQ pv x28.at_.toNat 5) rfl (fun w => (sX x28.at_.toNat Tryz.un105 Tryz.el112 rfl rfl hb32)) ?_
   refine tP (vQ pv x28.at_.toNat 5) rfl (fun w => sP) ?_
   refine TW.act (c' := own 112 5 pv l.length (pre48 ++ ([(vB false), vZ, vZ, vZ, (vI p34.turn)] ++ post49))) 2 rfl rfl (by decide) rfl (sY (sY (sN (sY (sY sE))))) (fun r h => h) (fun A w M => M.storeAt (cells := [(vB p34.node.leaf), kv42, dv43, vv44, (vI p34.turn)]) (cells' := [(vB false), vZ, vZ, vZ, (vI p34.turn)]) (new := [(vB false), vZ, vZ, vZ]) (k := 0) 3 rfl hpre51 Tryz.el93.sized rfl rfl rfl (cel_cons rfl (cel_cons rfl (cel_cons rfl (cel_cons rfl cel_nil)))) (by first | omega | (simp only [List.length_set, List.length_append, List.length_cons, List.length_nil]; omega)) (Nat.le_of_ble_eq_true rfl) rfl rfl) ?_
   refine TW.done (fun w52 M => ?_)
   refine W.drawn M [0, 1, 2, 3, 4, 5, 6, 7] [7] [] _ _ (sY (sY (sY (sN (sY sE))))) (fun _ h => h) Tryz.mixed (by kernel_rfl) ?_
   refine tP (vP ab) rfl (fun w => (Step.move rfl)) ?_
   refine tP (vP ab) rfl (fun w => sP) ?_
   refine tP (Value.pointer (some ⟨ab, 1, none⟩)) rfl (fun w => sP) ?_
   refine tR (Value.map (some fb)) rfl (fun A w M => (Step.load1 Tryz.sc104 rfl ((M.cell 2 rfl 1).trans rfl))) ?_
   refine tP (vP b29) rfl (fun w => sP) ?_
   refine tR (vI x28.at_) rfl (fun A w M => (Step.load1 Tryz.sc3 rfl ((M.cell 1 rfl 0).trans rfl))) ?_
   refine tP (Value.agg #[]) rfl (fun w => sP) ?_
   refine TW.act (c' := setC fb (sadd x28.at_ ks_)) 3 rfl rfl (by decide) rfl (sY (sY (sY (sN (sY sE))))) (fun r h => h) (fun A w M => M.setAdd 4 rfl Tryz.mt104 rfl rfl rfl) ?_
   refine TW.done (fun w53 M => ?_)
   refine W.region rfl (wS (vI (↑ib_ + 1)) rfl (Step.add rfl rfl (wrap_i64 (by omega))) (wM (vI (↑ib_ + 1)) (WL.nil ?_)))
   replace M := M.sel (L' := [nodesC N (pre48 ++ ([(vB p34.node.leaf), kv42, dv43, vv44, (vI p34.turn)] ++ post49)) (freeAll l (hs.take ib_)), bk b29 #[(vI x28.at_), (vI x28.turn)] 68, bk ab #[pv, (Value.map (some fb))] 107, own 112 5 pv l.length (pre48 ++ ([(vB false), vZ, vZ, vZ, (vI p34.turn)] ++ post49)), setC fb (sadd x28.at_ ks_)]) [4, 0, 1, 2, 3] rfl (by decide)
   replace M := M.nodesClear (u := false) (t := p34.turn) hpre51 rfl (by omega)
   obtain ⟨q, hq, htq⟩ := freeAll_turn (hs := hs.take ib_) (fun x hx => hall x (List.mem_of_mem_take hx)) hp34
   have hqq : p34.turn = x28.turn := by rw [htq]; rw [hplace] at hq; cases hq; exact htp
   have hnx : freeAll l (hs.take (ib_ + 1)) = (freeAll l (hs.take ib_)).set x28.at_.toNat ⟨false, p34.turn, ⟨false, [], [], []⟩⟩ := by rw [freeAll_snoc hx28, hqq]; rfl
   have hKn := free_free (t := p34.turn) (n := ⟨false, [], [], []⟩) hi24 (i := x28.at_.toNat) (by omega)
   rw [← hnx, Int.toNat_of_nonneg h0p] at hKn
   rw [← hnx] at M
   replace M := M.sel (L' := [bk ab #[pv, (Value.map (some fb))] 107, own 112 5 pv l.length (pre48 ++ ([(vB false), vZ, vZ, vZ, (vI p34.turn)] ++ post49)), setC fb (sadd x28.at_ ks_), nodesC N (pre48 ++ ([(vB false), vZ, vZ, vZ, (vI p34.turn)] ++ post49)) (freeAll l (hs.take (ib_ + 1)))]) [2, 3, 4, 0] rfl (by decide)
   exact ⟨_, (by omega), ib_ + 1, sadd x28.at_ ks_, (pre48 ++ ([(vB false), vZ, vZ, vZ, (vI p34.turn)] ++ post49)), ⟨(by omega), hKn, rfl⟩, ⟨rfl, rfl, rfl, rfl, rfl, rfl⟩, M⟩
  ·
   have h25p := of_decide_eq_false h25
   refine W.exit ?_
   refine thn_exit ?_
   refine thn_exit ?_
   refine inBlk_hit ?_
   refine wR (wA (vI 0) (WL.nil ?_))
   refine W.ret ?_
   refine ⟨.inl rfl, (vI 0), ?_, ?_⟩
   · exact ⟨rfl, (Res.r1 (show RV _ _ _ (.tmp 4) (vI 0) from by exact rfl))⟩
   rw [rfree_hit hfr]
   have htk : hs.take ib_ = hs := List.take_of_length_le (by omega)
   rw [htk] at M
   rw [htk] at hi24
   replace M := M.rechunk 1 (c' := own 112 5 pv ((freeAll l hs).length) cs_) rfl (by rw [freeAll_len])
   replace M := M.sel (L' := [bk ab #[pv, (Value.map (some fb))] 107, own 112 5 pv ((freeAll l hs).length) cs_, setC fb ks_, nodesC N cs_ (freeAll l hs)]) [0, 1, 2, 3] rfl (by decide)
   replace M := Mem.pack (Ls := arenaL 107 112 ab (freeAll l hs)) (p := fun i => FreeOk i.ks (freeAll l hs)) (⟨pv, fb, cs_, ks_, N⟩ : ArI) M hi24
   exact ⟨_, rfl, M.close [0] rfl (by decide) trivial⟩
end Go.Proofs
namespace Tp
open Go
section
variable {α : Type} {size : Nat} {enc : α → List Value}
def slRep (size : Nat) (enc : α → List Value) (cs : List Value) (xs : List α) (w : World) : Prop := ∃ v, cs = [v] ∧ SlAt size v xs.length (xs.flatMap enc) w
def SlsT (size : Nat) (enc : α → List Value) : Ty (List α) := ⟨1, slRep size enc, fun _ _ _ ⟨_, h, _⟩ => by rw [h]; rfl⟩
theorem sls_open {F X : Nat → Prop} {w0 w : World} {L : List Chunk} {R : List (World → Prop)} {v : Value} {n : Nat} {cs : List Value} {xs : List (List α)} {i : Nat} {a : List α} (M : Mem F X w0 L R w) (j k : Nat)
    (hj : R[j]? = some (SlAt 1 v n cs)) (hk : R[k]? = some (RepL (SlsT size enc) cs xs)) (hn : n = xs.length) (hx : xs[i]? = some a) :
    ∃ lv, Mem F X w0 L (EC v 1 i [lv] :: SlAt size lv a.length (a.flatMap enc) :: R) w := by
  obtain ⟨lv, hcs, _⟩ := (M.rep k hk).2 i a hx
  have get : ∀ w, RepL (SlsT size enc) cs xs w → SlAt size lv a.length (a.flatMap enc) w := fun w h => by
    obtain ⟨lv', hcs', h'⟩ := h.2 i a hx
    rw [hcs] at hcs'
    simp only [List.cons.injEq, and_true] at hcs'
    subst hcs'
    exact h'
  refine ⟨lv, ?_⟩
  have M1 := M.add ((M.shr k hk).imp fun w h => get w h)
  refine M1.add (((M.shr j hj).and (M.shr k hk)).imp fun w ⟨h1, h2⟩ => ?_)
  subst hn
  obtain ⟨cs', h3, h4⟩ := RepS.elem (T := SlsT size enc) ⟨cs, h1, h2⟩ hx
  obtain ⟨hb, hc⟩ := h4
  refine ⟨hb, fun m hm => ?_⟩
  have hi : i < xs.length := (List.getElem?_eq_some_iff.1 hx).1
  rw [Nat.add_assoc, h1.cell _ (mul_add_lt hi hm)]
  have : ((cs.drop (i * 1)).take 1)[m]? = [lv][m]? := by rw [← hcs]; rfl
  rw [List.getElem?_take, if_pos hm, List.getElem?_drop] at this
  exact this
end
section
variable {F X : Nat → Prop} {w0 w : World} {L : List Chunk} {R : List (World → Prop)} {e : TypeId} {size n : Nat} {v : Value} {cs : List Value}
theorem Mem.ownTake (M : Mem F X w0 L R w) (i k : Nat) (hi : L[i]? = some (Tp.own e size v n cs)) (hk : k ≤ n) : Mem F X w0 (L.set i (Tp.own e size (vTake k v) k (cs.take (k * size)))) R w := by
  have hown := (M.chunk i hi).inv
  have hf : ∀ b, (Tp.own e size (vTake k v) k (cs.take (k * size))).foot b → (Tp.own e size v n cs).foot b := fun b hb => by
    rcases hown.2 with ⟨rfl, _⟩ | ⟨g, cap, cur, rfl, _⟩
    · exact absurd hb (by simp [Tp.own, vTake, Value.ownBlock])
    · exact hb
  refine M.turn i hi (Mod.refl _ _) (own_ok ?_) fun b hb => .inl (hf b hb)
  have hle : k * size ≤ n * size := Nat.mul_le_mul_right _ hk
  refine ⟨by rw [List.length_take, hown.1]; omega, ?_⟩
  rcases hown.2 with ⟨rfl, rfl⟩ | ⟨g, cap, cur, rfl, h0, hg, h1, h2, h3, h4⟩
  · exact .inl ⟨by rw [Nat.le_zero.1 hk]; rfl, Nat.le_zero.1 hk⟩
  · exact .inr ⟨g, cap, cur, rfl, h0, hg, by omega, h2, h3, by rw [← h4, List.take_take, Nat.min_eq_left hle]⟩
end
theorem drop_rest {α : Type} (l : List α) (n : Nat) : (l.drop n).take (l.length - n) = l.drop n := List.take_of_length_le (by rw [List.length_drop]; omega)
theorem wrap_u64 {a : Int} (h : 0 ≤ a ∧ a < 18446744073709551616) : IntKind.u64.wrap a = a := IntWalk.u64_in a ⟨h.1, by omega⟩
theorem shp_nil : Shp (.slice none 0 0) 0 := ⟨none, rfl, by simp [vCap, maxLen]⟩
namespace Mem
variable {P : Program} {F X : Nat → Prop} {w w0 : World} {L : List Chunk} {R : List (World → Prop)} {ρ : Env} {d : Option Nat} {pos : String} {aft : Array Edge} {g : Option (Nat × Bool)} {t tn ty e : TypeId} {z : Value} {size bytes : Nat} {x y : Operand}
theorem nilZeros {kn kq : IntKind} {k : Nat} (M : Mem F X w0 L R w) (ht : Und P t (.slice e)) (htn : Und P tn (.int kn)) (he : Elem P e z size bytes) (hzs : z.cells.size = size) (hsz : 0 < size)
    (hx : ρ.ev x = .slice none 0 0) (hy : ρ.ev y = .int kq (k : Int)) (hk : 0 < k) (hak : k ≤ maxLen) (hb : k * bytes ≤ 140737488355328) :
    Does P ⟨d, .call { callee := .builtin .append, args := #[x, y], argTypes := #[t, tn] }, ty, pos, aft, g⟩ ρ w fun v' w' => ∃ junk, junk.length = k * size ∧ Old w w' ∧ Mem F X w0 (Tp.own e size v' k junk :: L) R w' := by
  obtain ⟨inf, hi, hz, hs, hby⟩ := he
  subst hs
  subst hby
  have hr := Go.Lib.run_append_nil_zeros (P := P) w t tn ty e inf z kq kn ht htn hi hz k hk hsz (by simp only [maxLen] at hak; omega) (by omega)
  have hge := grownCap_ge w k 0 e
  have hcm := grownCap_le_maxLen w k 0 e hak
  have hjl : (Builtin.zeroCells z.cells k).toList.length = k * inf.size := by rw [Array.length_toList, size_zeroCells, hzs]
  have hown : (w.drew.alloc (.cells (Builtin.zeroCells z.cells k ++ Builtin.zeroCells z.cells (grownCap w k 0 e - k)) e)).ownsRow 0 e inf.size (.slice (some ⟨w.heap.size, 0, none⟩) k (grownCap w k 0 e)) k (Builtin.zeroCells z.cells k).toList := by
    refine ⟨hjl, .inr ⟨w.heap.size, _, _, rfl, Nat.zero_le _, heap_alloc_new w.drew _, hge, hcm, ?_, ?_⟩⟩
    · simp only [Array.size_append, size_zeroCells, hzs, ← Nat.add_mul]
      congr 1
      omega
    · simp only [Array.toList_append]
      rw [← hjl]
      exact List.take_left
  have hold : Old w (w.drew.alloc (.cells (Builtin.zeroCells z.cells k ++ Builtin.zeroCells z.cells (grownCap w k 0 e - k)) e)) := ⟨rfl, rfl, rfl, by simp, fun b hb _ => heap_alloc_old w.drew _ hb, Nat.le_succ _⟩
  refine .inl ⟨_, _, fun d pos aft g => .inl ?_, _, hjl, hold, M.own hold (own_ok hown) fun b hb => by simp [Tp.own, Value.ownBlock] at hb; omega⟩
  simp only [execOp, resolve, invoke, builtin, Sem.run_bind, Sem.run_pure, Result.andThen_ok, List.map_toArray, List.map_cons, List.map_nil, hx, hy, hr]
end Mem
theorem repL_nil {α : Type} {T : Ty α} {w : World} : RepL T [] [] w := ⟨by simp, fun i x h => by simp at h⟩
theorem repS_blk {α : Type} (T : Ty α) {w : World} {b : Nat} {c : Array Value} {e : TypeId} {fz : Nat × Nat} {n : Nat} {cs : List Value} {xs : List α} (h : w.heap[b]? = some (.cells c e fz)) (hc : c.toList = cs) (hn : n ≤ maxLen) (hl : RepL T cs xs w) (hx : xs.length = n := by rfl) : RepS T (.slice (some ⟨b, 0, none⟩) n n) xs w := by
  subst hx
  exact ⟨cs, hc ▸ SlAt.of_blk h (by rw [← Array.length_toList, hc]; exact hl.1) hn, hl⟩
def sumL {α : Type} (xss : List (List α)) : Nat := xss.flatten.length
theorem sumL_snoc {α : Type} {xss : List (List α)} {i : Nat} {a : List α} (hx : xss[i]? = some a) : sumL (xss.take (i + 1)) = sumL (xss.take i) + a.length := by
  unfold sumL; rw [← take_snoc hx]; simp
theorem sumL_le {α : Type} (xss : List (List α)) (i : Nat) : sumL (xss.take i) ≤ sumL xss := by
  unfold sumL
  have : xss.flatten = (xss.take i).flatten ++ (xss.drop i).flatten := by rw [← List.flatten_append, List.take_append_drop]
  rw [this]; simp
theorem flat_snoc {α : Type} {xss : List (List α)} {i : Nat} {a : List α} (hx : xss[i]? = some a) : (xss.take (i + 1)).flatten = (xss.take i).flatten ++ a := by
  rw [← take_snoc hx]; simp
end Tp
