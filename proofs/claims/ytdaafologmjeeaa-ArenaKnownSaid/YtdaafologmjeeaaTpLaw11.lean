/- The law of the arena: its acts, the reference's rows. -/
import Derived.Test.YtdaafologmjeeaaTpArena2
namespace Tp
open Go

structure AAct where
  do_ : Int
  node : Nd
  hs : List Handle
deriving Inhabited
def actRep (cs : List Value) (a : AAct) (w : World) : Prop :=
  ∃ kv dv vv hv, cs = [.int .i64 a.do_, .bool a.node.leaf, kv, dv, vv, hv] ∧ NodeC kv dv vv a.node w ∧ SlAt 2 hv a.hs.length (a.hs.flatMap handleE) w
def ActT : Ty AAct := ⟨6, actRep, fun _ _ _ ⟨_, _, _, _, h, _⟩ => by rw [h]; rfl⟩

theorem act_open {F X : Nat → Prop} {w0 w : World} {L : List Chunk} {R : List (World → Prop)} {v : Value} {n : Nat} {cs : List Value} {xs : List AAct} {i : Nat} {p : AAct} (M : Mem F X w0 L R w) (j k : Nat)
    (hj : R[j]? = some (SlAt 6 v n cs)) (hk : R[k]? = some (RepL ActT cs xs)) (hn : n = xs.length) (hx : xs[i]? = some p) :
    ∃ kv dv vv hv, Mem F X w0 L (EC v 6 i [.int .i64 p.do_, .bool p.node.leaf, kv, dv, vv, hv] :: SlAt 1 kv p.node.keys.length (p.node.keys.flatMap strE) :: SlAt 2 dv p.node.kids.length (p.node.kids.flatMap handleE) ::
      SlAt 1 vv p.node.vals.length (p.node.vals.flatMap intE) :: SlAt 2 hv p.hs.length (p.hs.flatMap handleE) :: R) w := by
  obtain ⟨kv, dv, vv, hv, hcs, _⟩ := (M.rep k hk).2 i p hx
  have get : ∀ w, RepL ActT cs xs w → NodeC kv dv vv p.node w ∧ SlAt 2 hv p.hs.length (p.hs.flatMap handleE) w := fun w h => by
    obtain ⟨kv', dv', vv', hv', hcs', h'⟩ := h.2 i p hx
    rw [hcs] at hcs'
    simp only [List.cons.injEq, true_and, and_true] at hcs'
    obtain ⟨rfl, rfl, rfl, rfl⟩ := hcs'
    exact h'
  refine ⟨kv, dv, vv, hv, ?_⟩
  have M0 := M.add ((M.shr k hk).imp fun w h => (get w h).2)
  have M1 := M0.add ((M.shr k hk).imp fun w h => (get w h).1.2.2)
  have M2 := M1.add ((M.shr k hk).imp fun w h => (get w h).1.2.1)
  have M3 := M2.add ((M.shr k hk).imp fun w h => (get w h).1.1)
  refine M3.add (((M.shr j hj).and (M.shr k hk)).imp fun w ⟨h1, h2⟩ => ?_)
  subst hn
  exact ec_row h1 (by obtain ⟨_, _, _, _, hc, _⟩ := h2.2 i p hx; exact hcs) (List.getElem?_eq_some_iff.1 hx).1

def rwith (xs : List RPlace) (at_ : Int) (p : RPlace) : List RPlace := if at_ = xs.length then xs ++ [p] else xs.set at_.toNat p
section
variable {cs : List Value} {xs : List RPlace} {v kv dv vv : Value} {w : World} {u : Bool} {t at_ : Int} {n : Nd} {h : Handle}
theorem rplace_rep (h1 : SlAt 1 kv n.keys.length (n.keys.flatMap strE) w) (h2 : SlAt 2 dv n.kids.length (n.kids.flatMap handleE) w) (h3 : SlAt 1 vv n.vals.length (n.vals.flatMap intE) w) :
    RPlaceT.rep [.bool u, .int .i64 t, .bool n.leaf, kv, dv, vv] ⟨u, t, n⟩ w := ⟨kv, dv, vv, rfl, h1, h2, h3⟩
theorem rwith_app (ha : at_ = xs.length) (hs : SlAt 6 v (xs.length + 1) (cs ++ [.bool u, .int .i64 t, .bool n.leaf, kv, dv, vv]) w) (hl : RepL RPlaceT cs xs w)
    (h1 : SlAt 1 kv n.keys.length (n.keys.flatMap strE) w) (h2 : SlAt 2 dv n.kids.length (n.kids.flatMap handleE) w) (h3 : SlAt 1 vv n.vals.length (n.vals.flatMap intE) w) : RepS RPlaceT v (rwith xs at_ ⟨u, t, n⟩) w := by
  unfold rwith; rw [if_pos ha]
  exact ⟨_, by rw [List.length_append, List.length_singleton]; exact hs, repL_snoc hl (rplace_rep h1 h2 h3)⟩
theorem rwith_set (ha : ¬ at_ = xs.length) (hlt : at_.toNat < xs.length) (hs : SlAt 6 v xs.length (splice cs (at_.toNat * 6 + 0) [.bool u, .int .i64 t, .bool n.leaf, kv, dv, vv]) w) (hl : RepL RPlaceT cs xs w)
    (h1 : SlAt 1 kv n.keys.length (n.keys.flatMap strE) w) (h2 : SlAt 2 dv n.kids.length (n.kids.flatMap handleE) w) (h3 : SlAt 1 vv n.vals.length (n.vals.flatMap intE) w) : RepS RPlaceT v (rwith xs at_ ⟨u, t, n⟩) w := by
  unfold rwith; rw [if_neg ha]
  exact ⟨_, by rw [List.length_set]; exact hs, repL_set hl (rplace_rep h1 h2 h3) hlt⟩
theorem repL_one {α : Type} {T : Ty α} {cs : List Value} {xs : List α} (h : RepL T cs xs w) (h1 : ∀ cs x, T.rep cs x w → Step.Cellish cs) : Step.Cellish cs := by
  intro u hu
  obtain ⟨j, hj⟩ := List.getElem?_of_mem hu
  have hlt := (List.getElem?_eq_some_iff.1 hj).1
  rw [h.1] at hlt
  have hs : 0 < T.size := by
    rcases Nat.eq_zero_or_pos T.size with h0 | h0
    · rw [h0] at hlt; simp at hlt
    · exact h0
  have hd : j / T.size < xs.length := Nat.div_lt_of_lt_mul (by rw [Nat.mul_comm]; exact hlt)
  have hr := h.2 _ _ (List.getElem?_eq_getElem hd)
  refine h1 _ _ hr u (List.mem_of_getElem? (i := j % T.size) ?_)
  rw [List.getElem?_take, if_pos (Nat.mod_lt _ hs), List.getElem?_drop, ← hj]
  congr 1
  rw [Nat.mul_comm]; exact Nat.div_add_mod _ _
theorem rplace_cel (cs : List Value) (x : RPlace) (h : RPlaceT.rep cs x w) : Step.Cellish cs := by
  obtain ⟨kv, dv, vv, rfl, h1, h2, h3⟩ := h
  exact cel_cons rfl (cel_cons rfl (cel_cons rfl (cel_cons (IsSl.cel h1.isSl) (cel_cons (IsSl.cel h2.isSl) (cel_cons (IsSl.cel h3.isSl) cel_nil)))))
theorem rwith_make (xs : List RPlace) (n : Nd) (t : Int) (ht : t = (match xs[leastF xs]? with | some p => p.turn + 1 | none => 1)) : rwith xs (leastF xs) ⟨true, t, n⟩ = (rmake xs n).1 ∧ (⟨(leastF xs : Int), t⟩ : Handle) = (rmake xs n).2 := by
  unfold rwith rmake
  have hle := leastF_le (l := xs)
  cases hp : xs[leastF xs]? with
  | none =>
    rw [hp] at ht
    have : xs.length ≤ leastF xs := by simpa using hp
    rw [if_pos (by omega)]; simp [ht]
  | some p =>
    rw [hp] at ht
    have := (List.getElem?_eq_some_iff.1 hp).1
    rw [if_neg (by omega)]; simp [ht]
theorem rwith_put (hh : rhas xs h = true) (p : RPlace) : rwith xs h.at_ p = xs.set h.at_.toNat p := by
  obtain ⟨_, _, _, _, _, hlt⟩ := rhas_place hh
  unfold rwith; rw [if_neg (by omega)]
end

/-! ### Bounds of the acts -/
def okAct (a : AAct) : Bool := decide (a.node.keys.length ≤ 10) && decide (a.node.kids.length ≤ 10) && decide (a.node.vals.length ≤ 10) && decide (a.hs.length ≤ 6) && a.node.keys.all fun k => decide (k.size ≤ 40)
def fewB (l : List AAct) (top : Int) : Bool := (l.take 100).all okAct && decide ((l.length : Int) ≤ top)
end Tp
namespace Tp
open Go
section
variable {l : List RPlace} {p : RPlace} {h : Handle} {a b : Nd}
theorem rhas_unused (hp : l[h.at_.toNat]? = some p) (hu : p.used = false) : rhas l h = false := by unfold rhas; rw [hp]; simp [hu]
theorem rhas_used (h0 : 0 ≤ h.at_) (hp : l[h.at_.toNat]? = some p) (hu : p.used = true) : rhas l h = ((p.turn : Int) == (h.turn : Int)) := by unfold rhas; rw [hp]; simp [h0, hu]
theorem nodeEq_keys (h : a.keys ≠ b.keys) : nodeEq a b = false := by simp [nodeEq, h]
theorem nodeEq_kids (h : a.kids ≠ b.kids) : nodeEq a b = false := by simp [nodeEq, h]
theorem nodeEq_vals (h : a.vals ≠ b.vals) : nodeEq a b = false := by simp [nodeEq, h]
theorem nodeEq_yes (h0 : a.leaf = b.leaf) (h1 : a.keys = b.keys) (h2 : a.kids = b.kids) (h3 : a.vals = b.vals) : nodeEq a b = true := by simp [nodeEq, h0, h1, h2, h3]
theorem nodeEq_len (h : a.leaf ≠ b.leaf ∨ a.keys.length ≠ b.keys.length ∨ a.kids.length ≠ b.kids.length ∨ a.vals.length ≠ b.vals.length) : nodeEq a b = false := by
  rcases h with h | h | h | h
  · simp [nodeEq, h]
  · exact nodeEq_keys fun e => h (by rw [e])
  · exact nodeEq_kids fun e => h (by rw [e])
  · exact nodeEq_vals fun e => h (by rw [e])
end
end Tp
namespace Tp
open Go
section
variable {l : List RPlace} {hs : List Handle} {h : Handle} {i : Nat}
theorem rwith_free (hh : rhas l h = true) : rwith l h.at_ ⟨false, h.turn, ⟨false, [], [], []⟩⟩ = free1 l h := rwith_put hh _
theorem freeAll_get (hall : ∀ g, g ∈ hs → rhas l g = true) {j : Nat} {p : RPlace} (hp : l[j]? = some p) :
    ∃ q, (freeAll l hs)[j]? = some q ∧ q.turn = p.turn ∧ (q.used = true ↔ p.used = true ∧ ∀ g, g ∈ hs → g.at_.toNat ≠ j) := by
  suffices H : ∀ (hs : List Handle) (m : List RPlace) (p' : RPlace), (∀ g, g ∈ hs → rhas l g = true) → m[j]? = some p' → p'.turn = p.turn →
      ∃ q, (freeAll m hs)[j]? = some q ∧ q.turn = p.turn ∧ (q.used = true ↔ p'.used = true ∧ ∀ g, g ∈ hs → g.at_.toNat ≠ j) from H hs l p hall hp rfl
  intro hs
  induction hs with
  | nil => intro m p' _ hm ht; exact ⟨p', hm, ht, by simp⟩
  | cons g hs ih =>
    intro m p' hall hm ht
    obtain ⟨q0, hq0, hu0, ht0, _, _⟩ := rhas_place (hall g (by simp))
    have hlt := (List.getElem?_eq_some_iff.1 hm).1
    by_cases e : g.at_.toNat = j
    · have hm1 : (free1 m g)[j]? = some ⟨false, g.turn, ndZero⟩ := by unfold free1; rw [List.getElem?_set, if_pos e, e]; simp [hlt]
      have htg : g.turn = p.turn := by rw [e, hp] at hq0; cases hq0; exact ht0.symm
      obtain ⟨q, h1, h2, h3⟩ := ih (free1 m g) _ (fun x hx => hall x (by simp [hx])) hm1 htg
      refine ⟨q, h1, h2, ?_⟩
      rw [h3]; simp [e]
    · have hm1 : (free1 m g)[j]? = some p' := by unfold free1; rw [List.getElem?_set, if_neg e]; exact hm
      obtain ⟨q, h1, h2, h3⟩ := ih (free1 m g) _ (fun x hx => hall x (by simp [hx])) hm1 ht
      refine ⟨q, h1, h2, ?_⟩
      rw [h3]; simp [e]
theorem rhas_freeAll (ho : freeOkTo l hs i) : rhas (freeAll l (hs.take i)) h = (rhas l h && !decide (h ∈ hs.take i)) := by
  have hall : ∀ g, g ∈ hs.take i → rhas l g = true := fun g hg => by
    obtain ⟨j, hj⟩ := List.getElem?_of_mem hg
    rw [List.getElem?_take] at hj
    split at hj
    · rename_i hlt; exact (ho j g hlt hj).1
    · cases hj
  rw [Bool.eq_iff_iff]
  simp only [Bool.and_eq_true, Bool.not_eq_true', decide_eq_false_iff_not]
  constructor
  · intro hh
    obtain ⟨q, hq, hu, ht, h0, _⟩ := rhas_place hh
    have hlt := (List.getElem?_eq_some_iff.1 hq).1
    rw [freeAll_len] at hlt
    obtain ⟨q', h1, h2, h3⟩ := freeAll_get hall (List.getElem?_eq_getElem hlt)
    rw [hq] at h1; cases h1
    obtain ⟨h4, h5⟩ := h3.1 hu
    exact ⟨rhas_iff.2 ⟨h0, _, List.getElem?_eq_getElem hlt, h4, by rw [← h2]; exact ht⟩, fun hm => h5 h hm rfl⟩
  · rintro ⟨hh, hn⟩
    obtain ⟨p, hp, hu, ht, h0, _⟩ := rhas_place hh
    obtain ⟨q, h1, h2, h3⟩ := freeAll_get hall hp
    refine rhas_iff.2 ⟨h0, q, h1, h3.2 ⟨hu, fun g hg e => hn ?_⟩, by rw [h2]; exact ht⟩
    obtain ⟨p', hp', _, ht', h0', _⟩ := rhas_place (hall g hg)
    rw [e, hp] at hp'; cases hp'
    have : g = h := handle_ext (by omega) (by rw [← ht', ht])
    rw [← this]; exact hg
end
end Tp
namespace Tp
section
variable {l : List AAct} {a : AAct} {i : Nat} {top : Int} {s : ByteArray}
theorem few_bad (hi : l[i]? = some a) (h : i < 100) (ho : okAct a = false) : fewB l top = false := by
  have : (l.take 100).all okAct = false := by
    rw [List.all_eq_false]
    exact ⟨a, List.mem_of_getElem? (i := i) (by rw [List.getElem?_take, if_pos h]; exact hi), by simp [ho]⟩
  simp [fewB, this]
theorem few_end (hinv : ∀ (j : Nat) (a : AAct), j < i → l[j]? = some a → okAct a = true) (h : l.length ≤ i ∨ 100 ≤ i) : fewB l top = decide ((l.length : Int) ≤ top) := by
  have : (l.take 100).all okAct = true := by
    rw [List.all_eq_true]
    intro a ha
    obtain ⟨j, hj⟩ := List.getElem?_of_mem ha
    rw [List.getElem?_take] at hj
    split at hj
    · have := (List.getElem?_eq_some_iff.1 hj).1
      exact hinv j a (by omega) hj
    · cases hj
  simp [fewB, this]
theorem few_step (hinv : ∀ (j : Nat) (a : AAct), j < i → l[j]? = some a → okAct a = true) (hi : l[i]? = some a) (ho : okAct a = true) : ∀ (j : Nat) (a : AAct), j < i + 1 → l[j]? = some a → okAct a = true := fun j b hj hb => by
  rcases Nat.lt_or_ge j i with h | h
  · exact hinv j b h hb
  · have : j = i := by omega
    subst this; rw [hi] at hb; cases hb; exact ho
theorem okAct_no (h : 10 < a.node.keys.length ∨ 10 < a.node.kids.length ∨ 10 < a.node.vals.length ∨ 6 < a.hs.length) : okAct a = false := by
  unfold okAct
  rcases h with h | h | h | h
  · simp [show ¬ a.node.keys.length ≤ 10 by omega]
  · simp [show ¬ a.node.kids.length ≤ 10 by omega]
  · simp [show ¬ a.node.vals.length ≤ 10 by omega]
  · simp [show ¬ a.hs.length ≤ 6 by omega]
theorem okAct_key (hk : a.node.keys[i]? = some s) (h : 40 < s.size) : okAct a = false := by
  unfold okAct
  have : (a.node.keys.all fun k => decide (k.size ≤ 40)) = false := by
    rw [List.all_eq_false]
    exact ⟨s, List.mem_of_getElem? hk, by simp; omega⟩
  rw [this]; simp
theorem okAct_yes (h1 : a.node.keys.length ≤ 10) (h2 : a.node.kids.length ≤ 10) (h3 : a.node.vals.length ≤ 10) (h4 : a.hs.length ≤ 6) (hinv : ∀ (j : Nat) (s : ByteArray), j < i → a.node.keys[j]? = some s → s.size ≤ 40) (h5 : a.node.keys.length ≤ i) : okAct a = true := by
  unfold okAct
  have : (a.node.keys.all fun k => decide (k.size ≤ 40)) = true := by
    rw [List.all_eq_true]
    intro s hs
    obtain ⟨j, hj⟩ := List.getElem?_of_mem hs
    have := (List.getElem?_eq_some_iff.1 hj).1
    simpa using hinv j s (by omega) hj
  simp [h1, h2, h3, h4, this]
end
/-- an act, on the arena -/
def stepA (l : List RPlace) (x : AAct) : List RPlace :=
  if pickI x.do_ 4 = 2 then (rput l (firstH x.hs) x.node).1 else if pickI x.do_ 4 = 3 then (rfree l x.hs).1 else (rmake l x.node).1
end Tp
namespace Tp
theorem okAct_sizes {a : AAct} (h : okAct a = true) : a.node.keys.length ≤ 10 ∧ a.node.kids.length ≤ 10 ∧ a.node.vals.length ≤ 10 ∧ a.hs.length ≤ 6 := by
  simp only [okAct, Bool.and_eq_true, decide_eq_true_eq] at h
  exact ⟨h.1.1.1.1, h.1.1.1.2, h.1.1.2, h.1.2⟩
end Tp
namespace Tp
theorem nodeEq_self (a : Nd) : nodeEq a a = true := nodeEq_yes rfl rfl rfl rfl
theorem rused_has {l : List RPlace} {i : Nat} {x : Handle} (h : (rused l)[i]? = some x) : rhas l x = true := by
  have hm := List.mem_of_getElem? h
  simp only [rused, usedTo, List.mem_flatMap, List.mem_range] at hm
  obtain ⟨j, hj, hx⟩ := hm
  have hp : l[j]? = some l[j] := List.getElem?_eq_getElem hj
  cases hu : l[j].used with
  | false => rw [used1_no hp hu] at hx; cases hx
  | true =>
    rw [used1_yes hp hu] at hx
    simp at hx; subst hx
    rw [rhas_self hp]; exact hu
theorem rused_len (l : List RPlace) : (rused l).length = usedN l := by
  have key : ∀ i, i ≤ l.length → (usedTo l i).length = (l.take i).countP (·.used) := by
    intro i
    induction i with
    | zero => intro _; simp [usedTo]
    | succ i ih =>
      intro hi
      have hl : i < l.length := by omega
      rw [usedTo_succ, List.length_append, ih (by omega), List.take_succ_eq_append_getElem hl, List.countP_append]
      have hp : l[i]? = some l[i] := List.getElem?_eq_getElem hl
      cases hu : l[i].used with
      | false => rw [used1_no hp hu]; simp [hu]
      | true => rw [used1_yes hp hu]; simp [hu]
  have := key l.length (Nat.le_refl _)
  rw [List.take_length] at this
  exact this
end Tp
namespace Tp
theorem rget_small {l : List RPlace} (hA : SmallA l) (h : Handle) : (rget l h).1.keys.length ≤ 1000000 ∧ (rget l h).1.kids.length ≤ 1000000 ∧ (rget l h).1.vals.length ≤ 1000000 := by
  unfold rget rnode
  split
  · split
    · rename_i p hp
      obtain ⟨_, _, h1, h2, h3⟩ := hA.2 _ _ hp
      exact ⟨h1, h2, h3⟩
    · simp [ndZero]
  · simp [ndZero]
end Tp
namespace Tp
/-! ### Sizes along the acts -/
def Grow (k : Nat) (l : List RPlace) : Prop := l.length ≤ k ∧ ∀ (i : Nat) (p : RPlace), l[i]? = some p → 0 ≤ p.turn ∧ p.turn ≤ k ∧ p.node.keys.length ≤ 10 ∧ p.node.kids.length ≤ 10 ∧ p.node.vals.length ≤ 10
theorem Grow.small {k : Nat} {l : List RPlace} (h : Grow k l) (hk : k ≤ 1000000) : SmallA l :=
  ⟨Nat.le_trans h.1 hk, fun i p hp => by
    obtain ⟨h1, h2, h3, h4, h5⟩ := h.2 i p hp
    exact ⟨h1, by omega, by omega, by omega, by omega⟩⟩
theorem Grow.nil : Grow 0 [] := ⟨Nat.le_refl _, fun i p h => by simp at h⟩
theorem Grow.up {k k' : Nat} {l : List RPlace} (h : Grow k l) (hk : k ≤ k') : Grow k' l := ⟨Nat.le_trans h.1 hk, fun i p hp => by
    obtain ⟨h1, h2, h3⟩ := h.2 i p hp
    exact ⟨h1, by omega, h3⟩⟩
theorem Grow.set {k i : Nat} {l : List RPlace} {q : RPlace} (h : Grow k l) (h1 : 0 ≤ q.turn) (h2 : q.turn ≤ k) (h3 : q.node.keys.length ≤ 10 ∧ q.node.kids.length ≤ 10 ∧ q.node.vals.length ≤ 10) : Grow k (l.set i q) := by
  refine ⟨by rw [List.length_set]; exact h.1, fun j p hp => ?_⟩
  rw [List.getElem?_set] at hp
  split at hp
  · split at hp
    · cases hp; exact ⟨h1, h2, h3⟩
    · cases hp
  · exact h.2 j p hp
theorem Grow.make {k : Nat} {l : List RPlace} {n : Nd} (h : Grow k l) (h3 : n.keys.length ≤ 10 ∧ n.kids.length ≤ 10 ∧ n.vals.length ≤ 10) : Grow (k + 1) (rmake l n).1 := by
  unfold rmake
  split
  · rename_i p hp
    obtain ⟨h1, h2, _⟩ := h.2 _ p hp
    exact (h.up (Nat.le_succ k)).set (by show 0 ≤ p.turn + 1; omega) (by show p.turn + 1 ≤ _; omega) h3
  · refine ⟨by have := h.1; simp; omega, fun i p hp => ?_⟩
    rcases Nat.lt_or_ge i l.length with hi | hi
    · rw [List.getElem?_append_left hi] at hp
      exact (h.up (Nat.le_succ k)).2 i p hp
    · rw [List.getElem?_append_right hi] at hp
      cases hd : i - l.length with
      | zero => rw [hd] at hp; simp at hp; subst hp; exact ⟨by simp, by simp; omega, h3⟩
      | succ m => rw [hd] at hp; simp at hp
theorem Grow.put {k : Nat} {l : List RPlace} {n : Nd} {x : Handle} (h : Grow k l) (h3 : n.keys.length ≤ 10 ∧ n.kids.length ≤ 10 ∧ n.vals.length ≤ 10) : Grow k (rput l x n).1 := by
  unfold rput
  split
  · rename_i hh
    obtain ⟨p, hp, _, ht, _, _⟩ := rhas_place hh
    obtain ⟨h1, h2, _⟩ := h.2 _ p hp
    exact h.set (by show 0 ≤ x.turn; omega) (by show x.turn ≤ _; omega) h3
  · exact h
theorem Grow.free {k : Nat} {l : List RPlace} {hs : List Handle} (h : Grow k l) : Grow k (rfree l hs).1 := by
  unfold rfree
  split
  · rename_i hf
    obtain ⟨hall, _⟩ := freeable_iff.1 hf
    clear hf
    show Grow k (freeAll l hs)
    suffices H : ∀ (hs : List Handle) (m : List RPlace), (∀ g, g ∈ hs → 0 ≤ g.turn ∧ g.turn ≤ k) → Grow k m → Grow k (freeAll m hs) from H hs l (fun g hg => by
      obtain ⟨p, hp, _, ht, _, _⟩ := rhas_place (hall g hg)
      obtain ⟨h1, h2, _⟩ := h.2 _ p hp
      omega) h
    intro hs
    induction hs with
    | nil => intro m _ hm; exact hm
    | cons g hs ih =>
      intro m hg hm
      exact ih (free1 m g) (fun x hx => hg x (by simp [hx])) (hm.set (hg g (by simp)).1 (hg g (by simp)).2 ⟨Nat.zero_le _, Nat.zero_le _, Nat.zero_le _⟩)
  · exact h
theorem Grow.step {k : Nat} {l : List RPlace} {x : AAct} (h : Grow k l) (hx : okAct x = true) : Grow (k + 1) (stepA l x) := by
  obtain ⟨h1, h2, h3, _⟩ := okAct_sizes hx
  unfold stepA
  split
  · exact (h.put ⟨h1, h2, h3⟩).up (Nat.le_succ k)
  · split
    · exact h.free.up (Nat.le_succ k)
    · exact h.make ⟨h1, h2, h3⟩
end Tp
namespace Tp
/-- the arena behind so many acts -/
def stepsTo (xs : List AAct) (i : Nat) : List RPlace := (xs.take i).foldl stepA []
theorem stepsTo_succ {xs : List AAct} {i : Nat} {x : AAct} (h : xs[i]? = some x) : stepsTo xs (i + 1) = stepA (stepsTo xs i) x := by
  unfold stepsTo; rw [← take_snoc h]; simp
theorem few_ok {l : List AAct} {top : Int} (h : fewB l top = true) (ht : top ≤ 100) {i : Nat} {a : AAct} (hi : l[i]? = some a) : okAct a = true := by
  simp only [fewB, Bool.and_eq_true, decide_eq_true_eq, List.all_eq_true] at h
  refine h.1 a (List.mem_of_getElem? (i := i) ?_)
  have := (List.getElem?_eq_some_iff.1 hi).1
  rw [List.getElem?_take, if_pos (by omega)]; exact hi
theorem few_len {l : List AAct} {top : Int} (h : fewB l top = true) : (l.length : Int) ≤ top := by
  simp only [fewB, Bool.and_eq_true, decide_eq_true_eq] at h; exact h.2
end Tp
namespace Tp
open Go
theorem repL_nil {α : Type} {T : Ty α} {w : World} : RepL T [] [] w := ⟨by simp, fun i x h => by simp at h⟩
theorem repS_blk {α : Type} (T : Ty α) {w : World} {b : Nat} {c : Array Value} {e : TypeId} {fz : Nat × Nat} {n : Nat} {cs : List Value} {xs : List α} (h : w.heap[b]? = some (.cells c e fz)) (hc : c.toList = cs) (hn : n ≤ maxLen) (hl : RepL T cs xs w) (hx : xs.length = n := by rfl) : RepS T (.slice (some ⟨b, 0, none⟩) n n) xs w := by
  subst hx
  exact ⟨cs, hc ▸ SlAt.of_blk h (by rw [← Array.length_toList, hc]; exact hl.1) hn, hl⟩
theorem act_rep {kv dv vv hv : Value} {d : Int} {n : Nd} {hs : List Handle} {w : World} (h1 : SlAt 1 kv n.keys.length (n.keys.flatMap strE) w) (h2 : SlAt 2 dv n.kids.length (n.kids.flatMap handleE) w) (h3 : SlAt 1 vv n.vals.length (n.vals.flatMap intE) w)
    (h4 : SlAt 2 hv hs.length (hs.flatMap handleE) w) : ActT.rep [.int .i64 d, .bool n.leaf, kv, dv, vv, hv] ⟨d, n, hs⟩ w := ⟨kv, dv, vv, hv, rfl, ⟨h1, h2, h3⟩, h4⟩
end Tp
