/- The law of turns: handles that are gone stay gone. -/
import Derived.Test.YtdaafologmjeeaaTpLaw11
import Derived.Test.YtdaafologmjeeaaTpOps2
namespace Tp
open Go
theorem pickI_bounds {i n : Int} (h : 0 < n) : 0 ≤ pickI i n ∧ pickI i n < n := by
  unfold pickI
  rw [if_neg (by omega)]
  have h1 := tmod_bounds (a := i) h
  have h2 : 0 ≤ i.tmod n + n := by omega
  rw [Int.tmod_eq_emod_of_nonneg h2]
  exact ⟨Int.emod_nonneg _ (by omega), Int.emod_lt_of_pos _ h⟩
/-- what holds of an arena behind i calls, and of the handles that are gone -/
def TInv (i : Nat) (l : List RPlace) (gs : List Handle) : Prop :=
  Grow i l ∧ gs.length ≤ i ∧ ∀ g, g ∈ gs → 0 ≤ g.at_ ∧ ∃ p, l[g.at_.toNat]? = some p ∧ g.turn ≤ p.turn ∧ (p.used = true → g.turn < p.turn)
section
variable {i : Nat} {l : List RPlace} {gs : List Handle} {g h : Handle} {n : Nd}
theorem TInv.nil : TInv 0 [] [] := ⟨Grow.nil, Nat.le_refl _, fun g h => by cases h⟩
theorem TInv.has (H : TInv i l gs) (hg : g ∈ gs) : rhas l g = false := by
  obtain ⟨_, p, hp, h1, h2⟩ := H.2.2 g hg
  cases hh : rhas l g with
  | false => rfl
  | true =>
    obtain ⟨q, hq, hu, ht, _⟩ := rhas_place hh
    rw [hp] at hq; cases hq
    have := h2 hu; omega
theorem TInv.make (H : TInv i l gs) (hn : n.keys.length ≤ 10 ∧ n.kids.length ≤ 10 ∧ n.vals.length ≤ 10) : TInv (i + 1) (rmake l n).1 gs := by
  refine ⟨H.1.make hn, Nat.le_succ_of_le H.2.1, fun g hg => ?_⟩
  obtain ⟨h0, p, hp, h1, h2⟩ := H.2.2 g hg
  refine ⟨h0, ?_⟩
  have hlt := (List.getElem?_eq_some_iff.1 hp).1
  unfold rmake
  split
  · rename_i q hq
    by_cases e : leastF l = g.at_.toNat
    · rw [e] at hq; rw [hp] at hq; cases hq
      refine ⟨⟨true, p.turn + 1, n⟩, ?_, by simp; omega, by simp; omega⟩
      rw [e]; simp [hlt]
    · exact ⟨p, by show (l.set (leastF l) _)[g.at_.toNat]? = some p; rw [List.getElem?_set, if_neg e]; exact hp, h1, h2⟩
  · exact ⟨p, by show (l ++ [_])[g.at_.toNat]? = some p; rw [List.getElem?_append_left hlt]; exact hp, h1, h2⟩
theorem TInv.fresh (H : TInv i l gs) (hg : g ∈ gs) : g ≠ (rmake l n).2 := by
  obtain ⟨h0, p, hp, h1, h2⟩ := H.2.2 g hg
  have hlt := (List.getElem?_eq_some_iff.1 hp).1
  unfold rmake
  split
  · rename_i q hq
    intro e
    rw [e] at hp h1
    simp only [Int.toNat_natCast] at hp h1
    rw [hq] at hp; cases hp
    omega
  · rename_i hq
    intro e
    rw [e] at hlt
    rw [List.getElem?_eq_none_iff] at hq
    simp only [Int.toNat_natCast] at hlt
    omega
theorem TInv.free (H : TInv i l gs) (hh : rhas l h = true) : TInv (i + 1) (free1 l h) (gs ++ [h]) := by
  obtain ⟨q, hq, hu, ht, h0, hlt⟩ := rhas_place hh
  obtain ⟨t1, t2, _⟩ := H.1.2 _ q hq
  refine ⟨(H.1.set (by show 0 ≤ h.turn; omega) (by show h.turn ≤ _; omega) ⟨Nat.zero_le _, Nat.zero_le _, Nat.zero_le _⟩).up (Nat.le_succ i), by simp; exact H.2.1, fun g hg => ?_⟩
  rcases List.mem_append.1 hg with hg | hg
  · obtain ⟨h3, p, hp, h1, h2⟩ := H.2.2 g hg
    refine ⟨h3, ?_⟩
    unfold free1
    by_cases e : h.at_.toNat = g.at_.toNat
    · rw [← e] at hp; rw [hq] at hp; cases hp
      exact ⟨⟨false, h.turn, ndZero⟩, by rw [← e]; simp [hlt], by simp; omega, by simp⟩
    · exact ⟨p, by rw [List.getElem?_set, if_neg e]; exact hp, h1, h2⟩
  · simp at hg; subst hg
    exact ⟨h0, ⟨false, g.turn, ndZero⟩, by unfold free1; simp [hlt], Int.le_refl _, by simp⟩
theorem rfree_one (hh : rhas l h = true) : rfree l [h] = (free1 l h, 0) := by
  rw [rfree_hit (by simp [freeable, hh])]; rfl
theorem rfree_gone (hh : rhas l h = true) : rfree (free1 l h) [h] = (free1 l h, 110) := by
  obtain ⟨q, hq, hu, ht, h0, hlt⟩ := rhas_place hh
  refine rfree_miss ?_
  have : rhas (free1 l h) h = false := by
    unfold rhas free1; simp [hlt]
  simp [freeable, this]
theorem rused_at {x : Handle} {k : Nat} (hx : (rused l)[k]? = some x) : x.at_ ≠ (rmake l n).2.at_ := by
  obtain ⟨p, hp, hu, _, h0, hlt⟩ := rhas_place (rused_has hx)
  unfold rmake
  split
  · rename_i q hq
    intro e
    simp only at e
    rw [e] at hp
    simp only [Int.toNat_natCast] at hp
    rw [hq] at hp; cases hp
    rw [leastF_free hq] at hu; cases hu
  · rename_i hq
    intro e
    simp only at e
    rw [e] at hlt
    rw [List.getElem?_eq_none_iff] at hq
    simp only [Int.toNat_natCast] at hlt
    omega
theorem rmake_has : rhas (rmake l n).1 (rmake l n).2 = true := by
  refine rhas_iff.2 ?_
  unfold rmake
  split
  · rename_i q hq
    have hlt := (List.getElem?_eq_some_iff.1 hq).1
    exact ⟨by simp, ⟨true, q.turn + 1, n⟩, by simp [hlt], rfl, rfl⟩
  · rename_i hq
    have := leastF_le (l := l)
    rw [List.getElem?_eq_none_iff] at hq
    have e : leastF l = l.length := by omega
    exact ⟨by simp, ⟨true, 1, n⟩, by simp [e], rfl, rfl⟩
theorem rmake_get : rget (rmake l n).1 (rmake l n).2 = (n, 0) := by
  have hh := rmake_has (l := l) (n := n)
  obtain ⟨p, hp, _⟩ := rhas_place hh
  rw [rget_hit hh hp]
  unfold rmake at hp
  split at hp
  · rename_i q hq
    have hlt := (List.getElem?_eq_some_iff.1 hq).1
    simp [hlt] at hp; rw [← hp]
  · rename_i hq
    have := leastF_le (l := l)
    rw [List.getElem?_eq_none_iff] at hq
    have e : leastF l = l.length := by omega
    simp [e] at hp; rw [← hp]
theorem usedN_le : usedN l ≤ l.length := List.countP_le_length
theorem usedN_all (h : l.length ≤ leastF l) : usedN l = l.length := by
  have h2 := leastF_le (l := l)
  have h1 : leastF l = l.length := by omega
  unfold leastF at h1
  rw [List.findIdx_eq_length] at h1
  unfold usedN
  rw [List.countP_eq_length]
  intro p hp
  simpa using h1 p hp
/-- the greatest number of used nodes is the number of places -/
theorem most_make : max (l.length : Int) (usedN (rmake l n).1 : Int) = ((rmake l n).1.length : Int) := by
  have h1 := usedN_le (l := (rmake l n).1)
  unfold rmake at h1 ⊢
  split
  · rename_i q hq
    rw [hq] at h1
    simp only [List.length_set] at h1 ⊢
    omega
  · rename_i hq
    rw [List.getElem?_eq_none_iff] at hq
    have := usedN_all hq
    unfold usedN at this ⊢
    simp only [List.countP_append, this, List.length_append]
    simp
    omega
theorem most_free : max (l.length : Int) (usedN (free1 l h) : Int) = ((free1 l h).length : Int) := by
  have h1 := usedN_le (l := free1 l h)
  rw [free1_len] at h1 ⊢
  omega
end
end Tp
namespace Tp
open Go
/-- an element of a row of acts, whose cells lie elsewhere -/
theorem act_open_own {F X : Nat → Prop} {w0 w : World} {L : List Chunk} {R : List (World → Prop)} {cs : List Value} {xs : List AAct} {i : Nat} {p : AAct} (M : Mem F X w0 L R w) (k : Nat)
    (hk : R[k]? = some (RepL ActT cs xs)) (hx : xs[i]? = some p) :
    ∃ kv dv vv hv, (cs.drop (i * 6)).take 6 = [.int .i64 p.do_, .bool p.node.leaf, kv, dv, vv, hv] ∧ Mem F X w0 L (SlAt 1 kv p.node.keys.length (p.node.keys.flatMap strE) :: SlAt 2 dv p.node.kids.length (p.node.kids.flatMap handleE) ::
      SlAt 1 vv p.node.vals.length (p.node.vals.flatMap intE) :: SlAt 2 hv p.hs.length (p.hs.flatMap handleE) :: R) w := by
  obtain ⟨kv, dv, vv, hv, hcs, _⟩ := (M.rep k hk).2 i p hx
  have get : ∀ w, RepL ActT cs xs w → NodeC kv dv vv p.node w ∧ SlAt 2 hv p.hs.length (p.hs.flatMap handleE) w := fun w h => by
    obtain ⟨kv', dv', vv', hv', hcs', h'⟩ := h.2 i p hx
    rw [hcs] at hcs'
    simp only [List.cons.injEq, true_and, and_true] at hcs'
    obtain ⟨rfl, rfl, rfl, rfl⟩ := hcs'
    exact h'
  refine ⟨kv, dv, vv, hv, hcs, ?_⟩
  have M0 := M.add ((M.shr k hk).imp fun w h => (get w h).2)
  have M1 := M0.add ((M.shr k hk).imp fun w h => (get w h).1.2.2)
  have M2 := M1.add ((M.shr k hk).imp fun w h => (get w h).1.2.1)
  exact M2.add ((M.shr k hk).imp fun w h => (get w h).1.1)
end Tp
