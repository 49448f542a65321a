/- Proved here: lemmas and walks on which the claim stands (part 3 of 6). No condition. -/
import Derived.Test.YtnlnpfpfggbheaaSn2
import Derived.Laws.BytesArg
import Derived.OpenShut
import Derived.ChangeMaps5
import Derived.Test.YtnlnpfpfggbheaaChecked
set_option linter.all false
namespace Tp
open Go
def hitOf (n : Nd) (i : Nat) : THit := ⟨n.keys.getD i default, n.vals.getD i 0⟩
def leastT : Nat → List RPlace → Handle → (ByteArray → Bool) → THit × Bool → THit × Bool
  | d, l, h, p, b =>
    let n := (rget l h).1
    let i := n.keys.findIdx p
    let b' := if i < n.keys.length then (hitOf n i, true) else b
    if n.leaf then b' else match d with
      | 0 => b'
      | d + 1 => leastT d l (n.kids.getD i hdZero) p b'
def endI (ks : List ByteArray) (p : ByteArray → Bool) : Nat := ks.length - ks.reverse.findIdx p
def greatT : Nat → List RPlace → Handle → (ByteArray → Bool) → THit × Bool → THit × Bool
  | d, l, h, p, b =>
    let n := (rget l h).1
    let i := endI n.keys p
    let b' := if 0 < i then (hitOf n (i - 1), true) else b
    if n.leaf then b' else match d with
      | 0 => b'
      | d + 1 => greatT d l (n.kids.getD i hdZero) p b'
def firstL (l : List THit) (p : ByteArray → Bool) (b : THit × Bool) : THit × Bool := match l.find? (fun a => p a.key) with | some a => (a, true) | none => b
def lastL (l : List THit) (p : ByteArray → Bool) (b : THit × Bool) : THit × Bool := firstL l.reverse p b
section
variable {l : List RPlace} {d lo : Nat} {p : ByteArray → Bool} {P Q R ks : List THit} {b : THit × Bool} {z : THit}
theorem firstL_skip (h : ∀ a, a ∈ P → p a.key = false) : firstL (P ++ Q) p b = firstL Q p b := by
  unfold firstL
  rw [List.find?_append, List.find?_eq_none.2 (fun a ha => by simp [h a ha])]
  rfl
theorem firstL_app : firstL (P ++ Q) p b = firstL P p (firstL Q p b) := by
  unfold firstL
  rw [List.find?_append]
  cases List.find? (fun a => p a.key) P <;> rfl
theorem firstL_hit (h : p z.key = true) : firstL (z :: Q) p b = (z, true) := by unfold firstL; simp [h]
theorem firstL_nil : firstL [] p b = b := rfl
theorem firstL_none (h : ∀ a, a ∈ P → p a.key = false) : firstL P p b = b := by have := firstL_skip (Q := []) (b := b) h; rwa [List.append_nil] at this
def upP (p : ByteArray → Bool) : Prop := ∀ x y, sLt x y = true → p x = true → p y = true
def downP (p : ByteArray → Bool) : Prop := ∀ x y, sLt x y = true → p y = true → p x = true
theorem hitOf_node {h : Handle} {ts : List BT} {i : Nat} (hz : ks[i]? = some z) : hitOf (nodeB d (.mk h ks ts)) i = z := by
  unfold hitOf; simp [nodeB, BT.ks, List.getD, hz]
theorem split_first (ks : List THit) (p : ByteArray → Bool) : ∃ P Q, ks = P ++ Q ∧ P.length = (ks.map THit.key).findIdx p ∧ (∀ a, a ∈ P → p a.key = false) ∧ (∀ z R, Q = z :: R → p z.key = true) := by
  induction ks with
  | nil => exact ⟨[], [], rfl, rfl, (fun _ h => by cases h), (fun _ _ h => by cases h)⟩
  | cons a ks ih =>
    cases ha : p a.key with
    | true => exact ⟨[], a :: ks, rfl, by simp [List.findIdx_cons, ha], (fun _ h => by cases h), (fun z R h => by cases h; exact ha)⟩
    | false =>
      obtain ⟨P, Q, h1, h2, h3, h4⟩ := ih
      refine ⟨a :: P, Q, by rw [h1]; rfl, by simp [List.findIdx_cons, ha, h2], fun x hx => ?_, h4⟩
      rcases List.mem_cons.1 hx with rfl | hx
      · exact ha
      · exact h3 x hx
theorem least_ok (hp : upP p) : ∀ {d lo : Nat} {t : BT} {b : THit × Bool}, HoldsB l d t → okB lo d t → upT (flatB d t) → leastT d l t.h p b = firstL (flatB d t) p b := by
  intro d
  induction d with
  | zero =>
    intro lo t b H ho hu
    obtain ⟨h, ks, ts⟩ := t
    have hg : (rget l h).1 = nodeB 0 (.mk h ks ts) := by rw [atA_get (holds_mk.1 H).1]
    unfold leastT
    simp only [BT.h, hg, nodeB_keys, nodeB_leaf, List.length_map, beq_self_eq_true, if_true]
    obtain ⟨P, Q, rfl, hP, h3, h4⟩ := split_first ks p
    rw [← hP]
    show _ = firstL (P ++ Q) p b
    rw [firstL_skip h3]
    cases Q with
    | nil => rw [if_neg (by simp)]; rfl
    | cons z R => rw [if_pos (by simp), hitOf_node (z := z) (by simp), firstL_hit (h4 z R rfl)]
  | succ d ih =>
    intro lo t b H ho hu
    obtain ⟨h, ks, ts⟩ := t
    have hg : (rget l h).1 = nodeB (d + 1) (.mk h ks ts) := by rw [atA_get (holds_mk.1 H).1]
    obtain ⟨o1, o2, o3⟩ := ok_mk.1 ho
    have hd0 : ((d + 1 == 0) = true) ↔ False := by simp
    unfold leastT
    simp only [BT.h, hg, nodeB_keys, nodeB_leaf, List.length_map, hd0, if_false]
    obtain ⟨P, Q, rfl, hP, h3, h4⟩ := split_first ks p
    obtain ⟨A, c, B, rfl, hA, hB, hf⟩ := flat_at (h := h) o3
    have hc := kid_at (holds_mk.1 H).1 (i := P.length) hA
    rw [hg] at hc
    rw [← hP, hc, hf]
    rw [hf] at hu
    have hpre : ∀ a, a ∈ preW (A.map (flatB d)) P → p a.key = false := by
      rcases List.eq_nil_or_concat P with rfl | ⟨P', z, rfl⟩
      · have : A = [] := List.eq_nil_of_length_eq_zero (by simpa using hA)
        subst this; intro a ha; simp [preW] at ha
      · rw [List.concat_eq_append] at *
        have hz := h3 z (by simp)
        obtain ⟨A', a', rfl⟩ : ∃ A' a', A = A' ++ [a'] := ⟨A.dropLast, A.getLast (by rintro rfl; simp at hA), (List.dropLast_concat_getLast _).symm⟩
        have hA' : A'.length = P'.length := by simpa using hA
        rw [List.map_append, List.map_cons, List.map_nil, preW_snoc (by simpa using hA'), ← List.append_assoc] at hu ⊢
        have hu2 := (upT_app.1 (upT_app.1 hu).1).1
        intro a ha
        rcases List.mem_append.1 ha with ha | ha
        · have hlt := (upT_app.1 hu2).2.2 a ha z (by simp)
          cases hpa : p a.key with
          | false => rfl
          | true => rw [hp _ _ hlt hpa] at hz; cases hz
        · rw [List.mem_singleton.1 ha]; exact hz
    have hcu : upT (flatB d c) := mid_up hu
    rw [ih ((holds_mk.1 H).2 c (by simp)) (o3.2 c (by simp)) hcu, List.append_assoc, firstL_skip hpre, firstL_app]
    congr 1
    cases Q with
    | nil =>
      have : B = [] := List.eq_nil_of_length_eq_zero (by simpa using hB)
      subst this
      rw [if_neg (by simp)]; rfl
    | cons z R =>
      obtain ⟨b', B', rfl⟩ : ∃ b' B', B = b' :: B' := by cases B with | nil => simp at hB | cons b' B' => exact ⟨b', B', rfl⟩
      rw [if_pos (by simp), hitOf_node (z := z) (by simp), List.map_cons, sufW_cons, firstL_hit (h4 z R rfl)]
theorem lastL_app : lastL (P ++ Q) p b = lastL Q p (lastL P p b) := by unfold lastL; rw [List.reverse_append, firstL_app]
theorem lastL_none (h : ∀ a, a ∈ P → p a.key = false) : lastL P p b = b := firstL_none fun a ha => h a (List.mem_reverse.1 ha)
theorem lastL_hit (h : p z.key = true) : lastL (P ++ [z]) p b = (z, true) := by unfold lastL; rw [List.reverse_append]; exact firstL_hit h
theorem split_last (ks : List THit) (p : ByteArray → Bool) : ∃ P Q, ks = P ++ Q ∧ P.length = endI (ks.map THit.key) p ∧ (∀ a, a ∈ Q → p a.key = false) ∧ (∀ R z, P = R ++ [z] → p z.key = true) := by
  obtain ⟨P, Q, h1, h2, h3, h4⟩ := split_first ks.reverse p
  refine ⟨Q.reverse, P.reverse, ?_, ?_, fun a ha => h3 a (List.mem_reverse.1 ha), fun R z h => ?_⟩
  · have := congrArg List.reverse h1; rwa [List.reverse_reverse, List.reverse_append] at this
  · unfold endI
    rw [← List.map_reverse, ← h2, List.length_reverse, List.length_map]
    have := congrArg List.length h1; simp at this; omega
  · have := congrArg List.reverse h; rw [List.reverse_reverse, List.reverse_append] at this
    exact h4 z _ this
theorem great_ok (hp : downP p) : ∀ {d lo : Nat} {t : BT} {b : THit × Bool}, HoldsB l d t → okB lo d t → upT (flatB d t) → greatT d l t.h p b = lastL (flatB d t) p b := by
  intro d
  induction d with
  | zero =>
    intro lo t b H ho hu
    obtain ⟨h, ks, ts⟩ := t
    have hg : (rget l h).1 = nodeB 0 (.mk h ks ts) := by rw [atA_get (holds_mk.1 H).1]
    unfold greatT
    simp only [BT.h, hg, nodeB_keys, nodeB_leaf, beq_self_eq_true, if_true]
    obtain ⟨P, Q, rfl, hP, h3, h4⟩ := split_last ks p
    rw [← hP]
    show _ = lastL (P ++ Q) p b
    rw [lastL_app, lastL_none h3]
    rcases List.eq_nil_or_concat P with rfl | ⟨R, z, rfl⟩
    · rw [if_neg (by simp)]; rfl
    · rw [List.concat_eq_append] at *
      rw [if_pos (by simp), hitOf_node (z := z) (by simp), lastL_hit (h4 R z rfl)]
  | succ d ih =>
    intro lo t b H ho hu
    obtain ⟨h, ks, ts⟩ := t
    have hg : (rget l h).1 = nodeB (d + 1) (.mk h ks ts) := by rw [atA_get (holds_mk.1 H).1]
    obtain ⟨o1, o2, o3⟩ := ok_mk.1 ho
    have hd0 : ((d + 1 == 0) = true) ↔ False := by simp
    unfold greatT
    simp only [BT.h, hg, nodeB_keys, nodeB_leaf, hd0, if_false]
    obtain ⟨P, Q, rfl, hP, h3, h4⟩ := split_last ks p
    obtain ⟨A, c, B, rfl, hA, hB, hf⟩ := flat_at (h := h) o3
    have hc := kid_at (holds_mk.1 H).1 (i := P.length) hA
    rw [hg] at hc
    rw [← hP, hc, hf]
    rw [hf] at hu
    have hsuf : ∀ a, a ∈ sufW Q (B.map (flatB d)) → p a.key = false := by
      cases Q with
      | nil => intro a ha; simp [sufW] at ha
      | cons z R =>
        obtain ⟨b', B', rfl⟩ : ∃ b' B', B = b' :: B' := by cases B with | nil => simp at hB | cons b' B' => exact ⟨b', B', rfl⟩
        have hz := h3 z (by simp)
        rw [List.map_cons, sufW_cons] at hu ⊢
        have hu2 := upT_cons.1 (upT_app.1 hu).2.1
        intro a ha
        rcases List.mem_cons.1 ha with rfl | ha
        · exact hz
        · cases hpa : p a.key with
          | false => rfl
          | true => rw [hp _ _ (hu2.1 a ha) hpa] at hz; cases hz
    have hcu : upT (flatB d c) := mid_up hu
    rw [ih ((holds_mk.1 H).2 c (by simp)) (o3.2 c (by simp)) hcu, lastL_app, lastL_none hsuf, lastL_app]
    congr 1
    rcases List.eq_nil_or_concat P with rfl | ⟨R, z, rfl⟩
    · have : A = [] := List.eq_nil_of_length_eq_zero (by simpa using hA)
      subst this
      rw [if_neg (by simp)]; rfl
    · rw [List.concat_eq_append] at *
      obtain ⟨A', a', rfl⟩ : ∃ A' a', A = A' ++ [a'] := ⟨A.dropLast, A.getLast (by rintro rfl; simp at hA), (List.dropLast_concat_getLast _).symm⟩
      have hA' : A'.length = R.length := by simpa using hA
      rw [if_pos (by simp), hitOf_node (z := z) (by simp), List.map_append, List.map_cons, List.map_nil, preW_snoc (by simpa using hA'), ← List.append_assoc, lastL_hit (h4 R z rfl)]
end
end Tp
namespace Tp
open Go
structure TPl where
  depth : Int
  leaf : Bool
  keys : List ByteArray
deriving Inhabited
def placesB : Nat → BT → Int → List TPl
  | 0, t, q => [⟨q, true, t.ks.map THit.key⟩]
  | d + 1, t, q => ⟨q, false, t.ks.map THit.key⟩ :: t.ts.flatMap fun c => placesB d c (q + 1)
end Tp
namespace Tp
open Go
def FnS (P : Program) (f : Value) (p : ByteArray → Bool) (w : World) : Prop := ∀ x : ByteArray, RetsV P f #[.string x] w fun r w' => r = .bool (p x) ∧ Old w w'
def lookOk : Nat → List RPlace → Handle → Prop
  | 0, l, h => NodeMay l (rget l h).1 ∧ (rget l h).1.leaf = true
  | d + 1, l, h => NodeMay l (rget l h).1 ∧ (rget l h).1.leaf = false ∧ (rget l h).1.kids.length = (rget l h).1.keys.length + 1 ∧ ∀ c, c ∈ (rget l h).1.kids → lookOk d l c
section
variable {l : List RPlace} {h : Handle} {n : Nd} {d lo K : Nat} {p : ByteArray → Bool} {b : THit × Bool} {c : Handle}
theorem lookOk_node (hO : lookOk d l h) (hn : (rget l h).1 = n) : tinyN n ∧ n.vals.length = n.keys.length := by
  subst hn
  cases d with
  | zero => exact ⟨hO.1.1, hO.1.2⟩
  | succ d => exact ⟨hO.1.1, hO.1.2⟩
theorem lookOk_kid (hO : lookOk d l h) (hn : (rget l h).1 = n) (hl : n.leaf = false) : ∃ e, d = e + 1 ∧ n.kids.length = n.keys.length + 1 ∧ ∀ c, c ∈ n.kids → lookOk e l c := by
  subst hn
  cases d with
  | zero => rw [hO.2] at hl; cases hl
  | succ d => exact ⟨d, rfl, hO.2.2⟩
theorem look_okW : ∀ {d lo : Nat} {t : BT}, HoldsB l d t → okB lo d t → BigA l K → lookOk d l t.h := by
  intro d
  induction d with
  | zero =>
    intro lo t H ho hB
    obtain ⟨h, ks, ts⟩ := t
    have e := (holds_mk.1 H).1
    unfold lookOk
    rw [show (BT.mk h ks ts).h = h from rfl, atA_get e]
    exact ⟨⟨hB.at e, by simp [nodeB]⟩, rfl⟩
  | succ d ih =>
    intro lo t H ho hB
    obtain ⟨h, ks, ts⟩ := t
    have e := (holds_mk.1 H).1
    obtain ⟨o1, o2, o3⟩ := ok_mk.1 ho
    unfold lookOk
    rw [show (BT.mk h ks ts).h = h from rfl, atA_get e]
    refine ⟨⟨hB.at e, by simp [nodeB]⟩, rfl, kids_len o3, fun c hc => ?_⟩
    rw [nodeB_kids, if_neg (by simp)] at hc
    obtain ⟨s, hs, rfl⟩ := List.mem_map.1 hc
    exact ih ((holds_mk.1 H).2 s hs) (o3.2 s hs) hB
theorem leastT_leaf (hn : (rget l h).1 = n) (hl : n.leaf = true) : leastT d l h p b = if n.keys.findIdx p < n.keys.length then (hitOf n (n.keys.findIdx p), true) else b := by
  subst hn; cases d <;> (unfold leastT; simp [hl])
theorem leastT_kid (hn : (rget l h).1 = n) (hl : n.leaf = false) : leastT (d + 1) l h p b = leastT d l (n.kids.getD (n.keys.findIdx p) hdZero) p (if n.keys.findIdx p < n.keys.length then (hitOf n (n.keys.findIdx p), true) else b) := by
  subst hn
  conv => lhs; unfold leastT
  simp only [hl, Bool.false_eq_true, if_false]
theorem greatT_leaf (hn : (rget l h).1 = n) (hl : n.leaf = true) : greatT d l h p b = if 0 < endI n.keys p then (hitOf n (endI n.keys p - 1), true) else b := by
  subst hn; cases d <;> (unfold greatT; simp [hl])
theorem greatT_kid (hn : (rget l h).1 = n) (hl : n.leaf = false) : greatT (d + 1) l h p b = greatT d l (n.kids.getD (endI n.keys p) hdZero) p (if 0 < endI n.keys p then (hitOf n (endI n.keys p - 1), true) else b) := by
  subst hn
  conv => lhs; unfold greatT
  simp only [hl, Bool.false_eq_true, if_false]
def noHit : THit × Bool := (⟨⟨#[]⟩, 0⟩, false)
def lookT (fu : Bool) (d : Nat) (l : List RPlace) (h : Handle) (p : ByteArray → Bool) : THit × Bool := if fu then leastT d l h p noHit else noHit
def lookG (fu : Bool) (d : Nat) (l : List RPlace) (h : Handle) (p : ByteArray → Bool) : THit × Bool := if fu then greatT d l h p noHit else noHit
theorem find_at {ks : List ByteArray} {i : Nat} {x : ByteArray} (hx : ks[i]? = some x) (hp : p x = true) (hb : ∀ j u, j < i → ks[j]? = some u → p u = false) : ks.findIdx p = i := by
  obtain ⟨h1, rfl⟩ := List.getElem?_eq_some_iff.1 hx
  exact (List.findIdx_eq h1).2 ⟨hp, fun j hj => by simpa using hb j _ hj (List.getElem?_eq_getElem (by omega))⟩
theorem find_end {ks : List ByteArray} {i : Nat} (hi : ks.length ≤ i) (hb : ∀ j u, j < i → ks[j]? = some u → p u = false) : ks.findIdx p = ks.length := by
  refine List.findIdx_eq_length.2 fun x hx => ?_
  obtain ⟨j, hj, rfl⟩ := List.mem_iff_getElem.1 hx
  simpa using hb j _ (by omega) (List.getElem?_eq_getElem hj)
theorem endI_eq {ks : List ByteArray} {i : Nat} (hi : i ≤ ks.length) (hb : ∀ j u, i ≤ j → ks[j]? = some u → p u = false) (h0 : 0 < i → ∃ u, ks[i - 1]? = some u ∧ p u = true) : endI ks p = i := by
  unfold endI
  have hb' : ∀ j u, j < ks.length - i → ks.reverse[j]? = some u → p u = false := fun j u hj hu => by
    rw [List.getElem?_reverse (by omega)] at hu
    exact hb _ u (by omega) hu
  rcases Nat.eq_zero_or_pos i with h | h
  · rw [find_end (i := ks.length - i) (by simp; omega) hb', List.length_reverse]; omega
  · obtain ⟨u, h1, h2⟩ := h0 h
    rw [find_at (i := ks.length - i) (x := u) (by rw [List.getElem?_reverse (by omega)]; rw [← h1]; congr 1; omega) h2 hb']; omega
theorem above_step {ks : List ByteArray} {i : Nat} {u : ByteArray} (hb : ∀ j u, i ≤ j → ks[j]? = some u → p u = false) (hx : ks[i - 1]? = some u) (hp : p u = false) : ∀ j u, i - 1 ≤ j → ks[j]? = some u → p u = false := by
  intro j v hj hv
  rcases Nat.lt_or_ge j i with h | h
  · have : j = i - 1 := by omega
    subst this
    rw [hx] at hv; cases hv; exact hp
  · exact hb j v h hv
theorem sLe (x k : ByteArray) : (sLt x k || x.toList == k.toList) = !(sLt k x) := by
  rw [sEq_dec]
  cases h1 : sLt x k with
  | true => rw [sLt_asymm h1]; rfl
  | false =>
    cases h2 : sLt k x with
    | true => simp; exact (sLt_ne h2).symm
    | false => simp; exact sLt_total h1 h2
theorem sGt (x k : ByteArray) : (!(sLt x k || x.toList == k.toList)) = sLt k x := by rw [sLe, Bool.not_not]
def getT (fu : Bool) (d : Nat) (l : List RPlace) (h : Handle) (k : ByteArray) : Int × Bool :=
  if (lookT fu d l h (fun (x : ByteArray) => !(sLt x k))).2 = true ∧ (lookT fu d l h (fun (x : ByteArray) => !(sLt x k))).1.key = k then ((lookT fu d l h (fun (x : ByteArray) => !(sLt x k))).1.val, true) else (0, false)
end
end Tp
namespace Tp
open Go
def delR (d : Nat) (l : List RPlace) (r : Handle) (fu : Bool) (ln : Int) (k : ByteArray) : (List RPlace × Handle) × Bool × Int := if (getT fu d l r k).2 then delT d l r fu ln k else ((l, r), fu, ln)
structure DelOk (d : Nat) (l : List RPlace) (r : Handle) (k : ByteArray) : Prop where
  rem : remOk d l r k
  small : SmallA (remF d l r k)
  kids : (rget (remF d l r k) r).1.leaf = false → 1 ≤ (rget (remF d l r k) r).1.kids.length
section
variable {l l1 : List RPlace} {d : Nat} {r c : Handle} {fu : Bool} {ln : Int} {k : ByteArray} {n : Nd}
theorem getT_no (h : (getT fu d l r k).2 = false) : (getT fu d l r k).1 = 0 := by
  unfold getT at *
  split at h
  · cases h
  · rename_i h2; rw [if_neg h2]
theorem delR_no (h : (getT fu d l r k).2 = false) : delR d l r fu ln k = ((l, r), fu, ln) := by unfold delR; simp [h]
theorem delR_keep (h : (getT fu d l r k).2 = true) (h1 : remF d l r k = l1) (hn : (rget l1 r).1 = n) (h0 : ¬ n.keys.length = 0) : delR d l r fu ln k = ((l1, r), fu, ln - 1) := by
  subst h1; subst hn; unfold delR delT; rw [if_pos h]; simp only; rw [if_neg h0]
theorem delR_leaf (h : (getT fu d l r k).2 = true) (h1 : remF d l r k = l1) (hn : (rget l1 r).1 = n) (h0 : n.keys.length = 0) (hl : n.leaf = true) : delR d l r fu ln k = (((rfree l1 [r]).1, r), false, ln - 1) := by
  subst h1; subst hn; unfold delR delT; rw [if_pos h]; simp only; rw [if_pos h0, hl]; simp
theorem delR_kid (h : (getT fu d l r k).2 = true) (h1 : remF d l r k = l1) (hn : (rget l1 r).1 = n) (h0 : n.keys.length = 0) (hl : n.leaf = false) (hc : n.kids.getD 0 hdZero = c) : delR d l r fu ln k = (((rfree l1 [r]).1, c), true, ln - 1) := by
  subst h1; subst hn; subst hc; unfold delR delT; rw [if_pos h]; simp only; rw [if_pos h0, hl]; simp
end
end Tp
namespace Tp
open Go
structure TabJ where
  ab : Nat
  rt : Handle
  fu : Bool
  ln : Int
  l : List RPlace
  S : Nat → Prop
abbrev tabL (t u e : TypeId) (tb : Nat) (i : TabJ) : List Chunk :=
  [blk tb (.cells #[.pointer (some ⟨i.ab, 0, none⟩), .int .i64 i.rt.at_, .int .i64 i.rt.turn, .bool i.fu, .int .i64 i.ln] t), arenaC u e i.S i.ab i.l]
def TabP (row : List THit) (c : Nat) (i : TabJ) : Prop := ∃ K d, TabI i.l i.rt i.fu i.ln row K d ∧ K ≤ c * 1000 ∧ row.length ≤ c
def tabC (t u e : TypeId) (S : Nat → Prop) (tb : Nat) (row : List THit) (c : Nat) : Chunk := Pack S (tabL t u e tb) (TabP row c)
def putR (l : List THit) (x : THit) : List THit := (delL l x.key).takeWhile (fun a => sLt a.key x.key) ++ x :: (delL l x.key).filter fun a => sLt x.key a.key
section
variable {l : List RPlace} {d K c : Nat} {r h : Handle} {fu : Bool} {ln : Int} {row : List THit} {x : THit} {k : ByteArray} {p : ByteArray → Bool} {t u e : TypeId} {S : Nat → Prop} {tb : Nat} {w : World} {b : THit × Bool}
theorem tabC_up (h : (tabC t u e S tb row c).inv w) : upT row ∧ row.length ≤ c := by
  obtain ⟨i, ⟨K, d, H, hK, hr⟩, _⟩ := h
  exact ⟨H.up, hr⟩
theorem upP_ge (k : ByteArray) : upP fun x => !(sLt x k) := fun x y hxy hx => by
  simp only [Bool.not_eq_true'] at *
  cases h : sLt y k with
  | false => rfl
  | true => rw [sLt_trans hxy h] at hx; cases hx
theorem upP_gt (k : ByteArray) : upP fun x => sLt k x := fun x y hxy hx => sLt_trans hx hxy
theorem downP_lt (k : ByteArray) : downP fun x => sLt x k := fun x y hxy hy => sLt_trans hxy hy
theorem downP_all : downP fun _ => true := fun _ _ _ _ => rfl
theorem tab_lookT (H : TabI l r fu ln row K d) (hp : upP p) : lookT fu d l r p = firstL row p noHit := by
  rcases H.tree with ⟨rfl, rfl, _⟩ | ⟨rfl, t, rfl, h2, h3, h4, rfl, h6⟩
  · rfl
  · exact least_ok hp h2 h4 H.up
theorem tab_lookG (H : TabI l r fu ln row K d) (hp : downP p) : lookG fu d l r p = lastL row p noHit := by
  rcases H.tree with ⟨rfl, rfl, _⟩ | ⟨rfl, t, rfl, h2, h3, h4, rfl, h6⟩
  · rfl
  · exact great_ok hp h2 h4 H.up
theorem tab_look (H : TabI l r fu ln row K d) : fu = true → lookOk d l r := by
  rcases H.tree with ⟨rfl, _⟩ | ⟨_, t, rfl, h2, h3, h4, rfl, h6⟩
  · intro h; cases h
  · intro _; exact look_okW h2 h4 H.big
theorem getL_first (hu : upT row) : getL row k = if (firstL row (fun x => !(sLt x k)) noHit).2 = true ∧ (firstL row (fun x => !(sLt x k)) noHit).1.key = k then ((firstL row (fun x => !(sLt x k)) noHit).1.val, true) else (0, false) := by
  have low : ∀ {P : List THit}, lowT P k → ∀ a, a ∈ P → (fun x => !(sLt x k)) a.key = false := fun hP a ha => by simp [hP a ha]
  cases hf : bsF (row.map THit.key) k with
  | true =>
    obtain ⟨P, z, Q, rfl, hP, hz, lP, hQ⟩ := bs_hit hu hf
    rw [getL_hit lP hz, firstL_skip (low lP), firstL_hit (by rw [hz]; simp [sLt_irrefl]), if_pos ⟨rfl, hz⟩]
  | false =>
    obtain ⟨P, Q, rfl, hP, lP, hQ⟩ := bs_miss hu hf
    rw [getL_no lP hQ, firstL_skip (low lP)]
    cases Q with
    | nil => rw [firstL_nil, if_neg (by simp [noHit])]
    | cons z R =>
      have hz := hQ z (by simp)
      rw [firstL_hit (by simp [sLt_asymm hz]), if_neg (fun h => sLt_ne hz h.2.symm)]
theorem tab_get (H : TabI l r fu ln row K d) : getT fu d l r k = getL row k := by
  unfold getT
  rw [tab_lookT H (upP_ge k), getL_first H.up]
theorem delL_no (hu : upT row) (hg : (getL row k).2 = false) : delL row k = row := by
  refine delL_self fun a ha e => ?_
  have : getL row k = (a.val, true) ∨ ∃ v, getL row k = (v, true) := by
    unfold getL
    cases hf : row.find? (fun a => decide (a.key = k)) with
    | none => exact absurd (List.find?_eq_none.1 hf a ha) (by simp [e])
    | some z => exact .inr ⟨_, rfl⟩
  rcases this with h | ⟨v, h⟩ <;> rw [h] at hg <;> cases hg
theorem takeWhile_up : ∀ {l : List THit}, upT l → l.takeWhile (fun a => sLt a.key k) = l.filter (fun a => sLt a.key k)
  | [], _ => rfl
  | z :: l, hu => by
    have h2 := upT_cons.1 hu
    cases hz : sLt z.key k with
    | true => simp [hz, takeWhile_up h2.2]
    | false =>
      rw [List.takeWhile_cons, if_neg (by simp [hz]), List.filter_cons, if_neg (by simp [hz])]
      symm
      refine List.filter_eq_nil_iff.2 fun a ha => ?_
      have := h2.1 a ha
      cases ha2 : sLt a.key k with
      | false => simp
      | true => rw [sLt_trans this ha2] at hz; cases hz
theorem putR_eq (hu : upT row) : putR row x = putL row x := by
  unfold putR putL
  rw [takeWhile_up (delL_up hu)]
  unfold delL
  rw [List.filter_filter, List.filter_filter]
  congr 1
  · refine List.filter_congr fun a _ => ?_
    cases h : sLt a.key x.key with
    | false => rfl
    | true => simp [sLt_ne h]
  · congr 1
    refine List.filter_congr fun a _ => ?_
    cases h : sLt x.key a.key with
    | false => rfl
    | true => simp [(sLt_ne h).symm]
theorem put_len (hu : upT row) : (putL row x).length ≤ row.length + 1 := by rw [getL_len hu]; split <;> omega
theorem delL_le : (delL row k).length ≤ row.length := List.length_filter_le _ _
theorem put_small (H : TabI l r fu ln row K d) (hK : K + d + 3 ≤ 1000000) : SmallA (insF d (put0 l r fu).1 (put0 l r fu).2 x).1 := by
  obtain ⟨t, h1, h2, h3, h4, h5, h6, h7⟩ := put0_ok H
  have hI : ∃ K', K' ≤ 1000000 ∧ BigA (insF d (put0 l r fu).1 t.h x).1 K' := by
    rcases h4 with h4 | ⟨rfl, h4⟩
    · exact ⟨_, by omega, (ins_ok d (lo := 1) h2 h3 h4 (.inl (by omega)) (by omega) (h5 ▸ H.up) h7 (x := x)).1.big⟩
    · exact ⟨_, by omega, (ins_ok 0 (lo := 0) h2 h3 h4 (.inr rfl) (by omega) (h5 ▸ H.up) h7 (x := x)).1.big⟩
  obtain ⟨K', hk, hb⟩ := hI
  rw [h1] at hb
  exact hb.small hk
theorem del_small (H : TabI l r fu ln row K d) (hK : K ≤ 1000000) (hg : (getT fu d l r k).2 = true) : DelOk d l r k := by
  rw [tab_get H] at hg
  obtain ⟨_, t, h1, h2, h3, h4, h5, h6⟩ := tab_full H hg
  have R := rem_ok d (k := k) (lo := 1) h2 h3 h4 (by omega) (h5 ▸ H.up) H.big (h5 ▸ getL_mem hg)
  rw [h1] at R
  obtain ⟨t', p1, p2, p3, p4, p5, p6, p7⟩ := R.parts
  refine ⟨del_okW H hg hK, R.big.small hK, fun hl => ?_⟩
  obtain ⟨h', ks, ts⟩ := t'
  have p1 : h' = r := p1
  subst p1
  have e := (holds_mk.1 p2).1
  rw [atA_get e] at hl ⊢
  cases d with
  | zero => cases hl
  | succ d => rw [kids_len (ok_mk.1 p5).2.2]; omega
theorem del_row (H : TabI l r fu ln row K d) : ∃ d', TabI (delR d l r fu ln k).1.1 (delR d l r fu ln k).1.2 (delR d l r fu ln k).2.1 (delR d l r fu ln k).2.2 (delL row k) K d' := by
  cases hg : (getT fu d l r k).2 with
  | false =>
    rw [delR_no hg]
    rw [tab_get H] at hg
    rw [delL_no H.up hg]
    exact ⟨d, H⟩
  | true =>
    unfold delR
    rw [if_pos hg]
    rw [tab_get H] at hg
    exact del_tab H hg
end
end Tp
namespace Tp
open Go
def walkOk (d : Nat) (l : List TPl) (a : Nat) (t : BT) (q : Int) : Prop := okB 0 d t ∧ ∃ pre post, l = pre ++ placesB d t q ++ post ∧ pre.length = a
def leastK : Nat → Nat
  | 0 => 0
  | 1 => 1
  | n + 2 => 3 * leastK (n + 1) + 2
structure PlcOk (row : List THit) (ps : List TPl) (D : Nat) : Prop where
  keys : ∀ (i : Nat) (p : TPl), ps[i]? = some p → 1 ≤ p.keys.length ∧ p.keys.length ≤ 4 ∧ (0 < i → 2 ≤ p.keys.length)
  leaf : ∀ p, p ∈ ps → p.leaf = true → p.depth = D
  deep : ∀ p, p ∈ ps → 1 ≤ p.depth ∧ p.depth ≤ D
  least : leastK D ≤ row.length
  both : ps = [] ↔ row = []
  walk : ps ≠ [] → ∃ d t, walkOk d ps 0 t 1 ∧ row = flatB d t ∧ (placesB d t 1).length = ps.length
end Tp
namespace Tp
open Go
section
variable {P : Program} {ops : Array Oper} {ld mk : List Nat} {D : World → Prop} {Q : Env → World → Prop}
def Mid (P : Program) (ops : Array Oper) (ld mk : List Nat) (Q : Env → World → Prop) (suf : List Nat) : Env → World → Prop := fun ρ w => ∃ (D2 : World → Prop) (S2 : St), TW P ops ld mk D2 Q suf ρ S2 ∧ Good D2 S2 ∧ ∃ A, S2 A w
theorem any_of_tw2 {n : Nat} {Q' : Act → World → Prop} {rd : Option Nat} (suf : List Nat) (hsel : NoSel ops) (hdst : dstOk n ops.toList = true) (hQ : ∀ {a : Act} (ρ : Env) (w : World), (EnvOf n ρ a ∧ ρ.rd = rd) → Q ρ w → Q' a w) :
    ∀ (m : Nat) (l : List Nat) (ρ : Env) (S : St) (listed : Array Bool) (A : Nat → Prop) (w : World) (a : Act), l.length = m → ρ.rd = rd → TW P ops ld mk D (Mid P ops ld mk Q suf) l ρ S → Good D S → S A w → EnvOf n ρ a →
      Left ops listed (l ++ suf) → (l ++ suf).Pairwise (Before ops ld mk) → (∀ i, i ∈ l → ∀ j, j ∈ suf → TP ops i j) → (∀ i, i ∈ l ++ suf → ∀ k, DP ops k i → k < ops.size ∧ k ≠ i) → anyR P ops Q' rd (m + suf.length) listed a w := by
  intro m
  induction m with
  | zero =>
    intro l ρ S listed A w a hl hrd h hG hs ha hL hp hsuf hk
    have : l = [] := List.eq_nil_of_length_eq_zero hl
    subst this
    cases h with
    | nil h =>
      obtain ⟨D2, S2, h1, h2, A2, h3⟩ := h A w hs
      rw [Nat.zero_add]
      exact any_of_tw hsel hdst hQ _ suf ρ S2 listed A2 w a rfl hrd h1 h2 h3 ha hL hp hk
  | succ m ih =>
    intro l ρ S listed A w a hl hrd h hG hs ha hL hp hsuf hk
    rw [show m + 1 + suf.length = (m + suf.length) + 1 by omega]
    refine ⟨?_, ?_⟩
    · -- the first of the list can be carried out
      intro hr
      exfalso
      cases l with
      | nil => simp at hl
      | cons i l =>
        rw [List.cons_append] at hL hp hk
        have hi : i ∈ Region.ready .any ops listed := by
          have hlt := hL.lt i (by simp)
          simp only [Region.ready, List.mem_filter, List.mem_range, Bool.and_eq_true, Bool.not_eq_true']
          refine ⟨hlt, ?_, ?_⟩
          · have : ¬ listed.getD i false = true := fun h => (hL.iff i hlt).1 h (by simp)
            rw [Array.getD_eq_getD_getElem?] at this ⊢
            rw [Array.getElem?_eq_getElem (by rw [hL.size]; exact hlt)] at this ⊢
            simpa using this
          · rw [Array.getElem?_eq_getElem hlt]
            simp only [Option.map_some, Option.getD_some]
            refine Array.all_eq_true'.2 fun e he => ?_
            cases hb : Region.binds .any e with
            | false => rfl
            | true =>
              simp only [Bool.not_true, Bool.false_or]
              have hdp : DP ops e.on i := ⟨_, Array.getElem?_eq_getElem hlt, e, he, hb, rfl⟩
              obtain ⟨hlt', hne⟩ := hk i (by simp) e.on hdp
              refine (hL.iff _ hlt').2 fun hm => ?_
              rcases List.mem_cons.1 hm with hm | hm
              · exact hne hm
              · exact ((List.pairwise_cons.1 hp).1 _ hm).2.1 hdp
        rw [hr] at hi
        cases hi
    · intro j hj
      obtain ⟨hjl, hpre⟩ := hL.ready hj
      obtain ⟨oj, hoj⟩ : ∃ o, ops[j]? = some o := ⟨_, Array.getElem?_eq_getElem (hL.lt j hjl)⟩
      have hjl : j ∈ l := by
        rcases List.mem_append.1 hjl with h1 | h1
        · exact h1
        · cases l with
          | nil => simp at hl
          | cons i l => exact absurd (by simp) (hL.tp (hsuf i (by simp) j h1) hpre).2
      obtain ⟨l1, l2, rfl⟩ := List.append_of_mem hjl
      rw [List.append_assoc, List.cons_append] at hL hp hk hpre
      have hov : ∀ i, i ∈ l1 → Over ops i j ∧ Free ld mk i j := by
        intro i hi
        have hb := (List.pairwise_append.1 hp).2.2 i hi j (by simp)
        rcases hb.2.2 with ht | ⟨hap, hn⟩
        · exact absurd (by simp [hi]) (hL.tp ht hpre).2
        · exact ⟨hap, hn⟩
      have hL' := hL.next hpre
      have hp' : (l1 ++ (l2 ++ suf)).Pairwise (Before ops ld mk) := hp.sublist (by simp)
      have hsuf' : ∀ i, i ∈ l1 ++ l2 → ∀ j, j ∈ suf → TP ops i j := fun i hi => hsuf i (by rcases List.mem_append.1 hi with hi | hi <;> simp [hi])
      rw [← List.append_assoc] at hL' hp'
      have hk' : ∀ i, i ∈ l1 ++ l2 ++ suf → ∀ k, DP ops k i → k < ops.size ∧ k ≠ i := fun i hi => hk i (by simp only [List.mem_append] at hi; rcases hi with (hi | hi) | hi <;> simp [hi])
      have hl' : (l1 ++ l2).length = m := by simp at hl ⊢; omega
      have hdo : oj.dst.all (· < n) = true ∧ noDefer oj = true := by
        have := List.all_eq_true.1 hdst oj (by simpa using Array.mem_of_getElem? hoj)
        simpa only [Bool.and_eq_true] using this
      obtain ⟨hd, hnd⟩ := hdo
      have hy := ha.yielded ops oj
      have hrd' : ∀ v, (ρ.put oj.dst v).rd = rd := fun v => by rw [Env.put_rd, hrd]
      cases pull hsel hoj l2 l1 ρ S h hG ⟨A, w, hs⟩ hov with
      | steady v hw h' k' =>
        have hgo := ih _ _ S _ A w _ hl' (hrd' v) k' hG hs (ha.put oj.dst hd v) hL' hp' hsuf' hk'
        exact opR_value (v := v) hoj hnd (by rw [hy]; exact hw) (by rw [ha.eval]; exact h' w (hG.d _ _ hs) oj.dst oj.pos oj.after oj.guard) hgo
      | pass hw k' =>
        exact opR_pass hoj (by rw [hy]; exact hw) (ih _ _ S _ A w _ hl' (hrd' undef) k' hG hs (ha.put oj.dst hd undef) hL' hp' hsuf' hk')
      | maker hw h' =>
        obtain ⟨v, obj, h1, h2⟩ := h' w (hG.d _ _ hs)
        have hs' : (S.with w.heap.size obj) A (w.alloc obj) := ⟨hG.alloc _ _ _ hs, heap_alloc_new w obj, fun hA => by have := hG.lt _ _ hs _ hA; omega⟩
        have hgo := ih _ _ _ _ A _ _ hl' (hrd' v) (h2 ⟨A, _, hs'⟩) (hG.with _ _) hs' (ha.put oj.dst hd v) hL' hp' hsuf' hk'
        exact opR_value (v := v) hoj hnd (by rw [hy]; exact hw) (by rw [ha.eval]; exact h1 oj.dst oj.pos oj.after oj.guard) hgo
      | peek v _ _ hw h' k' =>
        rcases h' A w hs with ⟨v2, w', h1, rfl, h2, _⟩ | ⟨nx, h0, h1, h2⟩
        · have hgo := ih _ _ S _ A w' _ hl' (hrd' v2) k' hG h2 (ha.put oj.dst hd v2) hL' hp' hsuf' hk'
          exact opR_value (v := v2) hoj hnd (by rw [hy]; exact hw) (by rw [ha.eval]; exact h1 oj.dst oj.pos oj.after oj.guard) hgo
        · refine opR_call hoj hnd (by rw [hy]; exact hw) h0 (by rw [ha.eval]; exact h1 oj.dst oj.pos oj.after oj.guard) h2 ?_
          rintro v2 w' ⟨rfl, hS, _⟩
          exact ih _ _ S _ A w' _ hl' (hrd' v2) k' hG hS (ha.put oj.dst hd v2) hL' hp' hsuf' hk'
      | loud S' _ _ hw hg h' k' =>
        rcases h' A w hs with ⟨v, w', h1, ⟨x, h2⟩, _⟩ | ⟨nx, h0, h1, h2⟩
        · have hgo := ih _ _ (S' x v) _ A w' _ hl' (hrd' v) (k' x v ⟨A, w', h2⟩) (hg x v) h2 (ha.put oj.dst hd v) hL' hp' hsuf' hk'
          exact opR_value (v := v) hoj hnd (by rw [hy]; exact hw) (by rw [ha.eval]; exact h1 oj.dst oj.pos oj.after oj.guard) hgo
        · refine opR_call hoj hnd (by rw [hy]; exact hw) h0 (by rw [ha.eval]; exact h1 oj.dst oj.pos oj.after oj.guard) h2 ?_
          rintro v w' ⟨⟨x, hS⟩, _⟩
          exact ih _ _ (S' x v) _ A w' _ hl' (hrd' v) (k' x v ⟨A, w', hS⟩) (hg x v) hS (ha.put oj.dst hd v) hL' hp' hsuf' hk'
def sufB (ops : Array Oper) (pre suf : List Nat) : Bool := suf.all fun j => pre.all fun i => ((Region.before ops).getD j 0).testBit i
end
theorem W.region_any2 {P : Program} {n id : Nat} {l : List Oper} {Q : Exit → Env → World → Prop} {ρ : Env} {w : World} (pre suf ld mk : List Nat) (D : World → Prop) (S : St)
    (hm : P.follows .mixedOrders = true) (hB : (anyB n l.toArray ld mk (pre ++ suf) && sufB l.toArray pre suf) = true) (hG : Good D S) (hS : S (fun _ => False) w.drew) (h : TW P l.toArray ld mk D (Mid P l.toArray ld mk (Q .normal) suf) pre ρ S) :
    W P n (.region id l.toArray true) Q ρ w := by
  intro a ha b k cs hb
  rw [Bool.and_eq_true] at hB
  obtain ⟨hB, hsuf⟩ := hB
  generalize hord : pre ++ suf = ord at hB
  simp only [anyB, Bool.and_eq_true] at hB
  obtain ⟨⟨⟨h1, h2⟩, h3⟩, h4⟩ := hB
  obtain ⟨s1, s2, s3, s4, _⟩ := ordB_spec (before_tp l.toArray) ord [] h3
  have hsel : NoSel l.toArray := by
    intro j o cs b hj ho
    have := Array.all_eq_true'.1 h1 o (Array.mem_of_getElem? hj)
    rw [ho] at this
    cases this
  have hcov : ∀ i, i < l.toArray.size → i ∈ ord := fun i hi => by
    have := List.all_eq_true.1 h4 i (List.mem_range.2 hi)
    simpa using this
  have hlen : ord.length = l.toArray.size := by
    have p1 : ord.length ≤ (List.range l.toArray.size).length := s2.length_le_of_subset fun x hx => List.mem_range.2 (s1 x hx).2
    have p2 : (List.range l.toArray.size).length ≤ ord.length := List.nodup_range.length_le_of_subset fun x hx => hcov x (List.mem_range.1 hx)
    simp only [List.length_range] at p1 p2
    omega
  suffices hany : anyR P l.toArray (fun a w => lift n Q .normal a w ρ.rd) ρ.rd l.toArray.size (Array.replicate l.toArray.size false) a w.drew by
    obtain ⟨a', w', hq, hs⟩ := anyR_sound l.toArray.size (w.tape w.drawn (.order b.fn id)) _ a _ hany b k cs hb
    refine ⟨.normal, a', w', hq, Steps.head stepR_region_draw ?_⟩
    simp only [Region.schedule, hm, Bool.true_or, if_true]
    exact hs
  rw [← hlen]
  have hl2 : ord.length = pre.length + suf.length := by rw [← hord, List.length_append]
  rw [show anyR P l.toArray (fun a w => lift n Q .normal a w ρ.rd) ρ.rd ord.length = anyR P l.toArray (fun a w => lift n Q .normal a w ρ.rd) ρ.rd (pre.length + suf.length) by rw [hl2]]
  refine any_of_tw2 suf hsel h2 (fun ρ' w h1 h => ⟨ρ', h1.1, h1.2, h⟩) _ pre ρ S _ (fun _ => False) w.drew a rfl rfl h hG hS ha ?_ (by rw [hord]; exact s3) ?_ ?_
  · rw [hord]
    refine ⟨by simp [hlen], s2, fun i hi => (s1 i hi).2, ?_, fun i j _ hj hn => absurd (hcov j hj) hn⟩
    intro i hi
    have hf : (Array.replicate ord.length false).getD i false = false := by
      rw [Array.getD_eq_getD_getElem?, Array.getElem?_replicate]; split <;> rfl
    rw [hf]
    exact ⟨fun h => (by cases h), fun h => absurd (hcov i hi) h⟩
  · intro i hi j hj
    have := List.all_eq_true.1 hsuf j hj
    exact before_tp _ j i (List.all_eq_true.1 this i hi)
  · rw [hord]
    intro i hi k hk
    obtain ⟨h1, h2⟩ := s4 i hi k hk
    refine ⟨?_, h2⟩
    rcases h1 with h1 | h1
    · cases h1
    · exact (s1 k h1).2
section
variable {P : Program} {ops : Array Oper} {ld mk : List Nat} {F X : Nat → Prop} {w0 : World} {L : List Chunk} {R : List (World → Prop)} {ρ : Env}
theorem W.drawn2 {n id : Nat} {l : List Oper} {Q : Exit → Env → World → Prop} {w : World} (M : Mem F X w0 L R w) (pre suf ld mk : List Nat) (Lp : List Chunk) (Rp : List (World → Prop)) (hL : Lp.Sublist L) (hR : ∀ r, r ∈ Rp → r ∈ R)
    (hm : P.follows .mixedOrders = true) (hB : (anyB n l.toArray ld mk (pre ++ suf) && sufB l.toArray pre suf) = true) (h : TW P l.toArray ld mk (Dm F X w0 Lp Rp) (Mid P l.toArray ld mk (Q .normal) suf) pre ρ (MemA F X w0 L R)) : W P n (.region id l.toArray true) Q ρ w :=
  W.region_any2 pre suf ld mk _ _ hm hB (good_mem hL hR) (MemA.start M) h
theorem TW.turn {D : World → Prop} {Q : Env → World → Prop} {suf : List Nat} (Lp : List Chunk) (Rp : List (World → Prop)) (hL : Lp.Sublist L) (hR : ∀ r, r ∈ Rp → r ∈ R) (h : TW P ops ld mk (Dm F X w0 Lp Rp) Q suf ρ (MemA F X w0 L R)) :
    TW P ops ld mk D (Mid P ops ld mk Q suf) [] ρ (MemA F X w0 L R) := .nil fun A w M => ⟨_, _, h, good_mem hL hR, A, M⟩
end
end Tp
namespace Tp
open Go
abbrev vI (n : Int) : Value := .int .i64 n
abbrev vU (n : Int) : Value := .int .u64 n
abbrev vB (b : Bool) : Value := .bool b
abbrev vS (s : ByteArray) : Value := .string s
abbrev vP (b : Nat) : Value := .pointer (some ⟨b, 0, none⟩)
abbrev vN : Value := .pointer none
abbrev sZ : ByteArray := ⟨#[]⟩
abbrev vZ : Value := .slice none 0 0
abbrev vQ (v : Value) (i k : Nat) : Value := .pointer (some ⟨sBlk v, sOff v + i * k, none⟩)
abbrev vR (v : Value) (i k j : Nat) : Value := .pointer (some ⟨sBlk v, sOff v + i * k + j, none⟩)
abbrev bk (b : Nat) (cs : Array Value) (t : TypeId) : Chunk := blk b (.cells cs t)
abbrev bF (b : Nat) (cs : Array Value) (t : TypeId) (w : World) : Prop := w.heap[b]? = some (.cells cs t)
section
variable {α : Type} {a : α} {l l' : List α}
theorem sY (h : l.Sublist l') : (a :: l).Sublist (a :: l') := h.cons_cons a
theorem sN (h : l.Sublist l') : l.Sublist (a :: l') := h.cons a
theorem sE : ([] : List α).Sublist [] := .slnil
end
section
variable {P : Program} {op : Op} {ty : TypeId} {ρ : Env} {w w' : World} {v : Value} {n : Nat} {ops : Array Oper} {rest : List Oper} {Q : Exit → Env → World → Prop} {d : Option Nat} {pos : String} {aft : Array Edge} {g : Option (Nat × Bool)}
theorem sP (h : (execOp ρ.ev ⟨none, op, ty, "", #[], none⟩).run P w = .ok (.value v) w := by kernel_rfl) : Step P op ty ρ w v w := Step.pure h
theorem wS (v : Value) (hg : ρ.want ops g = true) (h : Step P op ty ρ w v w') (k : WL P n ops rest Q (ρ.put d v) w') : WL P n ops (⟨d, op, ty, pos, aft, g⟩ :: rest) Q ρ w := WL.step hg h k
end
section
variable {P : Program} {n : Nat} {Q : Exit → Env → World → Prop} {ρ : Env} {w : World} {id : Nat} {l : List Oper} {y : Code}
theorem wR (h : WL P n l.toArray l (thn (W P n y Q) Q) ρ w) (hd : dstOk n l = true := by rfl) : W P n (.seq (.region id l.toArray false) y) Q ρ w := W.seq' (W.region hd h)
end
theorem Mem.loseI {F X : Nat → Prop} {w0 w : World} {L : List Chunk} {R : List (World → Prop)} (M : Mem F X w0 L R w) (i : Nat) : Mem F X w0 (L.eraseIdx i) R w := M.sub (List.eraseIdx_sublist _ _) fun _ h => h
section
variable {P : Program} {ρ : Env} {w : World} {ty : TypeId}
theorem sX {t e : TypeId} {x ix : Operand} {v z' : Value} {n cap size bytes : Nat} {k : IntKind} {z : Int} (i : Nat) (ht : Und P t (.slice e)) (he : Elem P e z' size bytes)
    (hx : ρ.ev x = v) (hi : ρ.ev ix = .int k z) (hv : v = .slice (some ⟨sBlk v, sOff v, none⟩) n cap) (hz : z = (i : Int) := by omega) (hlt : i < n := by omega) : Step P (.indexAddr t x ix) ty ρ w (vQ v i size) w :=
  Step.indexAddr ht.run he.sized hx hi hz hv hlt
end
section
variable {P : Program} {ops : Array Oper} {ld mk : List Nat} {Q : Env → World → Prop} {i : Nat} {d : Option Nat} {op : Op} {ty : TypeId} {pos : String} {aft : Array Edge} {g : Option (Nat × Bool)}
  {rest : List Nat} {ρ : Env} {F X : Nat → Prop} {w0 : World} {Lp L L' : List Chunk} {Rp R : List (World → Prop)}
theorem tP (v : Value) {S : St} {D : World → Prop} (hi : ops[i]? = some ⟨d, op, ty, pos, aft, g⟩)
    (h : ∀ w, Step P op ty ρ w v w) (k : TW P ops ld mk D Q rest (ρ.put d v) S) (hl : i ∉ ld := by decide) (hm : i ∉ mk := by decide) (hw : ρ.want ops g = true := by rfl) : TW P ops ld mk D Q (i :: rest) ρ S := TW.pure hi hl hm hw h k
theorem tR (v : Value) {S : St} (hi : ops[i]? = some ⟨d, op, ty, pos, aft, g⟩)
    (h : ∀ A w, Mem F X w0 (fl A :: Lp) Rp w → Step P op ty ρ w v w) (k : TW P ops ld mk (Dm F X w0 Lp Rp) Q rest (ρ.put d v) S) (hl : i ∉ ld := by decide) (hm : i ∉ mk := by decide) (hw : ρ.want ops g = true := by rfl) : TW P ops ld mk (Dm F X w0 Lp Rp) Q (i :: rest) ρ S := TW.read hi hl hm hw h k
end
def Frm (L C D : List Chunk) : Prop := ∃ is, Sel L (C ++ D) is ∧ is.Nodup
namespace Mem
variable {F X : Nat → Prop} {w0 w w' : World} {L C C' D : List Chunk} {R R' : List (World → Prop)} {A : Nat → Prop}
theorem frm (M : Mem F X w0 L R w) (C D : List Chunk) (is : List Nat) (h : Sel L (C ++ D) is) (hn : is.Nodup := by decide) : Frm L C D := ⟨is, h, hn⟩
theorem eF (M : Mem F X w0 L R w) (f : Frm L C D) (hR : Facts (avoid C) w R') : Mem (avoid C) (Foots C) w C R' w := let ⟨is, h, hn⟩ := f; M.enterW is h hn hR
theorem lF (M : Mem F X w0 L R w) (f : Frm L C D) (m : Mem (avoid C) (Foots C) w C' [] w') : Mem F X w0 (C' ++ D) R w' := let ⟨is, h, hn⟩ := f; M.leaveW is h hn m
theorem kF (M : Mem F X w0 L R w) (f : Frm L C (fl A :: D)) (m : Mem (avoid C) (Foots C) w C' [] w') : ∀ b, A b → w'.heap[b]? = w.heap[b]? := let ⟨is, h, hn⟩ := f; M.keptW is h hn m (fl A) (List.mem_cons_self ..)
theorem rF (M : Mem F X w0 L R w) (f : Frm L C D) (i : Nat) {r : World → Prop} (h : R[i]? = some r) : Sh (avoid C) r w := let ⟨is, hs, _⟩ := f; M.wideR is hs i h
theorem cF (M : Mem F X w0 L R w) (f : Frm L C D) (i : Nat) {c : Chunk} (h : D[i]? = some c) : Sh (avoid C) c.inv w := let ⟨is, hs, hn⟩ := f; M.wideC is hs hn i h
theorem k0F (M : Mem F X w0 (fl A :: L) R w) (m : Mem (fun _ => True) (fun _ => False) w C' [] w') : ∀ b, A b → w'.heap[b]? = w.heap[b]? := M.keptW0 m (fl A) (List.mem_cons_self ..)
end Mem
section
variable {P : Program} {ty : TypeId} {ρ : Env} {w : World} {v : Value} {n : Nat} {ops : Array Oper} {rest : List Oper} {Q : Exit → Env → World → Prop} {d : Option Nat} {pos : String} {aft : Array Edge} {g : Option (Nat × Bool)} {x : Operand} {op : Op}
theorem wM (v : Value) (k : WL P n ops rest Q (ρ.put d v) w) (h : ρ.ev x = v := by rfl) (hg : ρ.want ops g = true := by rfl) : WL P n ops (⟨d, .move x, ty, pos, aft, g⟩ :: rest) Q ρ w := wS v hg (Step.move h) k
theorem wA (v : Value) (k : WL P n ops rest Q (ρ.put d v) w) (h : ρ.ev x = v := by rfl) (hg : ρ.want ops g = true := by rfl) : WL P n ops (⟨d, .assign x, ty, pos, aft, g⟩ :: rest) Q ρ w := wS v hg (Step.assign h) k
theorem wP (v : Value) (k : WL P n ops rest Q (ρ.put d v) w) (h : (execOp ρ.ev ⟨none, op, ty, "", #[], none⟩).run P w = .ok (.value v) w := by kernel_rfl) (hg : ρ.want ops g = true := by rfl) : WL P n ops (⟨d, op, ty, pos, aft, g⟩ :: rest) Q ρ w := wS v hg (sP h) k
end
end Tp
namespace Tp
open Go
def hitE (x : THit) : List Value := [.string x.key, .int .i64 x.val]
theorem hitE_len (x : THit) : (hitE x).length = 2 := rfl
theorem hitE_cel (x : THit) : Step.Cellish (hitE x) := cel_cons rfl (cel_cons rfl cel_nil)
theorem Does.callV {P : Program} {d : Option Nat} {ty : TypeId} {pos : String} {aft : Array Edge} {g : Option (Nat × Bool)} {c : Array Operand} {ts : Array TypeId} {x : Operand} {y : Value} {ar_ : List Value} {R : Value → World → Prop} {ρ : Env} {w : World}
    (hx : ρ.ev x = y) (ha : c.toList.map ρ.ev = ar_) (h : RetsV P y ar_.toArray w R) : Does P ⟨d, .call { callee := .value x, args := c, argTypes := ts }, ty, pos, aft, g⟩ ρ w R :=
  let ⟨nx, h1, h2, h3⟩ := h; .inr ⟨nx, h1, CallsN.value hx ha h2, h3⟩
theorem TW.callV {P : Program} {ops : Array Oper} {ld mk : List Nat} {Q : Env → World → Prop} {i : Nat} {d : Option Nat} {ty : TypeId} {pos : String} {aft : Array Edge} {g : Option (Nat × Bool)}
  {rest : List Nat} {ρ : Env} {F X : Nat → Prop} {w0 : World} {Lp L : List Chunk} {Rp R : List (World → Prop)} {c : Array Operand} {ts : Array TypeId} {x : Operand} {y : Value} {ar_ : List Value} {ι : Type} (p : ι → Value → Prop) (L' : ι → List Chunk) (R' : ι → List (World → Prop))
    (hi : ops[i]? = some ⟨d, .call { callee := .value x, args := c, argTypes := ts }, ty, pos, aft, g⟩) (hl : i ∈ ld) (hw : ρ.want ops g = true)
    (hx : ρ.ev x = y) (ha : c.toList.map ρ.ev = ar_) (hL : ∀ x, Lp.Sublist (L' x)) (hR : ∀ x r, r ∈ Rp → r ∈ R' x)
    (h : ∀ A w, Mem F X w0 (fl A :: L) R w → RetsV P y ar_.toArray w fun v w' => ∃ x, p x v ∧ Mem F X w0 (fl A :: L' x) (R' x) w' ∧ ∀ b, A b → w'.heap[b]? = w.heap[b]?)
    (k : ∀ x v, p x v → (∃ A w, Mem F X w0 (fl A :: L' x) (R' x) w) → TW P ops ld mk (Dm F X w0 Lp Rp) Q rest (ρ.put d v) (MemA F X w0 (L' x) (R' x))) (hm : i ∉ mk := by decide) : TW P ops ld mk (Dm F X w0 Lp Rp) Q (i :: rest) ρ (MemA F X w0 L R) :=
  .loudx (hm := hm) (fun x v A w => p x v ∧ MemA F X w0 (L' x) (R' x) A w) hi hl hw (fun x v => (good_mem (hL x) (hR x)).and)
    (fun A w M => Does.callV hx ha ((h A w M).mono fun v w' ⟨x, h1, h2, h3⟩ => ⟨⟨x, h1, h2⟩, h3⟩))
    fun x v ⟨A, w, hp, hM⟩ => (k x v hp ⟨A, w, hM⟩).weaken (fun _ _ hs => hs.2) fun _ _ _ h1 h2 _ => ⟨h1.1, h2⟩
end Tp
namespace Tp
open Go
structure PlC where
  depth : Int
  leaf : Bool
  kv : {v : Value // IsSl v}
section
variable {F X : Nat → Prop} {w0 w : World} {L Ls : List Chunk} {R : List (World → Prop)} {es e : TypeId} {N : Nat → Prop} {k i : Nat} {cs : List PlC} {ps : List TPl} {c : Chunk} {x : PlC} {p : TPl} {v : Value}
theorem Mem.split (M : Mem F X w0 (c :: L) R w) (hok : ∀ d, d ∈ Ls → d.Ok w) (hpw : Ls.Pairwise fun c d => ∀ b, c.foot b → ¬ d.foot b) (hf : ∀ d, d ∈ Ls → ∀ b, d.foot b → c.foot b) : Mem F X w0 (Ls ++ L) R w := by
  have hp := List.pairwise_cons.1 M.disj
  refine ⟨M.mod, fun c hc => ?_, List.pairwise_append.2 ⟨hpw, hp.2, fun c hc d hd b hb => hp.1 d hd b (hf c hc b hb)⟩, fun d hd b hb => ?_, fun r hr => (M.sh r hr).mono fun b hb _ => ⟨hb.1, fun d hd hcb => ?_⟩⟩
  · rcases List.mem_append.1 hc with hc | hc
    · exact hok c hc
    · exact M.ok c (by simp [hc])
  · rcases List.mem_append.1 hd with hd | hd
    · exact M.in_ c (by simp) b (hf d hd b hb)
    · exact M.in_ d (by simp [hd]) b hb
  · rcases List.mem_append.1 hd with hd | hd
    · exact hb.2 c (by simp) (hf d hd b hcb)
    · exact hb.2 d (by simp [hd]) hcb
end
end Tp
namespace Tp
open Go
def fromL (l : List THit) (k : ByteArray) : THit × Bool := firstL l (fun x => !(sLt x k)) noHit
def afterL (l : List THit) (k : ByteArray) : THit × Bool := firstL l (fun x => sLt k x) noHit
def beforeL (l : List THit) (k : ByteArray) : THit × Bool := lastL l (fun x => sLt x k) noHit
def tailL (l : List THit) : THit × Bool := lastL l (fun _ => true) noHit
section
variable {F X G : Nat → Prop} {w0 w : World} {L L' Ln : List Chunk} {R : List (World → Prop)} {t u e : TypeId} {S : Nat → Prop} {tb c : Nat} {row : List THit} {P : Program} {f : FuncId} {args : Array Value}
theorem Mem.perm (M : Mem F X w0 L R w) (h : L.Perm L') : Mem F X w0 L' R w :=
  ⟨M.mod, fun c hc => M.ok c (h.mem_iff.2 hc), h.pairwise M.disj fun hxy b hb hb' => hxy b hb' hb, fun c hc => M.in_ c (h.mem_iff.2 hc), fun r hr => (M.sh r hr).mono fun b hb _ => ⟨hb.1, fun c hc => hb.2 c (h.mem_iff.2 hc)⟩⟩
theorem reads_via {ι : Type} {A B : Chunk} (r : ι → Value) (Ln : ι → List Chunk) (M : Mem G X w [B, A] [] w)
    (h : ∀ (G' X' : Nat → Prop), Mem G' X' w [A] [B.inv] w → Rets P f args w fun v w' => ∃ q : ι, v = r q ∧ Mem G' X' w (A :: Ln q) [] w') :
    Rets P f args w fun v w' => ∃ q : ι, v = r q ∧ Mem G X w (B :: A :: Ln q) [] w' := by
  refine Rets.mono (h _ _ (M.enterW (C := [A]) (D := [B]) [1, 0] rfl (by decide) ⟨M.wideC (C := [A]) (D := [B]) [1, 0] rfl (by decide) 0 rfl, trivial⟩)) ?_
  rintro v w' ⟨q, rfl, m⟩
  have M2 := M.leaveW (C := [A]) (D := [B]) [1, 0] rfl (by decide) m
  exact ⟨q, rfl, M2.perm (List.perm_append_comm (l₁ := A :: Ln q) (l₂ := [B]))⟩
theorem tab_reads {ι : Type} (r : ι → Value) (Ln : ι → List Chunk) (M : Mem G X w [tabC t u e S tb row c] [] w)
    (h : ∀ i : TabJ, TabP row c i → ∀ (G' X' : Nat → Prop), Mem G' X' w [arenaC u e i.S i.ab i.l] [bF tb #[.pointer (some ⟨i.ab, 0, none⟩), .int .i64 i.rt.at_, .int .i64 i.rt.turn, .bool i.fu, .int .i64 i.ln] t] w → Rets P f args w fun v w' => ∃ q : ι, v = r q ∧ Mem G' X' w (arenaC u e i.S i.ab i.l :: Ln q) [] w') :
    Rets P f args w fun v w' => ∃ q : ι, v = r q ∧ Mem G X w (tabC t u e S tb row c :: Ln q) [] w' := by
  obtain ⟨i, hi, rfl, M1⟩ := M.unpack
  refine Rets.mono (reads_via r Ln M1 fun G' X' M' => h i hi G' X' M') ?_
  rintro v w' ⟨q, rfl, m⟩
  exact ⟨q, rfl, Mem.pack (Ls := tabL t u e tb) (p := TabP row c) (L := Ln q) i m hi⟩
theorem TabP.up {i : TabJ} (h : TabP row c i) : TabP row (c + 1) i := by
  obtain ⟨K, d, H, hK, hr⟩ := h; exact ⟨K, d, H, Nat.le_trans hK (Nat.mul_le_mul_right _ (Nat.le_succ _)), Nat.le_succ_of_le hr⟩
theorem TabI.small' {l : List RPlace} {r : Handle} {fu : Bool} {ln : Int} {K d : Nat} (H : TabI l r fu ln row K d) (hK : K ≤ 1000000) : SmallA l := H.big.small hK
theorem put_row {i : TabJ} {x : THit} {K d : Nat} (H : TabI i.l i.rt i.fu i.ln row K d) (hK : K ≤ c * 1000) (hr : row.length ≤ c) (hc : c ≤ 900) {S' : Nat → Prop} :
    TabP (putR row x) (c + 1) ⟨i.ab, (putT d i.l i.rt i.fu i.ln x).1.2, true, (putT d i.l i.rt i.fu i.ln x).2.1, (putT d i.l i.rt i.fu i.ln x).1.1, S'⟩ := by
  obtain ⟨d', H', _⟩ := put_tab (x := x) H
  have hd := tab_deep H
  rw [← putR_eq H.up] at H'
  refine ⟨_, d', H', by omega, ?_⟩
  rw [putR_eq H.up]
  have := put_len (x := x) H.up
  omega
end
end Tp
namespace Tp
open Go
section
variable {l : List THit} {i : Nat} {x : THit} {k : ByteArray} {p : ByteArray → Bool} {b : THit × Bool} {q : THit → Bool}
theorem filt_snoc {α : Type} {p : α → Bool} {l : List α} {i : Nat} {x : α} (hx : l[i]? = some x) : (l.take (i + 1)).filter p = (l.take i).filter p ++ if p x then [x] else [] := by
  rw [← take_snoc hx, List.filter_append]; congr 1
  by_cases h : p x <;> simp [h]
theorem filtY {α : Type} {p : α → Bool} {l : List α} {i : Nat} {x : α} (hx : l[i]? = some x) (h : p x = true) : (l.take (i + 1)).filter p = (l.take i).filter p ++ [x] := by rw [filt_snoc hx, h]; rfl
theorem filtN {α : Type} {p : α → Bool} {l : List α} {i : Nat} {x : α} (hx : l[i]? = some x) (h : p x = false) : (l.take (i + 1)).filter p = (l.take i).filter p := by rw [filt_snoc hx, h]; simp
theorem takeW_of {α : Type} {p : α → Bool} : ∀ {l : List α} {i : Nat}, (∀ j u, j < i → l[j]? = some u → p u = true) → (l.length ≤ i ∨ ∃ u, l[i]? = some u ∧ p u = false) → l.takeWhile p = l.take i
  | [], i, _, _ => by simp
  | a :: l, 0, _, h => by
    rcases h with h | ⟨u, h1, h2⟩
    · simp at h
    · simp at h1; subst h1; simp [h2]
  | a :: l, i + 1, hb, h => by
    have ha := hb 0 a (by omega) rfl
    rw [List.takeWhile_cons, if_pos ha, List.take_succ_cons, takeW_of (i := i) (fun j u hj hu => hb (j + 1) u (by omega) hu) (by simpa using h)]
end
end Tp
namespace Tp
open Go
structure TAct where
  do_ : Int
  k : ByteArray
  v : Int
deriving DecidableEq, Inhabited
end Tp
namespace Tp
def rowE (l : List ByteArray) : Nat → List THit
  | 0 => []
  | i + 1 => match l[i]? with | some k => putR (rowE l i) ⟨k, i⟩ | none => rowE l i
section
variable {l : List ByteArray} {i n k : Nat} {x : ByteArray} {row : List THit}
theorem rowE_succ (hx : l[i]? = some x) : rowE l (i + 1) = putR (rowE l i) ⟨x, (i : Int)⟩ := by
  show (match l[i]? with | some k => putR (rowE l i) ⟨k, i⟩ | none => rowE l i) = _
  rw [hx]
end
end Tp
namespace Go.Proofs
open Go Tp
theorem Try.us3 : Try.prog.underlying 3 = some (.int .i64) := by kernel_rfl
theorem Try.cs3 : Try.prog.cellsOf 3 = 1 := by kernel_rfl
theorem Try.us4 : Try.prog.underlying 4 = some (.bool) := by kernel_rfl
theorem Try.us9 : Try.prog.underlying 9 = some (.string) := by kernel_rfl
end Go.Proofs
namespace Tp
open Go
theorem Sh.reList {α : Type} {F : Nat → Prop} {w : World} {size : Nat} {v : Value} {enc : α → List Value} {xs ys : List α} (e : ys = xs) (h : Sh F (SlAt size v xs.length (xs.flatMap enc)) w) : Sh F (SlAt size v ys.length (ys.flatMap enc)) w := e ▸ h
end Tp
namespace Tp
open Go
theorem W.join {P : Program} {n : Nat} {Q : Exit → Env → World → Prop} {ρ : Env} {w : World} {c : Code} (J : Env → World → Prop) (h1 : W P n c (thn J fun _ _ _ => False) ρ w) (h2 : ∀ ρ w, J ρ w → Q .normal ρ w) : W P n c Q ρ w :=
  h1.mono fun e ρ w h => by
    cases e with
    | normal => exact h2 ρ w h
    | _ => exact h.elim
end Tp
set_option maxRecDepth 100000
namespace Go.Proofs
open Go Tp
theorem Try.un22 : Und Try.prog 22 (.slice 9) := by unfold Und; kernel_rfl
theorem Try.un96 : Und Try.prog 96 (.slice 92) := by unfold Und; kernel_rfl
theorem Try.un97 : Und Try.prog 97 (.slice 3) := by unfold Und; kernel_rfl
theorem Try.un140 : Und Try.prog 140 (.slice 145) := by unfold Und; kernel_rfl
theorem Try.un141 : Und Try.prog 141 (.map 3 162) := by unfold Und; kernel_rfl
theorem Try.ag92 : Aggr Try.prog 92 2 := ⟨fun _ => by kernel_rfl, fun _ => by kernel_rfl⟩
theorem Try.ag99 : Aggr Try.prog 99 4 := ⟨fun _ => by kernel_rfl, fun _ => by kernel_rfl⟩
theorem Try.el3 : Elem Try.prog 3 (vI 0) 1 8 := Elem.mk (by kernel_rfl)
theorem Try.el9 : Elem Try.prog 9 (vS sZ) 1 16 := Elem.mk (by kernel_rfl)
theorem Try.el92 : Elem Try.prog 92 (Value.agg #[(vI 0), (vI 0)]) 2 16 := Elem.mk (by kernel_rfl)
theorem Try.el99 : Elem Try.prog 99 (Value.agg #[(vB false), vZ, vZ, vZ]) 4 80 := Elem.mk (by kernel_rfl)
theorem Try.el140 : Elem Try.prog 140 vZ 1 24 := Elem.mk (by kernel_rfl)
theorem Try.el145 : Elem Try.prog 145 (Value.agg #[(vB false), vZ, vZ, vZ, (vI 0)]) 5 88 := Elem.mk (by kernel_rfl)
theorem Try.el162 : Elem Try.prog 162 (Value.agg #[]) 0 0 := Elem.mk (by kernel_rfl)
theorem Try.en81 : Enters Try.prog 81 := fun _ _ => by kernel_rfl
theorem Try.en82 : Enters Try.prog 82 := fun _ _ => by kernel_rfl
theorem Try.en94 : Enters Try.prog 94 := fun _ _ => by kernel_rfl
theorem Try.en95 : Enters Try.prog 95 := fun _ _ => by kernel_rfl
theorem Try.en106 : Enters Try.prog 106 := fun _ _ => by kernel_rfl
theorem Try.en107 : Enters Try.prog 107 := fun _ _ => by kernel_rfl
theorem Try.en108 : Enters Try.prog 108 := fun _ _ => by kernel_rfl
theorem Try.en121 : Enters Try.prog 121 := fun _ _ => by kernel_rfl
theorem Try.en122 : Enters Try.prog 122 := fun _ _ => by kernel_rfl
theorem Try.fl92 : (Try.prog.fieldsOf 92).toList = [⟨ "At", 3, 0, false, "", "", 0⟩, ⟨ "Turn", 3, 1, false, "", "", 8⟩] := by kernel_rfl
theorem Try.eg92 : Try.prog.eqGuardType Try.prog.depth 92 = false := by kernel_rfl
theorem Try.eq92 (d : Nat) (a0 : Int) (a1 : Int) (b0 : Int) (b1 : Int) : ∀ w, (Op.equalIn (d + 2) 92 (Value.agg #[(vI a0), (vI a1)]) (Value.agg #[(vI b0), (vI b1)])).run Try.prog w = .ok (((a0 : Int) == (b0 : Int)) && (((a1 : Int) == (b1 : Int)) && true)) w :=
  (eq_struct (by kernel_rfl) (by kernel_rfl) (Try.fl92) (eqF_cons (x := (vI a0)) (y := (vI b0)) (by decide) (fun _ => by kernel_rfl) (fun _ => by kernel_rfl) (fun w => run_equalIn_int w _ _ _ .i64 _ _ (by kernel_rfl)) (eqF_cons (x := (vI a1)) (y := (vI b1)) (by decide) (fun _ => by kernel_rfl) (fun _ => by kernel_rfl) (fun w => run_equalIn_int w _ _ _ .i64 _ _ (by kernel_rfl)) eqF_nil)))
theorem Try.mt141 : MapT Try.prog 141 3 162 .i64 (Value.agg #[]) := ⟨Try.un141, by unfold Und; kernel_rfl, (Elem.mk (size := 0) (bytes := 0) (by kernel_rfl)).zero⟩
theorem Try.sc3 : Scal Try.prog 3 := fun _ => by kernel_rfl
theorem Try.sc4 : Scal Try.prog 4 := fun _ => by kernel_rfl
theorem Try.sc22 : Scal Try.prog 22 := fun _ => by kernel_rfl
theorem Try.sc96 : Scal Try.prog 96 := fun _ => by kernel_rfl
theorem Try.sc97 : Scal Try.prog 97 := fun _ => by kernel_rfl
theorem Try.sc140 : Scal Try.prog 140 := fun _ => by kernel_rfl
theorem Try.sc141 : Scal Try.prog 141 := fun _ => by kernel_rfl
theorem Try.mixed : Try.prog.follows .mixedOrders = true := by kernel_rfl
abbrev oS (v : Value) (xs : List ByteArray) : Chunk := own 9 1 v xs.length (xs.flatMap strE)
abbrev fS (v : Value) (xs : List ByteArray) : World → Prop := SlAt 1 v xs.length (xs.flatMap strE)
abbrev oI (v : Value) (xs : List Int) : Chunk := own 3 1 v xs.length (xs.flatMap intE)
abbrev fI (v : Value) (xs : List Int) : World → Prop := SlAt 1 v xs.length (xs.flatMap intE)
abbrev oH (v : Value) (xs : List Handle) : Chunk := own 92 2 v xs.length (xs.flatMap handleE)
abbrev fH (v : Value) (xs : List Handle) : World → Prop := SlAt 2 v xs.length (xs.flatMap handleE)
theorem clone_int {G : Nat → Prop} {w : World} (v : Value) (xs : List Int)  (hb : xs.length * 8 ≤ 140737488355328) (M : Mem G (fun _ => False) w [] [fI v xs] w) : Rets Try.prog 108 #[v] w fun r w' => ∃ (v' : Value), r = v' ∧ Mem G (fun _ => False) w [oI v' xs] [] w' := by
 refine Rets.enter 8 _ Try.func108 rfl Try.ntmps108 Try.results108 (by simp) ?_
 have hle1 := SlAt.le' (M.rep 0 rfl)
 have sl2 : IsSl v := SlAt.isSl (Mem.rep M 0 rfl)
 refine wR (wA vZ (WL.nil (W.seq' (wR (wM v ?_)))))
 rcases SlAt.cases (M.rep 0 rfl) with ⟨hn3, hn3z⟩ | ⟨_, _, hn3⟩
 ·
  refine wS (vB true) rfl (Step.eqNil Try.un97 rfl hn3 rfl) (WL.nil ?_)
  refine W.cond (t := true) rfl (fun _ => ?_) (fun h => by cases h)
  refine wR (wA vZ (WL.nil ?_))
  refine W.ret ?_
  refine ⟨.inl rfl, vZ, ?_, ?_⟩
  · exact ⟨rfl, (Res.r1 (show RV _ _ _ (.tmp 2) vZ from by exact rfl))⟩
  replace M := M.ownNil 3 1
  have e4 : xs = [] := by
   exact List.eq_nil_of_length_eq_zero hn3z
  replace M := M.rechunk 0 (c' := oI vZ xs) rfl (by rw [e4]; try rfl)
  refine ⟨vZ, ?_, M.close [0] rfl (by decide) trivial⟩
  rfl
 ·
  refine wS (vB false) rfl (Step.eqSome Try.un97 rfl hn3 rfl) (WL.nil ?_)
  refine W.cond (t := false) rfl (fun h => by cases h) (fun _ => ?_)
  refine W.skip (wR ?_)
  refine WL.new (obj := .cells #[] 3) (fun b => .slice (some ⟨b, 0, none⟩) 0 0) M rfl (fun w => Step.make (by kernel_rfl)) (fun b5 w6 hb5 M => ?_)
  refine wM v ?_
  replace M := M.ownBlk 0 (n := 0) (size := 1) rfl rfl (by decide)
  refine WL.does rfl (M.appendF ([] : List Int) xs (sv := v) 0 Try.un97 Try.el3 rfl (by decide) rfl rfl rfl (M.rep 0 rfl) intE_cel (by have := trivial; simp only [maxLen, List.length_nil, List.length_cons, List.length_append]; omega) (by have := trivial; (try simp only [List.length_nil, List.length_cons, List.length_append]); omega)) ?_
  rintro v7 w8 M
  have sl9 : IsSl v7 := SlAt.isSl (own_slAt (M.chunk 0 rfl).inv)
  refine wA v7 (WL.nil ?_)
  refine W.ret ?_
  refine ⟨.inl rfl, v7, ?_, ?_⟩
  · exact ⟨rfl, (Res.r1 (show RV _ _ _ (.tmp 2) v7 from by exact rfl))⟩
  refine ⟨v7, ?_, M.close [0] rfl (by decide) trivial⟩
  rfl
theorem delete_int {G X : Nat → Prop} {w : World} (v : Value) (xs : List Int) (a : Int) (b : Int)  (hab : 0 ≤ a ∧ a < b ∧ b ≤ xs.length) (M : Mem G X w [oI v xs] [] w) : Rets Try.prog 90 #[v, (vI a), (vI b)] w fun r w' => ∃ (v' : Value), r = v' ∧ Mem G X w [oI v' (xs.take (Int.toNat a) ++ xs.drop (Int.toNat b))] [] w' := by
 refine Rets.enter 33 _ Try.func90 rfl Try.ntmps90 Try.results90 (by simp) ?_
 have sl1 : IsSl v := SlAt.isSl (own_slAt (Mem.chunk M 0 rfl).inv)
 have hle2 := SlAt.le' (own_slAt (Mem.chunk M 0 rfl).inv)
 have hcl : (xs.take a.toNat ++ xs.drop b.toNat).length = a.toNat + (xs.length - b.toNat) := by (simp; omega)
 have hsv := (own_slAt (M.chunk 0 rfl).inv).shp
 have hcv : vCap (vTake (a.toNat + (xs.length - b.toNat)) v) = vCap v := Shp.cap hsv
 obtain ⟨_, _, hsv1, hsv2⟩ := id hsv
 refine wR (wA vZ (WL.nil (wR (wM v (wM (vI a) ?_)))))
 refine wM (vI b) (wM v (wS (vI ↑xs.length) rfl (Step.lenSl Try.un97 rfl (own_slAt (M.chunk 0 rfl).inv)) ?_))
 have hsh3 := SlAt.shp (own_slAt (M.chunk 0 rfl).inv)
 have hsh3c := hsh3
 obtain ⟨_, _, hsh3l, hsh3m⟩ := hsh3c
 refine wS (vSlice 1 a.toNat b.toNat xs.length v) rfl (Step.slice4P (l := a.toNat) (h := b.toNat) (m := xs.length) Try.un97 Try.el3.sized rfl rfl (by omega) rfl (by omega) rfl (by omega) hsh3 (by omega) (by omega) (by obtain ⟨_, _, _, _⟩ := hsh3; omega)) (WL.nil (W.seq' (wR (wM (vI a) (wM (vI b) ?_)))))
 refine wP (vB ((a : Int) == (b : Int))) (WL.nil ?_)
 refine W.cond (t := (a : Int) == (b : Int)) rfl (fun h4 => ?_) (fun h4 => ?_)
 ·
  have h4p : (a : Int) = (b : Int) := by simpa using h4
  omega
 ·
  have h4p : ¬ (a : Int) = (b : Int) := by simpa using h4
  refine W.skip (wR (wM v (wS (vI ↑xs.length) rfl (Step.lenSl Try.un97 rfl (own_slAt (M.chunk 0 rfl).inv)) (wA (vI ↑xs.length) (WL.nil ?_)))))
  refine W.seq' ?_
  refine W.drawn M [0, 1, 2, 3, 4, 5, 6, 7] [6] [] _ _ (sN sE) (fun _ h => h) Try.mixed (by kernel_rfl) ?_
  refine tP v rfl (fun w => (Step.move rfl)) ?_
  refine tP (vI a) rfl (fun w => (Step.move rfl)) ?_
  refine tP (vTake a.toNat v) rfl (fun w => (Step.sliceToP (h := a.toNat) Try.un97 Try.el3.sized rfl rfl (by omega) hsh3 (by obtain ⟨_, _, _, _⟩ := hsh3; omega))) ?_
  refine tP v rfl (fun w => (Step.move rfl)) ?_
  refine tP (vI b) rfl (fun w => (Step.move rfl)) ?_
  refine tP (vSlice 1 b.toNat xs.length (vCap v) v) rfl (fun w => (Step.sliceFromP (l := b.toNat) Try.un97 Try.el3.sized rfl rfl (by omega) hsh3 (by omega))) ?_
  refine TW.act (c' := oI (vTake (a.toNat + (xs.length - b.toNat)) v) (xs.take a.toNat ++ xs.drop b.toNat)) 0 rfl rfl (by decide) rfl (sN sE) (fun r h => h) (fun A w M => M.appendCutF intE_len (a := a.toNat) (b := b.toNat) 1 rfl Try.un97 Try.el3 rfl rfl (by omega) (by omega) (by omega) intE_cel) ?_
  refine tP (vTake (a.toNat + (xs.length - b.toNat)) v) rfl (fun w => (Step.assign rfl)) ?_
  refine TW.done (fun w5 M => ?_)
  refine wR (wM (vTake (a.toNat + (xs.length - b.toNat)) v) (wM (vTake (a.toNat + (xs.length - b.toNat)) v) (wS (vI (↑((xs.take a.toNat ++ xs.drop b.toNat).length))) rfl (Step.lenSl Try.un97 rfl (own_slAt (M.chunk 0 rfl).inv)) (wM (vI ↑xs.length) ?_))))
  have hsh6 := SlAt.shp (own_slAt (M.chunk 0 rfl).inv)
  have hsh6c := hsh6
  obtain ⟨_, _, hsh6l, hsh6m⟩ := hsh6c
  refine wS (vSlice 1 ((xs.take a.toNat ++ xs.drop b.toNat).length) xs.length (vCap (vTake (a.toNat + (xs.length - b.toNat)) v)) (vTake (a.toNat + (xs.length - b.toNat)) v)) rfl (Step.sliceLHP (l := (xs.take a.toNat ++ xs.drop b.toNat).length) (h := xs.length) Try.un97 Try.el3.sized rfl rfl (by omega) rfl (by omega) hsh6 (by omega) (by obtain ⟨_, _, _, _⟩ := hsh6; omega)) ?_
  refine WL.act rfl (M.clearTailF intE_len (l := (xs.take a.toNat ++ xs.drop b.toNat).length) (h := xs.length) 0 rfl Try.un97 Try.el3 rfl (cel_cons rfl cel_nil) rfl (by simp only [List.length_append, List.length_take, List.length_drop]; omega) (by omega) (by omega) (Nat.le_refl _)) ?_
  rintro w7 ⟨M, -⟩
  refine WL.nil (wR (wM (vTake (a.toNat + (xs.length - b.toNat)) v) (wA (vTake (a.toNat + (xs.length - b.toNat)) v) (WL.nil ?_))))
  refine W.ret ?_
  refine ⟨.inl rfl, (vTake (a.toNat + (xs.length - b.toNat)) v), ?_, ?_⟩
  · exact ⟨rfl, (Res.r1 (show RV _ _ _ (.tmp 6) (vTake (a.toNat + (xs.length - b.toNat)) v) from by exact rfl))⟩
  have e8 : xs.take (Int.toNat a) ++ xs.drop (Int.toNat b) = xs.take a.toNat ++ xs.drop b.toNat := by
   rfl
  replace M := M.rechunk 0 (c' := oI (vTake (a.toNat + (xs.length - b.toNat)) v) (xs.take (Int.toNat a) ++ xs.drop (Int.toNat b))) rfl (congrArg (fun z => own 3 1 (vTake (a.toNat + (xs.length - b.toNat)) v) z.length (z.flatMap intE)) e8.symm)
  refine ⟨(vTake (a.toNat + (xs.length - b.toNat)) v), ?_, M.close [0] rfl (by decide) trivial⟩
  rfl
theorem clone_str {G : Nat → Prop} {w : World} (v : Value) (xs : List ByteArray)  (hb : xs.length * 16 ≤ 140737488355328) (M : Mem G (fun _ => False) w [] [fS v xs] w) : Rets Try.prog 106 #[v] w fun r w' => ∃ (v' : Value), r = v' ∧ Mem G (fun _ => False) w [oS v' xs] [] w' := by
 refine Rets.enter 8 _ Try.func106 rfl Try.ntmps106 Try.results106 (by simp) ?_
 have hle1 := SlAt.le' (M.rep 0 rfl)
 have sl2 : IsSl v := SlAt.isSl (Mem.rep M 0 rfl)
 refine wR (wA vZ (WL.nil (W.seq' (wR (wM v ?_)))))
 rcases SlAt.cases (M.rep 0 rfl) with ⟨hn3, hn3z⟩ | ⟨_, _, hn3⟩
 ·
  refine wS (vB true) rfl (Step.eqNil Try.un22 rfl hn3 rfl) (WL.nil ?_)
  refine W.cond (t := true) rfl (fun _ => ?_) (fun h => by cases h)
  refine wR (wA vZ (WL.nil ?_))
  refine W.ret ?_
  refine ⟨.inl rfl, vZ, ?_, ?_⟩
  · exact ⟨rfl, (Res.r1 (show RV _ _ _ (.tmp 2) vZ from by exact rfl))⟩
  replace M := M.ownNil 9 1
  have e4 : xs = [] := by
   exact List.eq_nil_of_length_eq_zero hn3z
  replace M := M.rechunk 0 (c' := oS vZ xs) rfl (by rw [e4]; try rfl)
  refine ⟨vZ, ?_, M.close [0] rfl (by decide) trivial⟩
  rfl
 ·
  refine wS (vB false) rfl (Step.eqSome Try.un22 rfl hn3 rfl) (WL.nil ?_)
  refine W.cond (t := false) rfl (fun h => by cases h) (fun _ => ?_)
  refine W.skip (wR ?_)
  refine WL.new (obj := .cells #[] 9) (fun b => .slice (some ⟨b, 0, none⟩) 0 0) M rfl (fun w => Step.make (by kernel_rfl)) (fun b5 w6 hb5 M => ?_)
  refine wM v ?_
  replace M := M.ownBlk 0 (n := 0) (size := 1) rfl rfl (by decide)
  refine WL.does rfl (M.appendF ([] : List ByteArray) xs (sv := v) 0 Try.un22 Try.el9 rfl (by decide) rfl rfl rfl (M.rep 0 rfl) strE_cel (by have := trivial; simp only [maxLen, List.length_nil, List.length_cons, List.length_append]; omega) (by have := trivial; (try simp only [List.length_nil, List.length_cons, List.length_append]); omega)) ?_
  rintro v7 w8 M
  have sl9 : IsSl v7 := SlAt.isSl (own_slAt (M.chunk 0 rfl).inv)
  refine wA v7 (WL.nil ?_)
  refine W.ret ?_
  refine ⟨.inl rfl, v7, ?_, ?_⟩
  · exact ⟨rfl, (Res.r1 (show RV _ _ _ (.tmp 2) v7 from by exact rfl))⟩
  refine ⟨v7, ?_, M.close [0] rfl (by decide) trivial⟩
  rfl
theorem delete_str {G X : Nat → Prop} {w : World} (v : Value) (xs : List ByteArray) (a : Int) (b : Int)  (hab : 0 ≤ a ∧ a < b ∧ b ≤ xs.length) (M : Mem G X w [oS v xs] [] w) : Rets Try.prog 89 #[v, (vI a), (vI b)] w fun r w' => ∃ (v' : Value), r = v' ∧ Mem G X w [oS v' (xs.take (Int.toNat a) ++ xs.drop (Int.toNat b))] [] w' := by
 refine Rets.enter 33 _ Try.func89 rfl Try.ntmps89 Try.results89 (by simp) ?_
 have sl1 : IsSl v := SlAt.isSl (own_slAt (Mem.chunk M 0 rfl).inv)
 have hle2 := SlAt.le' (own_slAt (Mem.chunk M 0 rfl).inv)
 have hcl : (xs.take a.toNat ++ xs.drop b.toNat).length = a.toNat + (xs.length - b.toNat) := by (simp; omega)
 have hsv := (own_slAt (M.chunk 0 rfl).inv).shp
 have hcv : vCap (vTake (a.toNat + (xs.length - b.toNat)) v) = vCap v := Shp.cap hsv
 obtain ⟨_, _, hsv1, hsv2⟩ := id hsv
 refine wR (wA vZ (WL.nil (wR (wM v (wM (vI a) ?_)))))
 refine wM (vI b) (wM v (wS (vI ↑xs.length) rfl (Step.lenSl Try.un22 rfl (own_slAt (M.chunk 0 rfl).inv)) ?_))
 have hsh3 := SlAt.shp (own_slAt (M.chunk 0 rfl).inv)
 have hsh3c := hsh3
 obtain ⟨_, _, hsh3l, hsh3m⟩ := hsh3c
 refine wS (vSlice 1 a.toNat b.toNat xs.length v) rfl (Step.slice4P (l := a.toNat) (h := b.toNat) (m := xs.length) Try.un22 Try.el9.sized rfl rfl (by omega) rfl (by omega) rfl (by omega) hsh3 (by omega) (by omega) (by obtain ⟨_, _, _, _⟩ := hsh3; omega)) (WL.nil (W.seq' (wR (wM (vI a) (wM (vI b) ?_)))))
 refine wP (vB ((a : Int) == (b : Int))) (WL.nil ?_)
 refine W.cond (t := (a : Int) == (b : Int)) rfl (fun h4 => ?_) (fun h4 => ?_)
 ·
  have h4p : (a : Int) = (b : Int) := by simpa using h4
  omega
 ·
  have h4p : ¬ (a : Int) = (b : Int) := by simpa using h4
  refine W.skip (wR (wM v (wS (vI ↑xs.length) rfl (Step.lenSl Try.un22 rfl (own_slAt (M.chunk 0 rfl).inv)) (wA (vI ↑xs.length) (WL.nil ?_)))))
  refine W.seq' ?_
  refine W.drawn M [0, 1, 2, 3, 4, 5, 6, 7] [6] [] _ _ (sN sE) (fun _ h => h) Try.mixed (by kernel_rfl) ?_
  refine tP v rfl (fun w => (Step.move rfl)) ?_
  refine tP (vI a) rfl (fun w => (Step.move rfl)) ?_
  refine tP (vTake a.toNat v) rfl (fun w => (Step.sliceToP (h := a.toNat) Try.un22 Try.el9.sized rfl rfl (by omega) hsh3 (by obtain ⟨_, _, _, _⟩ := hsh3; omega))) ?_
  refine tP v rfl (fun w => (Step.move rfl)) ?_
  refine tP (vI b) rfl (fun w => (Step.move rfl)) ?_
  refine tP (vSlice 1 b.toNat xs.length (vCap v) v) rfl (fun w => (Step.sliceFromP (l := b.toNat) Try.un22 Try.el9.sized rfl rfl (by omega) hsh3 (by omega))) ?_
  refine TW.act (c' := oS (vTake (a.toNat + (xs.length - b.toNat)) v) (xs.take a.toNat ++ xs.drop b.toNat)) 0 rfl rfl (by decide) rfl (sN sE) (fun r h => h) (fun A w M => M.appendCutF strE_len (a := a.toNat) (b := b.toNat) 1 rfl Try.un22 Try.el9 rfl rfl (by omega) (by omega) (by omega) strE_cel) ?_
  refine tP (vTake (a.toNat + (xs.length - b.toNat)) v) rfl (fun w => (Step.assign rfl)) ?_
  refine TW.done (fun w5 M => ?_)
  refine wR (wM (vTake (a.toNat + (xs.length - b.toNat)) v) (wM (vTake (a.toNat + (xs.length - b.toNat)) v) (wS (vI (↑((xs.take a.toNat ++ xs.drop b.toNat).length))) rfl (Step.lenSl Try.un22 rfl (own_slAt (M.chunk 0 rfl).inv)) (wM (vI ↑xs.length) ?_))))
  have hsh6 := SlAt.shp (own_slAt (M.chunk 0 rfl).inv)
  have hsh6c := hsh6
  obtain ⟨_, _, hsh6l, hsh6m⟩ := hsh6c
  refine wS (vSlice 1 ((xs.take a.toNat ++ xs.drop b.toNat).length) xs.length (vCap (vTake (a.toNat + (xs.length - b.toNat)) v)) (vTake (a.toNat + (xs.length - b.toNat)) v)) rfl (Step.sliceLHP (l := (xs.take a.toNat ++ xs.drop b.toNat).length) (h := xs.length) Try.un22 Try.el9.sized rfl rfl (by omega) rfl (by omega) hsh6 (by omega) (by obtain ⟨_, _, _, _⟩ := hsh6; omega)) ?_
  refine WL.act rfl (M.clearTailF strE_len (l := (xs.take a.toNat ++ xs.drop b.toNat).length) (h := xs.length) 0 rfl Try.un22 Try.el9 rfl (cel_cons rfl cel_nil) rfl (by simp only [List.length_append, List.length_take, List.length_drop]; omega) (by omega) (by omega) (Nat.le_refl _)) ?_
  rintro w7 ⟨M, -⟩
  refine WL.nil (wR (wM (vTake (a.toNat + (xs.length - b.toNat)) v) (wA (vTake (a.toNat + (xs.length - b.toNat)) v) (WL.nil ?_))))
  refine W.ret ?_
  refine ⟨.inl rfl, (vTake (a.toNat + (xs.length - b.toNat)) v), ?_, ?_⟩
  · exact ⟨rfl, (Res.r1 (show RV _ _ _ (.tmp 6) (vTake (a.toNat + (xs.length - b.toNat)) v) from by exact rfl))⟩
  have e8 : xs.take (Int.toNat a) ++ xs.drop (Int.toNat b) = xs.take a.toNat ++ xs.drop b.toNat := by
   rfl
  replace M := M.rechunk 0 (c' := oS (vTake (a.toNat + (xs.length - b.toNat)) v) (xs.take (Int.toNat a) ++ xs.drop (Int.toNat b))) rfl (congrArg (fun z => own 9 1 (vTake (a.toNat + (xs.length - b.toNat)) v) z.length (z.flatMap strE)) e8.symm)
  refine ⟨(vTake (a.toNat + (xs.length - b.toNat)) v), ?_, M.close [0] rfl (by decide) trivial⟩
  rfl
theorem clone_hdl {G : Nat → Prop} {w : World} (v : Value) (xs : List Handle)  (hb : xs.length * 16 ≤ 140737488355328) (M : Mem G (fun _ => False) w [] [fH v xs] w) : Rets Try.prog 107 #[v] w fun r w' => ∃ (v' : Value), r = v' ∧ Mem G (fun _ => False) w [oH v' xs] [] w' := by
 refine Rets.enter 8 _ Try.func107 rfl Try.ntmps107 Try.results107 (by simp) ?_
 have hle1 := SlAt.le' (M.rep 0 rfl)
 have sl2 : IsSl v := SlAt.isSl (Mem.rep M 0 rfl)
 refine wR (wA vZ (WL.nil (W.seq' (wR (wM v ?_)))))
 rcases SlAt.cases (M.rep 0 rfl) with ⟨hn3, hn3z⟩ | ⟨_, _, hn3⟩
 ·
  refine wS (vB true) rfl (Step.eqNil Try.un96 rfl hn3 rfl) (WL.nil ?_)
  refine W.cond (t := true) rfl (fun _ => ?_) (fun h => by cases h)
  refine wR (wA vZ (WL.nil ?_))
  refine W.ret ?_
  refine ⟨.inl rfl, vZ, ?_, ?_⟩
  · exact ⟨rfl, (Res.r1 (show RV _ _ _ (.tmp 2) vZ from by exact rfl))⟩
  replace M := M.ownNil 92 2
  have e4 : xs = [] := by
   exact List.eq_nil_of_length_eq_zero hn3z
  replace M := M.rechunk 0 (c' := oH vZ xs) rfl (by rw [e4]; try rfl)
  refine ⟨vZ, ?_, M.close [0] rfl (by decide) trivial⟩
  rfl
 ·
  refine wS (vB false) rfl (Step.eqSome Try.un96 rfl hn3 rfl) (WL.nil ?_)
  refine W.cond (t := false) rfl (fun h => by cases h) (fun _ => ?_)
  refine W.skip (wR ?_)
  refine WL.new (obj := .cells #[] 92) (fun b => .slice (some ⟨b, 0, none⟩) 0 0) M rfl (fun w => Step.make (by kernel_rfl)) (fun b5 w6 hb5 M => ?_)
  refine wM v ?_
  replace M := M.ownBlk 0 (n := 0) (size := 2) rfl rfl (by decide)
  refine WL.does rfl (M.appendF ([] : List Handle) xs (sv := v) 0 Try.un96 Try.el92 rfl (by decide) rfl rfl rfl (M.rep 0 rfl) handleE_cel (by have := trivial; simp only [maxLen, List.length_nil, List.length_cons, List.length_append]; omega) (by have := trivial; (try simp only [List.length_nil, List.length_cons, List.length_append]); omega)) ?_
  rintro v7 w8 M
  have sl9 : IsSl v7 := SlAt.isSl (own_slAt (M.chunk 0 rfl).inv)
  refine wA v7 (WL.nil ?_)
  refine W.ret ?_
  refine ⟨.inl rfl, v7, ?_, ?_⟩
  · exact ⟨rfl, (Res.r1 (show RV _ _ _ (.tmp 2) v7 from by exact rfl))⟩
  refine ⟨v7, ?_, M.close [0] rfl (by decide) trivial⟩
  rfl
theorem delete_hdl {G X : Nat → Prop} {w : World} (v : Value) (xs : List Handle) (a : Int) (b : Int)  (hab : 0 ≤ a ∧ a < b ∧ b ≤ xs.length) (M : Mem G X w [oH v xs] [] w) : Rets Try.prog 130 #[v, (vI a), (vI b)] w fun r w' => ∃ (v' : Value), r = v' ∧ Mem G X w [oH v' (xs.take (Int.toNat a) ++ xs.drop (Int.toNat b))] [] w' := by
 refine Rets.enter 33 _ Try.func130 rfl Try.ntmps130 Try.results130 (by simp) ?_
 have sl1 : IsSl v := SlAt.isSl (own_slAt (Mem.chunk M 0 rfl).inv)
 have hle2 := SlAt.le' (own_slAt (Mem.chunk M 0 rfl).inv)
 have hcl : (xs.take a.toNat ++ xs.drop b.toNat).length = a.toNat + (xs.length - b.toNat) := by (simp; omega)
 have hsv := (own_slAt (M.chunk 0 rfl).inv).shp
 have hcv : vCap (vTake (a.toNat + (xs.length - b.toNat)) v) = vCap v := Shp.cap hsv
 obtain ⟨_, _, hsv1, hsv2⟩ := id hsv
 refine wR (wA vZ (WL.nil (wR (wM v (wM (vI a) ?_)))))
 refine wM (vI b) (wM v (wS (vI ↑xs.length) rfl (Step.lenSl Try.un96 rfl (own_slAt (M.chunk 0 rfl).inv)) ?_))
 have hsh3 := SlAt.shp (own_slAt (M.chunk 0 rfl).inv)
 have hsh3c := hsh3
 obtain ⟨_, _, hsh3l, hsh3m⟩ := hsh3c
 refine wS (vSlice 2 a.toNat b.toNat xs.length v) rfl (Step.slice4P (l := a.toNat) (h := b.toNat) (m := xs.length) Try.un96 Try.el92.sized rfl rfl (by omega) rfl (by omega) rfl (by omega) hsh3 (by omega) (by omega) (by obtain ⟨_, _, _, _⟩ := hsh3; omega)) (WL.nil (W.seq' (wR (wM (vI a) (wM (vI b) ?_)))))
 refine wP (vB ((a : Int) == (b : Int))) (WL.nil ?_)
 refine W.cond (t := (a : Int) == (b : Int)) rfl (fun h4 => ?_) (fun h4 => ?_)
 ·
  have h4p : (a : Int) = (b : Int) := by simpa using h4
  omega
 ·
  have h4p : ¬ (a : Int) = (b : Int) := by simpa using h4
  refine W.skip (wR (wM v (wS (vI ↑xs.length) rfl (Step.lenSl Try.un96 rfl (own_slAt (M.chunk 0 rfl).inv)) (wA (vI ↑xs.length) (WL.nil ?_)))))
  refine W.seq' ?_
  refine W.drawn M [0, 1, 2, 3, 4, 5, 6, 7] [6] [] _ _ (sN sE) (fun _ h => h) Try.mixed (by kernel_rfl) ?_
  refine tP v rfl (fun w => (Step.move rfl)) ?_
  refine tP (vI a) rfl (fun w => (Step.move rfl)) ?_
  refine tP (vTake a.toNat v) rfl (fun w => (Step.sliceToP (h := a.toNat) Try.un96 Try.el92.sized rfl rfl (by omega) hsh3 (by obtain ⟨_, _, _, _⟩ := hsh3; omega))) ?_
  refine tP v rfl (fun w => (Step.move rfl)) ?_
  refine tP (vI b) rfl (fun w => (Step.move rfl)) ?_
  refine tP (vSlice 2 b.toNat xs.length (vCap v) v) rfl (fun w => (Step.sliceFromP (l := b.toNat) Try.un96 Try.el92.sized rfl rfl (by omega) hsh3 (by omega))) ?_
  refine TW.act (c' := oH (vTake (a.toNat + (xs.length - b.toNat)) v) (xs.take a.toNat ++ xs.drop b.toNat)) 0 rfl rfl (by decide) rfl (sN sE) (fun r h => h) (fun A w M => M.appendCutF handleE_len (a := a.toNat) (b := b.toNat) 1 rfl Try.un96 Try.el92 rfl rfl (by omega) (by omega) (by omega) handleE_cel) ?_
  refine tP (vTake (a.toNat + (xs.length - b.toNat)) v) rfl (fun w => (Step.assign rfl)) ?_
  refine TW.done (fun w5 M => ?_)
  refine wR (wM (vTake (a.toNat + (xs.length - b.toNat)) v) (wM (vTake (a.toNat + (xs.length - b.toNat)) v) (wS (vI (↑((xs.take a.toNat ++ xs.drop b.toNat).length))) rfl (Step.lenSl Try.un96 rfl (own_slAt (M.chunk 0 rfl).inv)) (wM (vI ↑xs.length) ?_))))
  have hsh6 := SlAt.shp (own_slAt (M.chunk 0 rfl).inv)
  have hsh6c := hsh6
  obtain ⟨_, _, hsh6l, hsh6m⟩ := hsh6c
  refine wS (vSlice 2 ((xs.take a.toNat ++ xs.drop b.toNat).length) xs.length (vCap (vTake (a.toNat + (xs.length - b.toNat)) v)) (vTake (a.toNat + (xs.length - b.toNat)) v)) rfl (Step.sliceLHP (l := (xs.take a.toNat ++ xs.drop b.toNat).length) (h := xs.length) Try.un96 Try.el92.sized rfl rfl (by omega) rfl (by omega) hsh6 (by omega) (by obtain ⟨_, _, _, _⟩ := hsh6; omega)) ?_
  refine WL.act rfl (M.clearTailF handleE_len (l := (xs.take a.toNat ++ xs.drop b.toNat).length) (h := xs.length) 0 rfl Try.un96 Try.el92 rfl (cel_cons rfl (cel_cons rfl cel_nil)) rfl (by simp only [List.length_append, List.length_take, List.length_drop]; omega) (by omega) (by omega) (Nat.le_refl _)) ?_
  rintro w7 ⟨M, -⟩
  refine WL.nil (wR (wM (vTake (a.toNat + (xs.length - b.toNat)) v) (wA (vTake (a.toNat + (xs.length - b.toNat)) v) (WL.nil ?_))))
  refine W.ret ?_
  refine ⟨.inl rfl, (vTake (a.toNat + (xs.length - b.toNat)) v), ?_, ?_⟩
  · exact ⟨rfl, (Res.r1 (show RV _ _ _ (.tmp 6) (vTake (a.toNat + (xs.length - b.toNat)) v) from by exact rfl))⟩
  have e8 : xs.take (Int.toNat a) ++ xs.drop (Int.toNat b) = xs.take a.toNat ++ xs.drop b.toNat := by
   rfl
  replace M := M.rechunk 0 (c' := oH (vTake (a.toNat + (xs.length - b.toNat)) v) (xs.take (Int.toNat a) ++ xs.drop (Int.toNat b))) rfl (congrArg (fun z => own 92 2 (vTake (a.toNat + (xs.length - b.toNat)) v) z.length (z.flatMap handleE)) e8.symm)
  refine ⟨(vTake (a.toNat + (xs.length - b.toNat)) v), ?_, M.close [0] rfl (by decide) trivial⟩
  rfl
theorem index_handle {G : Nat → Prop} {w : World} (v : Value) (xs : List Handle) (h : Handle)   (M : Mem G (fun _ => False) w [] [fH v xs] w) : Rets Try.prog 122 #[v, (Value.agg #[(vI h.at_), (vI h.turn)])] w fun r w' => r = (vI (findIx xs h)) ∧ Mem G (fun _ => False) w [] [] w' := by
 refine Rets.enter 19 _ Try.func122 rfl Try.ntmps122 Try.results122 (by simp) ?_
 have hle1 := SlAt.le' (M.rep 0 rfl)
 have sl2 : IsSl v := SlAt.isSl (Mem.rep M 0 rfl)
 refine wR ?_
 refine WL.box (v := (Value.agg #[(vI h.at_), (vI h.turn)])) (c := #[(vI h.at_), (vI h.turn)]) M rfl rfl rfl (fun b3 w4 hb3 M => ?_)
 refine wA (vI 0) (WL.nil (W.seq' (wR (wM v (wS (vI ↑xs.length) rfl (Step.lenSl Try.un96 rfl (M.rep 0 rfl)) ?_)))))
 refine wM (vI 0) (WL.nil (W.block ?_))
 refine W.loop (fun kk ρ w' => ∃ (i : Nat), ((i ≤ xs.length) ∧ (∀ j, j < i → xs[j]? ≠ some h) ∧ kk = xs.length - i) ∧ ρ.has [(0, v), (3, (vP b3)), (7, (vI ↑xs.length)), (8, (vI ↑i))] ∧ Mem G (fun _ => False) w [bk b3 #[(vI h.at_), (vI h.turn)] 92] [fH v xs]  w') _ ⟨0, ⟨(Nat.zero_le _), (fun _ h => absurd h (Nat.not_lt_zero _)), rfl⟩, ⟨rfl, rfl, rfl, rfl, rfl, rfl⟩, M⟩ ?_
 rintro _ ρ6 w5 ⟨i, ⟨hi7, hi8, rfl⟩, hρ, M⟩
 obtain ⟨ρ6, rfl⟩ := hρ.know
 clear hρ
 refine wR (wP (vB (decide ((↑i : Int) < (↑xs.length : Int)))) (WL.nil (W.seq' ?_)))
 refine W.cond (t := decide ((↑i : Int) < (↑xs.length : Int))) rfl (fun h9 => ?_) (fun h9 => ?_)
 ·
  have h9p := of_decide_eq_true h9
  refine W.skip (W.seq' (W.block (wR (wM (vI ↑i) (wA (vI ↑i) ?_)))))
  refine WL.nil (W.seq' ?_)
  obtain ⟨cap11, hb10⟩ := SlAt.base (M.rep 0 rfl) (by omega)
  obtain ⟨x12, hx12⟩ := elem_of_lt (xs := xs) (i := i) (by omega)
  refine W.drawn M [0, 1, 2, 3, 4, 5] [] [] _ _ (sY sE) (fun _ h => h) Try.mixed (by kernel_rfl) ?_
  refine tR (Value.agg #[(vI h.at_), (vI h.turn)]) rfl (fun A w M => (Step.loadN Try.ag92 rfl (M.blk 1 rfl) (Nat.le_of_ble_eq_true rfl) rfl)) ?_
  refine tP v rfl (fun w => (Step.move rfl)) ?_
  refine tP (vI ↑i) rfl (fun w => (Step.move rfl)) ?_
  refine tP (vQ v i 2) rfl (fun w => (sX i Try.un96 Try.el92 rfl rfl hb10)) ?_
  refine tR (Value.agg #[(vI x12.at_), (vI x12.turn)]) rfl (fun A w M => (Step.loadEN (k := 0) (cs' := [(vI x12.at_), (vI x12.turn)]) Try.ag92 (flat_ec (M.rep 0 rfl) hx12 handleE_len) (by decide) rfl rfl rfl)) ?_
  refine tP (vB (((h.at_ : Int) == (x12.at_ : Int)) && (((h.turn : Int) == (x12.turn : Int)) && true))) rfl (fun w => (Step.eqAgg Try.eg92 rfl rfl rfl (Try.eq92 9998 (h.at_ : Int) (h.turn : Int) (x12.at_ : Int) (x12.turn : Int)))) ?_
  refine TW.done (fun w13 M => ?_)
  refine W.cond (t := ((h.at_ : Int) == (x12.at_ : Int)) && (((h.turn : Int) == (x12.turn : Int)) && true)) rfl (fun h14 => ?_) (fun h14 => ?_)
  ·
   refine wR (wM (vI ↑i) (wA (vI ↑i) (WL.nil ?_)))
   refine W.ret ?_
   refine ⟨.inl rfl, (vI ↑i), ?_, ?_⟩
   · exact ⟨rfl, (Res.r1 (show RV _ _ _ (.tmp 4) (vI ↑i) from by exact rfl))⟩
   refine ⟨?_, M.close [] rfl (by decide) trivial⟩
   refine congrArg (Value.int .i64) ?_
   exact findIx_hit hx12 (handle_eq2 h14).symm hi8
  ·
   refine W.skip (W.region rfl (wS (vI (↑i + 1)) rfl (Step.add rfl rfl (wrap_i64 (by omega))) (wM (vI (↑i + 1)) (WL.nil ?_))))
   have hs := findIx_step hx12 (handle_ne2 h14).symm hi8
   exact ⟨_, (by omega), i + 1, ⟨(by omega), hs, rfl⟩, ⟨rfl, rfl, rfl, rfl, rfl, rfl⟩, M⟩
 ·
  have h9p := of_decide_eq_false h9
  refine W.exit ?_
  refine thn_exit ?_
  refine thn_exit ?_
  refine inBlk_hit ?_
  refine wR (wA (vI (-1)) (WL.nil ?_))
  refine W.ret ?_
  refine ⟨.inl rfl, (vI (-1)), ?_, ?_⟩
  · exact ⟨rfl, (Res.r1 (show RV _ _ _ (.tmp 4) (vI (-1)) from by exact rfl))⟩
  refine ⟨?_, M.close [] rfl (by decide) trivial⟩
  refine congrArg (Value.int .i64) ?_
  exact findIx_none hi8 (by omega)
theorem contains_handle {G : Nat → Prop} {w : World} (v : Value) (xs : List Handle) (h : Handle)   (M : Mem G (fun _ => False) w [] [fH v xs] w) : Rets Try.prog 95 #[v, (Value.agg #[(vI h.at_), (vI h.turn)])] w fun r w' => r = (vB (decide (h ∈ xs))) ∧ Mem G (fun _ => False) w [] [] w' := by
 refine Rets.enter 9 _ Try.func95 rfl Try.ntmps95 Try.results95 (by simp) ?_
 have hle1 := SlAt.le' (M.rep 0 rfl)
 have sl2 : IsSl v := SlAt.isSl (Mem.rep M 0 rfl)
 refine wR ?_
 refine WL.box (v := (Value.agg #[(vI h.at_), (vI h.turn)])) (c := #[(vI h.at_), (vI h.turn)]) M rfl rfl rfl (fun b3 w4 hb3 M => ?_)
 refine wA (vB false) (WL.nil (wR (wM v (wS (Value.agg #[(vI h.at_), (vI h.turn)]) rfl (Step.loadN Try.ag92 rfl (M.blk 0 rfl) (Nat.le_of_ble_eq_true rfl) rfl) ?_))))
 refine WL.callX rfl (index_handle v xs h (M.enterW0 ⟨(M.wideR0 0 rfl), trivial⟩)) (CallsF.func Try.en122 rfl) ?_
 rintro _ w5 ⟨rfl, m⟩
 replace M := M.leaveW0 m
 clear m
 refine wP (vB (decide ((findIx xs h : Int) ≥ (0 : Int)))) (wA (vB (decide ((findIx xs h : Int) ≥ (0 : Int)))) (WL.nil ?_))
 refine W.ret ?_
 refine ⟨.inl rfl, (vB (decide ((findIx xs h : Int) ≥ (0 : Int)))), ?_, ?_⟩
 · exact ⟨rfl, (Res.r1 (show RV _ _ _ (.tmp 4) (vB (decide ((findIx xs h : Int) ≥ (0 : Int)))) from by exact rfl))⟩
 refine ⟨?_, M.close [] rfl (by decide) trivial⟩
 exact congrArg Value.bool (findIx_mem xs h)
theorem copied {G : Nat → Prop} {w : World} (kv : Value) (dv : Value) (vv : Value) (n : Nd)  (hkn : n.keys.length ≤ 1000000) (hdn : n.kids.length ≤ 1000000) (hvn : n.vals.length ≤ 1000000) (M : Mem G (fun _ => False) w [] [fS kv n.keys, fH dv n.kids, fI vv n.vals] w) : Rets Try.prog 82 #[(Value.agg #[(vB n.leaf), kv, dv, vv])] w fun r w' => ∃ (kv' : Value) (dv' : Value) (vv' : Value), r = (Value.agg #[(vB n.leaf), kv', dv', vv']) ∧ Mem G (fun _ => False) w [oS kv' n.keys, oH dv' n.kids, oI vv' n.vals] [] w' := by
 refine Rets.enter 15 _ Try.func82 rfl Try.ntmps82 Try.results82 (by simp) ?_
 have hle1 := SlAt.le' (M.rep 0 rfl)
 have hle2 := SlAt.le' (M.rep 1 rfl)
 have hle3 := SlAt.le' (M.rep 2 rfl)
 have sl4 : IsSl kv := SlAt.isSl (Mem.rep M 0 rfl)
 have sl5 : IsSl dv := SlAt.isSl (Mem.rep M 1 rfl)
 have sl6 : IsSl vv := SlAt.isSl (Mem.rep M 2 rfl)
 refine wR ?_
 refine WL.box (v := (Value.agg #[(vB n.leaf), kv, dv, vv])) (c := #[(vB n.leaf), kv, dv, vv]) M rfl rfl rfl (fun b7 w8 hb7 M => ?_)
 refine WL.alloc (c := #[(vB false), vZ, vZ, vZ]) M rfl Try.el99.zero rfl (fun b9 w10 hb9 M => ?_)
 refine WL.nil (W.seq' ?_)
 refine W.drawn M [0, 1, 2, 3, 4, 5, 6, 7, 8, 9, 10, 11, 12] [4, 7, 10, 12] [] _ _ (sN (sY sE)) (fun _ h => h) Try.mixed (by kernel_rfl) ?_
 refine tP (vP b7) rfl (fun w => sP) ?_
 refine tR (vB n.leaf) rfl (fun A w M => (Step.load1 Try.sc4 rfl ((M.cell 1 rfl 0).trans rfl))) ?_
 refine tP (Value.pointer (some ⟨b7, 1, none⟩)) rfl (fun w => sP) ?_
 refine tR kv rfl (fun A w M => (Step.load1 Try.sc22 rfl ((M.cell 1 rfl 1).trans rfl))) ?_
 let Q : List Chunk := [bk b9 #[(vB false), vZ, vZ, vZ] 99, bk b7 #[(vB n.leaf), kv, dv, vv] 99]
 refine TW.callX (ι := Value) (fun jx v_ => v_ = jx) (fun jx => oS jx n.keys :: Q) (fun jx => [fS kv n.keys, fH dv n.kids, fI vv n.vals]) rfl (by decide) rfl (fun jx => (sN (sN (sY sE)))) (fun jx r h => h) (fun A w M => Rets.mono (clone_str kv n.keys (by omega) (M.enterW0 ⟨(M.wideR0 0 rfl), trivial⟩)) (fun v_ w_ ⟨v19, e_, m⟩ => ⟨v19, e_, (M.leaveW0 m).sel [1, 0, 2, 3] rfl (by decide), fun b hb => M.k0F m b hb⟩)) (fun w => CallsF.func Try.en106 rfl) (fun v19 v hp hin => ?_)
 replace hp := hp.symm; subst hp
 obtain ⟨_, _, hin⟩ := hin
 have sl20 : IsSl v19 := SlAt.isSl (own_slAt (Mem.chunk hin 1 rfl).inv)
 have hle21 := SlAt.le' (own_slAt (Mem.chunk hin 1 rfl).inv)
 clear hin
 refine tP (Value.pointer (some ⟨b7, 2, none⟩)) rfl (fun w => sP) ?_
 refine tR dv rfl (fun A w M => (Step.load1 Try.sc96 rfl ((M.cell 1 rfl 2).trans rfl))) ?_
 let Q : List Chunk := [oS v19 n.keys, bk b9 #[(vB false), vZ, vZ, vZ] 99, bk b7 #[(vB n.leaf), kv, dv, vv] 99]
 refine TW.callX (ι := Value) (fun jx v_ => v_ = jx) (fun jx => oH jx n.kids :: Q) (fun jx => [fS kv n.keys, fH dv n.kids, fI vv n.vals]) rfl (by decide) rfl (fun jx => (sN (sN (sN (sY sE))))) (fun jx r h => h) (fun A w M => Rets.mono (clone_hdl dv n.kids (by omega) (M.enterW0 ⟨(M.wideR0 1 rfl), trivial⟩)) (fun v_ w_ ⟨v22, e_, m⟩ => ⟨v22, e_, (M.leaveW0 m).sel [1, 0, 2, 3, 4] rfl (by decide), fun b hb => M.k0F m b hb⟩)) (fun w => CallsF.func Try.en107 rfl) (fun v22 v hp hin => ?_)
 replace hp := hp.symm; subst hp
 obtain ⟨_, _, hin⟩ := hin
 have sl23 : IsSl v22 := SlAt.isSl (own_slAt (Mem.chunk hin 1 rfl).inv)
 have hle24 := SlAt.le' (own_slAt (Mem.chunk hin 1 rfl).inv)
 clear hin
 refine tP (Value.pointer (some ⟨b7, 3, none⟩)) rfl (fun w => sP) ?_
 refine tR vv rfl (fun A w M => (Step.load1 Try.sc97 rfl ((M.cell 1 rfl 3).trans rfl))) ?_
 let Q : List Chunk := [oH v22 n.kids, oS v19 n.keys, bk b9 #[(vB false), vZ, vZ, vZ] 99, bk b7 #[(vB n.leaf), kv, dv, vv] 99]
 refine TW.callX (ι := Value) (fun jx v_ => v_ = jx) (fun jx => oI jx n.vals :: Q) (fun jx => [fS kv n.keys, fH dv n.kids, fI vv n.vals]) rfl (by decide) rfl (fun jx => (sN (sN (sN (sN (sY sE)))))) (fun jx r h => h) (fun A w M => Rets.mono (clone_int vv n.vals (by omega) (M.enterW0 ⟨(M.wideR0 2 rfl), trivial⟩)) (fun v_ w_ ⟨v25, e_, m⟩ => ⟨v25, e_, (M.leaveW0 m).sel [1, 0, 2, 3, 4, 5] rfl (by decide), fun b hb => M.k0F m b hb⟩)) (fun w => CallsF.func Try.en108 rfl) (fun v25 v hp hin => ?_)
 replace hp := hp.symm; subst hp
 obtain ⟨_, _, hin⟩ := hin
 have sl26 : IsSl v25 := SlAt.isSl (own_slAt (Mem.chunk hin 1 rfl).inv)
 have hle27 := SlAt.le' (own_slAt (Mem.chunk hin 1 rfl).inv)
 clear hin
 refine tP (Value.agg #[(vB n.leaf), v19, v22, v25]) rfl (fun w => (by obtain ⟨_, _, _, e⟩ := sl20; subst e; obtain ⟨_, _, _, e⟩ := sl23; subst e; obtain ⟨_, _, _, e⟩ := sl26; subst e; exact sP)) ?_
 refine TW.store (v := (Value.agg #[(vB n.leaf), v19, v22, v25])) (cs := [(vB n.leaf), v19, v22, v25]) (c' := #[(vB n.leaf), v19, v22, v25]) 3 rfl rfl (by decide) rfl Try.el99.sized rfl rfl rfl rfl (Nat.le_of_ble_eq_true rfl) (cel_cons rfl (cel_cons (IsSl.cel sl20) (cel_cons (IsSl.cel sl23) (cel_cons (IsSl.cel sl26) cel_nil)))) rfl rfl (sN (sN (sN (sN (sY sE))))) (fun r h => h) ?_
 refine TW.done (fun w28 M => ?_)
 refine W.ret ?_
 refine ⟨.inl rfl, (Value.agg #[(vB n.leaf), v19, v22, v25]), ?_, ?_⟩
 · exact ⟨rfl, (Res.r1 (RV.cellN Try.ag99 rfl (M.blk 3 rfl) rfl))⟩
 refine ⟨v19, v22, v25, ?_, M.close [2, 1, 0] rfl (by decide) trivial⟩
 rfl
theorem ar_has {G X : Nat → Prop} {w : World} (ab : Nat) (l : List RPlace) (i : ArI) (h : Handle)  (hK : FreeOk i.ks l) (M : Mem G X w [bk ab #[i.pv, (Value.map (some i.fb))] 143, own 145 5 i.pv l.length i.cs, setC i.fb i.ks, nodesC i.N i.cs l] [] w) : Rets Try.prog 94 #[(vP ab), (Value.agg #[(vI h.at_), (vI h.turn)])] w fun r w' => r = (vB (rhas l h)) ∧ Mem G X w [bk ab #[i.pv, (Value.map (some i.fb))] 143, own 145 5 i.pv l.length i.cs, setC i.fb i.ks, nodesC i.N i.cs l] [] w' := by
 refine Rets.enter 50 _ Try.func94 rfl Try.ntmps94 Try.results94 (by simp) ?_
 have sl1 : IsSl i.pv := SlAt.isSl (own_slAt (Mem.chunk M 1 rfl).inv)
 have hle2 := SlAt.le' (own_slAt (Mem.chunk M 1 rfl).inv)
 refine wR ?_
 refine WL.box (v := (Value.agg #[(vI h.at_), (vI h.turn)])) (c := #[(vI h.at_), (vI h.turn)]) M rfl rfl rfl (fun b3 w4 hb3 M => ?_)
 refine wA (vB false) (WL.nil (W.seq' (W.seq' ?_)))
 rcases Bool.eq_false_or_eq_true (decide ((h.at_ : Int) < (0 : Int))) with h5 | h5
 ·
  have h5p := of_decide_eq_true h5
  refine W.drawn M [0, 1, 2, 3, 4, 5, 6, 7, 8, 9, 10, 11, 12, 13, 14, 15, 16] [] [] _ _ (sY (sY (sY (sY (sY sE))))) (fun _ h => h) Try.mixed (by kernel_rfl) ?_
  refine tP (vP ab) rfl (fun w => (Step.move rfl)) ?_
  refine tP (vB false) rfl (fun w => sP) ?_
  refine tP (vB false) rfl (fun w => (Step.move rfl)) ?_
  refine tP (vP b3) rfl (fun w => sP) ?_
  refine tR (vI h.at_) rfl (fun A w M => (Step.load1 Try.sc3 rfl ((M.cell 1 rfl 0).trans rfl))) ?_
  refine tP (vB true) rfl (fun w => (Step.cast (congrArg Value.bool h5) sP)) ?_
  refine tP (vB true) rfl (fun w => (Step.pick (t := false) rfl rfl)) ?_
  refine tP (vB true) rfl (fun w => (Step.move rfl)) ?_
  refine TW.skip rfl rfl ?_
  refine TW.skip rfl rfl ?_
  refine TW.skip rfl rfl ?_
  refine TW.skip rfl rfl ?_
  refine TW.skip rfl rfl ?_
  refine TW.skip rfl rfl ?_
  refine TW.skip rfl rfl ?_
  refine TW.skip rfl rfl ?_
  refine tP (vB true) rfl (fun w => (Step.pick (t := true) rfl rfl)) ?_
  refine TW.done (fun w6 M => ?_)
  refine W.cond (t := true) rfl (fun _ => ?_) (fun h => by cases h)
  refine wR (wA (vB false) (WL.nil ?_))
  refine W.ret ?_
  refine ⟨.inl rfl, (vB false), ?_, ?_⟩
  · exact ⟨rfl, (Res.r1 (show RV _ _ _ (.tmp 4) (vB false) from by exact rfl))⟩
  refine ⟨?_, M.close [1, 2, 3, 4] rfl (by decide) trivial⟩
  refine congrArg Value.bool ?_
  first | exact Eq.symm (rhas_low (by omega)) | exact Eq.symm (rhas_high (by omega)) | exact Eq.symm (rhas_free (by first | assumption | (simp only [Bool.not_eq_false'] at *; assumption))) | exact Eq.symm (rhas_turn (by omega) (by assumption) (by first | assumption | (simp only [Bool.not_eq_true'] at *; assumption)))
 ·
  have h5p := of_decide_eq_false h5
  refine W.drawn M [0, 1, 2, 3, 4, 5, 6, 7, 8, 9, 10, 11, 12, 13, 14, 15, 16] [] [] _ _ (sY (sY (sY (sY (sY sE))))) (fun _ h => h) Try.mixed (by kernel_rfl) ?_
  refine tP (vP ab) rfl (fun w => (Step.move rfl)) ?_
  refine tP (vB false) rfl (fun w => sP) ?_
  refine tP (vB false) rfl (fun w => (Step.move rfl)) ?_
  refine tP (vP b3) rfl (fun w => sP) ?_
  refine tR (vI h.at_) rfl (fun A w M => (Step.load1 Try.sc3 rfl ((M.cell 1 rfl 0).trans rfl))) ?_
  refine tP (vB false) rfl (fun w => (Step.cast (congrArg Value.bool h5) sP)) ?_
  refine tP (vB false) rfl (fun w => (Step.pick (t := false) rfl rfl)) ?_
  refine tP (vB false) rfl (fun w => (Step.move rfl)) ?_
  refine tP (vP b3) rfl (fun w => sP) ?_
  refine tR (vI h.at_) rfl (fun A w M => (Step.load1 Try.sc3 rfl ((M.cell 1 rfl 0).trans rfl))) ?_
  refine tP (vP ab) rfl (fun w => (Step.move rfl)) ?_
  refine tP (vP ab) rfl (fun w => sP) ?_
  refine tP (vP ab) rfl (fun w => sP) ?_
  refine tR i.pv rfl (fun A w M => (Step.load1 Try.sc140 rfl ((M.cell 2 rfl 0).trans rfl))) ?_
  refine tR (vI ↑l.length) rfl (fun A w M => (Step.lenSl Try.un140 rfl (own_slAt (M.chunk 3 rfl).inv))) ?_
  refine tP (vB (decide ((h.at_ : Int) ≥ (↑l.length : Int)))) rfl (fun w => sP) ?_
  refine tP (vB (decide ((h.at_ : Int) ≥ (↑l.length : Int)))) rfl (fun w => (Step.pick (t := false) rfl rfl)) ?_
  refine TW.done (fun w7 M => ?_)
  refine W.cond (t := decide ((h.at_ : Int) ≥ (↑l.length : Int))) rfl (fun h8 => ?_) (fun h8 => ?_)
  ·
   have h8p := of_decide_eq_true h8
   refine wR (wA (vB false) (WL.nil ?_))
   refine W.ret ?_
   refine ⟨.inl rfl, (vB false), ?_, ?_⟩
   · exact ⟨rfl, (Res.r1 (show RV _ _ _ (.tmp 4) (vB false) from by exact rfl))⟩
   refine ⟨?_, M.close [1, 2, 3, 4] rfl (by decide) trivial⟩
   refine congrArg Value.bool ?_
   first | exact Eq.symm (rhas_low (by omega)) | exact Eq.symm (rhas_high (by omega)) | exact Eq.symm (rhas_free (by first | assumption | (simp only [Bool.not_eq_false'] at *; assumption))) | exact Eq.symm (rhas_turn (by omega) (by assumption) (by first | assumption | (simp only [Bool.not_eq_true'] at *; assumption)))
  ·
   have h8p := of_decide_eq_false h8
   refine W.skip (W.seq' ?_)
   refine W.drawn M [0, 1, 2, 3, 4, 5, 6, 7, 8, 9, 10, 11, 12] [11] [10] _ _ (sY (sY (sY (sY (sY sE))))) (fun _ h => h) Try.mixed (by kernel_rfl) ?_
   refine tP (vP ab) rfl (fun w => (Step.move rfl)) ?_
   refine tP (vP ab) rfl (fun w => sP) ?_
   refine tP (Value.pointer (some ⟨ab, 1, none⟩)) rfl (fun w => sP) ?_
   refine tR (Value.map (some i.fb)) rfl (fun A w M => (Step.load1 Try.sc141 rfl ((M.cell 2 rfl 1).trans rfl))) ?_
   refine tP (vP b3) rfl (fun w => sP) ?_
   refine tR (vI h.at_) rfl (fun A w M => (Step.load1 Try.sc3 rfl ((M.cell 1 rfl 0).trans rfl))) ?_
   refine tR (Value.tuple #[(Value.agg #[]), (vB (isFree l h.at_))]) rfl (fun A w M => (Mem.setLook M 4 rfl hK Try.mt141 rfl rfl)) ?_
   refine tP (Value.tuple #[(Value.agg #[]), (vB (isFree l h.at_))]) rfl (fun w => (Step.move rfl)) ?_
   refine tP (Value.agg #[]) rfl (fun w => sP) ?_
   refine tP (vB (isFree l h.at_)) rfl (fun w => sP) ?_
   refine TW.new (obj := .cells #[] 162) (fun b => .pointer (some ⟨b, 0, none⟩)) rfl (by decide) (by decide) rfl (fun w => Step.alloc Try.el162.zero) (fun b15 => ?_)
   refine TW.store (v := (Value.agg #[])) (cs := []) (c' := #[]) 0 rfl rfl (by decide) rfl Try.el162.sized rfl rfl rfl rfl (Nat.le_of_ble_eq_true rfl) cel_nil rfl rfl (sN (sY (sY (sY (sY (sY sE)))))) (fun r h => h) ?_
   refine tP (vB (isFree l h.at_)) rfl (fun w => (Step.assign rfl)) ?_
   refine TW.done (fun w16 M => ?_)
   refine W.seq' ?_
   replace M := M.loseI 0
   rcases Bool.eq_false_or_eq_true (!(isFree l h.at_)) with h17 | h17
   ·
    obtain ⟨cap19, hb18⟩ := SlAt.base (own_slAt (M.chunk 2 rfl).inv) (by omega)
    obtain ⟨p20, hp20⟩ := elem_of_lt (xs := l) (i := h.at_.toNat) (by omega)
    obtain ⟨kv21, dv22, vv23, sl24, sl25, sl26, hc27⟩ := place_cells (M.chunk 4 rfl).inv hp20
    refine W.drawn M [0, 1, 2, 3, 4, 5, 6, 7, 8, 9, 10, 11, 12, 13, 14, 15, 16] [] [] _ _ (sY (sY (sY (sY (sY sE))))) (fun _ h => h) Try.mixed (by kernel_rfl) ?_
    refine tP (vB false) rfl (fun w => (Step.cast (congrArg Value.bool (show (isFree l h.at_) = false by simpa using h17)) (Step.move rfl))) ?_
    refine tP (vB true) rfl (fun w => sP) ?_
    refine tP (vB true) rfl (fun w => (Step.move rfl)) ?_
    refine tP (vP ab) rfl (fun w => (Step.move rfl)) ?_
    refine tP (vP ab) rfl (fun w => sP) ?_
    refine tP (vP ab) rfl (fun w => sP) ?_
    refine tR i.pv rfl (fun A w M => (Step.load1 Try.sc140 rfl ((M.cell 2 rfl 0).trans rfl))) ?_
    refine tP (vP b3) rfl (fun w => sP) ?_
    refine tR (vI h.at_) rfl (fun A w M => (Step.load1 Try.sc3 rfl ((M.cell 1 rfl 0).trans rfl))) ?_
    refine tP (vQ i.pv h.at_.toNat 5) rfl (fun w => (sX h.at_.toNat Try.un140 Try.el145 rfl rfl hb18)) ?_
    refine tP (vR i.pv h.at_.toNat 5 4) rfl (fun w => sP) ?_
    refine tR (vI p20.turn) rfl (fun A w M => (Step.loadE (k := 4) Try.sc3 (ec_row (own_slAt (M.chunk 3 rfl).inv) hc27 (by omega)) (by decide) rfl rfl)) ?_
    refine tP (Value.pointer (some ⟨b3, 1, none⟩)) rfl (fun w => sP) ?_
    refine tR (vI h.turn) rfl (fun A w M => (Step.load1 Try.sc3 rfl ((M.cell 1 rfl 1).trans rfl))) ?_
    refine tP (vB ((p20.turn : Int) == (h.turn : Int))) rfl (fun w => sP) ?_
    refine tP (vB ((p20.turn : Int) == (h.turn : Int))) rfl (fun w => (Step.pick (t := true) rfl rfl)) ?_
    refine tP (vB ((p20.turn : Int) == (h.turn : Int))) rfl (fun w => (Step.assign rfl)) ?_
    refine TW.done (fun w28 M => ?_)
    refine W.ret ?_
    refine ⟨.inl rfl, (vB ((p20.turn : Int) == (h.turn : Int))), ?_, ?_⟩
    · exact ⟨rfl, (Res.r1 (show RV _ _ _ (.tmp 4) (vB ((p20.turn : Int) == (h.turn : Int))) from by exact rfl))⟩
    refine ⟨?_, M.close [1, 2, 3, 4] rfl (by decide) trivial⟩
    refine congrArg Value.bool ?_
    first | exact Eq.symm (rhas_low (by omega)) | exact Eq.symm (rhas_high (by omega)) | exact Eq.symm (rhas_free (by first | assumption | (simp only [Bool.not_eq_false'] at *; assumption))) | exact Eq.symm (rhas_turn (by omega) (by assumption) (by first | assumption | (simp only [Bool.not_eq_true'] at *; assumption)))
   ·
    refine W.drawn M [0, 1, 2, 3, 4, 5, 6, 7, 8, 9, 10, 11, 12, 13, 14, 15, 16] [] [] _ _ (sY (sY (sY (sY (sY sE))))) (fun _ h => h) Try.mixed (by kernel_rfl) ?_
    refine tP (vB true) rfl (fun w => (Step.cast (congrArg Value.bool (show (isFree l h.at_) = true by simpa using h17)) (Step.move rfl))) ?_
    refine tP (vB false) rfl (fun w => sP) ?_
    refine tP (vB false) rfl (fun w => (Step.move rfl)) ?_
    refine TW.skip rfl rfl ?_
    refine TW.skip rfl rfl ?_
    refine TW.skip rfl rfl ?_
    refine TW.skip rfl rfl ?_
    refine TW.skip rfl rfl ?_
    refine TW.skip rfl rfl ?_
    refine TW.skip rfl rfl ?_
    refine TW.skip rfl rfl ?_
    refine TW.skip rfl rfl ?_
    refine TW.skip rfl rfl ?_
    refine TW.skip rfl rfl ?_
    refine TW.skip rfl rfl ?_
    refine tP (vB false) rfl (fun w => (Step.pick (t := false) rfl rfl)) ?_
    refine tP (vB false) rfl (fun w => (Step.assign rfl)) ?_
    refine TW.done (fun w29 M => ?_)
    refine W.ret ?_
    refine ⟨.inl rfl, (vB false), ?_, ?_⟩
    · exact ⟨rfl, (Res.r1 (show RV _ _ _ (.tmp 4) (vB false) from by exact rfl))⟩
    refine ⟨?_, M.close [1, 2, 3, 4] rfl (by decide) trivial⟩
    refine congrArg Value.bool ?_
    first | exact Eq.symm (rhas_low (by omega)) | exact Eq.symm (rhas_high (by omega)) | exact Eq.symm (rhas_free (by first | assumption | (simp only [Bool.not_eq_false'] at *; assumption))) | exact Eq.symm (rhas_turn (by omega) (by assumption) (by first | assumption | (simp only [Bool.not_eq_true'] at *; assumption)))
theorem at_hit {G X : Nat → Prop} {w : World} (ab : Nat) (l : List RPlace) (i : ArI) (h : Handle)  (hK : FreeOk i.ks l) (hh : rhas l h = true) (M : Mem G X w [bk ab #[i.pv, (Value.map (some i.fb))] 143, own 145 5 i.pv l.length i.cs, setC i.fb i.ks, nodesC i.N i.cs l] [] w) : Rets Try.prog 121 #[(vP ab), (Value.agg #[(vI h.at_), (vI h.turn)])] w fun r w' => r = (Value.tuple #[(vQ i.pv h.at_.toNat 5), (vI 0)]) ∧ Mem G X w [bk ab #[i.pv, (Value.map (some i.fb))] 143, own 145 5 i.pv l.length i.cs, setC i.fb i.ks, nodesC i.N i.cs l] [] w' := by
 refine Rets.enter 21 _ Try.func121 rfl Try.ntmps121 Try.results121 (by simp) ?_
 have sl1 : IsSl i.pv := SlAt.isSl (own_slAt (Mem.chunk M 1 rfl).inv)
 have hle2 := SlAt.le' (own_slAt (Mem.chunk M 1 rfl).inv)
 obtain ⟨p, hp, hu, ht, h0, hlt⟩ := rhas_place hh
 refine wR ?_
 refine WL.box (v := (Value.agg #[(vI h.at_), (vI h.turn)])) (c := #[(vI h.at_), (vI h.turn)]) M rfl rfl rfl (fun b3 w4 hb3 M => ?_)
 refine wA vN (wA (vI 0) (WL.nil (W.seq' (W.block (wR ?_)))))
 refine wM (vP ab) (wP (vB false) (wA (vB false) (WL.nil ?_)))
 refine W.cond (t := false) rfl (fun h => by cases h) (fun _ => ?_)
 refine wR (wM (vP ab) (wS (Value.agg #[(vI h.at_), (vI h.turn)]) rfl (Step.loadN Try.ag92 rfl (M.blk 0 rfl) (Nat.le_of_ble_eq_true rfl) rfl) ?_))
 have fq := M.frm [bk ab #[i.pv, (Value.map (some i.fb))] 143, own 145 5 i.pv l.length i.cs, setC i.fb i.ks, nodesC i.N i.cs l] [bk b3 #[(vI h.at_), (vI h.turn)] 92] [1, 2, 3, 4, 0] rfl
 refine WL.callX rfl (ar_has ab l i h hK (M.eF fq trivial)) (CallsF.func Try.en94 rfl) ?_
 rintro _ w5 ⟨rfl, m⟩
 replace M := M.lF fq m
 clear m
 rw [hh]
 refine wP (vB false) (wA (vB false) (WL.nil ?_))
 refine W.cond (t := false) rfl (fun h => by cases h) (fun _ => ?_)
 refine W.skip (W.seq' ?_)
 obtain ⟨cap7, hb6⟩ := SlAt.base (own_slAt (M.chunk 1 rfl).inv) (by omega)
 obtain ⟨kv9, dv10, vv11, sl12, sl13, sl14, hc15⟩ := place_cells (M.chunk 3 rfl).inv hp
 refine W.drawn M [0, 1, 2, 3, 4, 5, 6, 7, 8] [] [] _ _ (sY (sY (sY (sY (sY sE))))) (fun _ h => h) Try.mixed (by kernel_rfl) ?_
 refine tP (vP ab) rfl (fun w => (Step.move rfl)) ?_
 refine tP (vP ab) rfl (fun w => sP) ?_
 refine tP (vP ab) rfl (fun w => sP) ?_
 refine tR i.pv rfl (fun A w M => (Step.load1 Try.sc140 rfl ((M.cell 1 rfl 0).trans rfl))) ?_
 refine tP (vP b3) rfl (fun w => sP) ?_
 refine tR (vI h.at_) rfl (fun A w M => (Step.load1 Try.sc3 rfl ((M.cell 5 rfl 0).trans rfl))) ?_
 refine tP (vQ i.pv h.at_.toNat 5) rfl (fun w => (sX h.at_.toNat Try.un140 Try.el145 rfl rfl hb6)) ?_
 refine tP (vQ i.pv h.at_.toNat 5) rfl (fun w => (Step.assign rfl)) ?_
 refine tP (vI 0) rfl (fun w => (Step.assign rfl)) ?_
 refine TW.done (fun w16 M => ?_)
 refine W.ret ?_
 refine ⟨.inl rfl, (Value.tuple #[(vQ i.pv h.at_.toNat 5), (vI 0)]), ?_, ?_⟩
 · exact ⟨rfl, (Res.r2 (show RV _ _ _ (.tmp 4) (vQ i.pv h.at_.toNat 5) from by exact rfl) (show RV _ _ _ (.tmp 5) (vI 0) from by exact rfl))⟩
 refine ⟨?_, M.close [0, 1, 2, 3] rfl (by decide) trivial⟩
 rfl
theorem at_miss {G X : Nat → Prop} {w : World} (ab : Nat) (l : List RPlace) (i : ArI) (h : Handle)  (hK : FreeOk i.ks l) (hh : rhas l h = false) (M : Mem G X w [bk ab #[i.pv, (Value.map (some i.fb))] 143, own 145 5 i.pv l.length i.cs, setC i.fb i.ks, nodesC i.N i.cs l] [] w) : Rets Try.prog 121 #[(vP ab), (Value.agg #[(vI h.at_), (vI h.turn)])] w fun r w' => r = (Value.tuple #[vN, (vI 110)]) ∧ Mem G X w [bk ab #[i.pv, (Value.map (some i.fb))] 143, own 145 5 i.pv l.length i.cs, setC i.fb i.ks, nodesC i.N i.cs l] [] w' := by
 refine Rets.enter 21 _ Try.func121 rfl Try.ntmps121 Try.results121 (by simp) ?_
 have sl1 : IsSl i.pv := SlAt.isSl (own_slAt (Mem.chunk M 1 rfl).inv)
 have hle2 := SlAt.le' (own_slAt (Mem.chunk M 1 rfl).inv)
 refine wR ?_
 refine WL.box (v := (Value.agg #[(vI h.at_), (vI h.turn)])) (c := #[(vI h.at_), (vI h.turn)]) M rfl rfl rfl (fun b3 w4 hb3 M => ?_)
 refine wA vN (wA (vI 0) (WL.nil (W.seq' (W.block (wR ?_)))))
 refine wM (vP ab) (wP (vB false) (wA (vB false) (WL.nil ?_)))
 refine W.cond (t := false) rfl (fun h => by cases h) (fun _ => ?_)
 refine wR (wM (vP ab) (wS (Value.agg #[(vI h.at_), (vI h.turn)]) rfl (Step.loadN Try.ag92 rfl (M.blk 0 rfl) (Nat.le_of_ble_eq_true rfl) rfl) ?_))
 have fq := M.frm [bk ab #[i.pv, (Value.map (some i.fb))] 143, own 145 5 i.pv l.length i.cs, setC i.fb i.ks, nodesC i.N i.cs l] [bk b3 #[(vI h.at_), (vI h.turn)] 92] [1, 2, 3, 4, 0] rfl
 refine WL.callX rfl (ar_has ab l i h hK (M.eF fq trivial)) (CallsF.func Try.en94 rfl) ?_
 rintro _ w5 ⟨rfl, m⟩
 replace M := M.lF fq m
 clear m
 rw [hh]
 refine wP (vB true) (wA (vB true) (WL.nil ?_))
 refine W.cond (t := true) rfl (fun _ => ?_) (fun h => by cases h)
 refine wR (wA vN (wA (vI 110) (WL.nil ?_)))
 refine W.ret ?_
 refine ⟨.inl rfl, (Value.tuple #[vN, (vI 110)]), ?_, ?_⟩
 · exact ⟨rfl, (Res.r2 (show RV _ _ _ (.tmp 4) vN from by exact rfl) (show RV _ _ _ (.tmp 5) (vI 110) from by exact rfl))⟩
 refine ⟨?_, M.close [0, 1, 2, 3] rfl (by decide) trivial⟩
 rfl
theorem ar_least {G X : Nat → Prop} {w : World} (ab : Nat) (l : List RPlace) (i : ArI)  (hK : FreeOk i.ks l) (M : Mem G X w [bk ab #[i.pv, (Value.map (some i.fb))] 143, own 145 5 i.pv l.length i.cs, setC i.fb i.ks, nodesC i.N i.cs l] [] w) : Rets Try.prog 81 #[(vP ab)] w fun r w' => r = (vI (↑(leastF l))) ∧ Mem G X w [bk ab #[i.pv, (Value.map (some i.fb))] 143, own 145 5 i.pv l.length i.cs, setC i.fb i.ks, nodesC i.N i.cs l] [] w' := by
 refine Rets.enter 31 _ Try.func81 rfl Try.ntmps81 Try.results81 (by simp) ?_
 have sl1 : IsSl i.pv := SlAt.isSl (own_slAt (Mem.chunk M 1 rfl).inv)
 have hle2 := SlAt.le' (own_slAt (Mem.chunk M 1 rfl).inv)
 refine wR (wA (vI 0) (WL.nil (W.seq' (wR (wM (vP ab) ?_)))))
 refine wP (vP ab) (wP (vP ab) (wS i.pv rfl (Step.load1 Try.sc140 rfl ((M.cell 0 rfl 0).trans rfl)) (wS (vI ↑l.length) rfl (Step.lenSl Try.un140 rfl (own_slAt (M.chunk 1 rfl).inv)) (wM (vI 0) (WL.nil ?_)))))
 refine W.block ?_
 refine W.loop (fun kk ρ w' => ∃ (i_ : Nat), ((i_ ≤ l.length) ∧ (∀ j : Nat, j < i_ → isFree l (j : Int) = false) ∧ kk = l.length - i_) ∧ ρ.has [(0, (vP ab)), (10, (vI ↑l.length)), (11, (vI ↑i_))] ∧ Mem G X w [bk ab #[i.pv, (Value.map (some i.fb))] 143, own 145 5 i.pv l.length i.cs, setC i.fb i.ks, nodesC i.N i.cs l] []  w') _ ⟨0, ⟨(Nat.zero_le _), (fun _ h => absurd h (Nat.not_lt_zero _)), rfl⟩, ⟨rfl, rfl, rfl, rfl, rfl⟩, M⟩ ?_
 rintro _ ρ4 w3 ⟨i_, ⟨hi5, hi6, rfl⟩, hρ, M⟩
 obtain ⟨ρ4, rfl⟩ := hρ.know
 clear hρ
 refine wR (wP (vB (decide ((↑i_ : Int) < (↑l.length : Int)))) (WL.nil (W.seq' ?_)))
 refine W.cond (t := decide ((↑i_ : Int) < (↑l.length : Int))) rfl (fun h7 => ?_) (fun h7 => ?_)
 ·
  have h7p := of_decide_eq_true h7
  refine W.skip (W.seq' (W.block (wR (wM (vI ↑i_) (wA (vI ↑i_) ?_)))))
  refine WL.nil (wR (wM (vP ab) (wP (vP ab) (wP (Value.pointer (some ⟨ab, 1, none⟩)) (wS (Value.map (some i.fb)) rfl (Step.load1 Try.sc141 rfl ((M.cell 0 rfl 1).trans rfl)) ?_)))))
  refine wM (vI ↑i_) (wS (Value.tuple #[(Value.agg #[]), (vB (isFree l ↑i_))]) rfl (Mem.setLook M 2 rfl hK Try.mt141 rfl rfl) (wM (Value.tuple #[(Value.agg #[]), (vB (isFree l ↑i_))]) (wP (Value.agg #[]) (wP (vB (isFree l ↑i_)) ?_))))
  refine WL.alloc (c := #[]) M rfl Try.el162.zero rfl (fun b8 w9 hb8 M => ?_)
  refine WL.store (v := (Value.agg #[])) (cs := []) (c' := #[]) M 0 rfl rfl Try.el162.sized rfl rfl rfl rfl (Nat.le_of_ble_eq_true rfl) cel_nil rfl rfl (fun w10 M => ?_)
  refine wA (vB (isFree l ↑i_)) (WL.nil (wR (wM (vB (isFree l ↑i_)) (WL.nil ?_))))
  refine W.cond (t := isFree l ↑i_) rfl (fun h11 => ?_) (fun h11 => ?_)
  ·
   refine wR (wM (vI ↑i_) (wA (vI ↑i_) (WL.nil ?_)))
   refine W.ret ?_
   refine ⟨.inl rfl, (vI ↑i_), ?_, ?_⟩
   · exact ⟨rfl, (Res.r1 (show RV _ _ _ (.tmp 2) (vI ↑i_) from by exact rfl))⟩
   refine ⟨?_, M.close [1, 2, 3, 4] rfl (by decide) trivial⟩
   refine congrArg (Value.int .i64) ?_
   rw [leastF_hit (by omega) (by assumption) hi6]
  ·
   refine W.skip (W.region rfl (wS (vI (↑i_ + 1)) rfl (Step.add rfl rfl (wrap_i64 (by omega))) (wM (vI (↑i_ + 1)) (WL.nil ?_))))
   have hs : ∀ j : Nat, j < i_ + 1 → isFree l (j : Int) = false := fun j hj => (Nat.lt_succ_iff_lt_or_eq.1 hj).elim (hi6 j) fun e => by subst e; assumption
   replace M := M.sel (L' := [bk ab #[i.pv, (Value.map (some i.fb))] 143, own 145 5 i.pv l.length i.cs, setC i.fb i.ks, nodesC i.N i.cs l]) [1, 2, 3, 4] rfl (by decide)
   exact ⟨_, (by omega), i_ + 1, ⟨(by omega), hs, rfl⟩, ⟨rfl, rfl, rfl, rfl, rfl⟩, M⟩
 ·
  have h7p := of_decide_eq_false h7
  refine W.exit ?_
  refine thn_exit ?_
  refine thn_exit ?_
  refine inBlk_hit ?_
  refine wR (wM (vP ab) (wP (vP ab) (wP (vP ab) (wS i.pv rfl (Step.load1 Try.sc140 rfl ((M.cell 0 rfl 0).trans rfl)) (wS (vI ↑l.length) rfl (Step.lenSl Try.un140 rfl (own_slAt (M.chunk 1 rfl).inv)) ?_)))))
  refine wA (vI ↑l.length) (WL.nil ?_)
  refine W.ret ?_
  refine ⟨.inl rfl, (vI ↑l.length), ?_, ?_⟩
  · exact ⟨rfl, (Res.r1 (show RV _ _ _ (.tmp 2) (vI ↑l.length) from by exact rfl))⟩
  refine ⟨?_, M.close [0, 1, 2, 3] rfl (by decide) trivial⟩
  refine congrArg (Value.int .i64) ?_
  rw [leastF_all hi6 (by omega)]
theorem ar_get {G X : Nat → Prop} {w : World} (ab : Nat) (l : List RPlace) (S : Nat → Prop) (h : Handle)  (hA : SmallA l) (M : Mem G X w [arenaC 143 145 S ab l] [] w) : Rets Try.prog 93 #[(vP ab), (Value.agg #[(vI h.at_), (vI h.turn)])] w fun r w' => ∃ (kv' : Value) (dv' : Value) (vv' : Value), r = (Value.tuple #[(Value.agg #[(vB (((rget l h).1).leaf)), kv', dv', vv']), (vI ((rget l h).2))]) ∧ Mem G X w [arenaC 143 145 S ab l, oS kv' (((rget l h).1).keys), oH dv' (((rget l h).1).kids), oI vv' (((rget l h).1).vals)] [] w' := by
 refine Rets.enter 23 _ Try.func93 rfl Try.ntmps93 Try.results93 (by simp) ?_
 obtain ⟨⟨pv, fb, cs, ks, N⟩, hK, hS, M⟩ := M.unpack
 replace hK : FreeOk ks l := hK
 have hcl := (M.chunk 1 rfl).inv.1
 simp only at hcl
 have sl1 : IsSl pv := SlAt.isSl (own_slAt (Mem.chunk M 1 rfl).inv)
 have hle2 := SlAt.le' (own_slAt (Mem.chunk M 1 rfl).inv)
 rcases Bool.eq_false_or_eq_true (rhas l h) with hh | hh
 ·
  obtain ⟨p, hp, hu, ht, h0, hlt⟩ := rhas_place hh
  obtain ⟨_, _, hs1, hs2, hs3⟩ := hA.2 _ _ hp
  refine wR ?_
  refine WL.box (v := (Value.agg #[(vI h.at_), (vI h.turn)])) (c := #[(vI h.at_), (vI h.turn)]) M rfl rfl rfl (fun b3 w4 hb3 M => ?_)
  refine WL.alloc (c := #[(vB false), vZ, vZ, vZ]) M rfl Try.el99.zero rfl (fun b5 w6 hb5 M => ?_)
  refine wA (vI 0) (WL.nil (wR (wM (vP ab) (wS (Value.agg #[(vI h.at_), (vI h.turn)]) rfl (Step.loadN Try.ag92 rfl (M.blk 1 rfl) (Nat.le_of_ble_eq_true rfl) rfl) ?_))))
  have fq := M.frm [bk ab #[pv, (Value.map (some fb))] 143, own 145 5 pv l.length cs, setC fb ks, nodesC N cs l] [bk b5 #[(vB false), vZ, vZ, vZ] 99, bk b3 #[(vI h.at_), (vI h.turn)] 92] [2, 3, 4, 5, 0, 1] rfl
  refine WL.callX rfl (at_hit ab l (⟨pv, fb, cs, ks, N⟩ : ArI) h hK hh (M.eF fq trivial)) (CallsF.func Try.en121 rfl) ?_
  rintro _ w7 ⟨rfl, m⟩
  replace M := M.lF fq m
  clear m
  refine wM (Value.tuple #[(vQ pv h.at_.toNat 5), (vI 0)]) (wP (vQ pv h.at_.toNat 5) (wP (vI 0) (wA (vQ pv h.at_.toNat 5) (wA (vI 0) (WL.nil ?_)))))
  refine W.seq' (wR (wM (vI 0) (wP (vB false) (WL.nil ?_))))
  refine W.cond (t := false) rfl (fun h => by cases h) (fun _ => ?_)
  refine W.skip (W.seq' ?_)
  replace M := M.loseI 5
  refine W.region rfl (wM (vQ pv h.at_.toNat 5) (wP (vQ pv h.at_.toNat 5) (wP (vQ pv h.at_.toNat 5) ?_)))
  obtain ⟨kv9, dv10, vv11, sl12, sl13, sl14, hc15⟩ := place_cells (M.chunk 3 rfl).inv hp
  refine wS (Value.agg #[(vB p.node.leaf), kv9, dv10, vv11]) rfl (Step.loadEN (k := 0) (cs' := [(vB p.node.leaf), kv9, dv10, vv11]) Try.ag99 (ec_row (own_slAt (M.chunk 1 rfl).inv) hc15 (by omega)) (by decide) rfl rfl rfl) ?_
  refine WL.callX rfl (copied kv9 dv10 vv11 p.node (by omega) (by omega) (by omega) (M.enterW0 ⟨((M.wideC0 3 rfl).imp fun _ h => (place_node h hp hc15).1), ((M.wideC0 3 rfl).imp fun _ h => (place_node h hp hc15).2.1), ((M.wideC0 3 rfl).imp fun _ h => (place_node h hp hc15).2.2), trivial⟩)) (CallsF.func Try.en82 rfl) ?_
  rintro _ w19 ⟨kv16, dv17, vv18, rfl, m⟩
  replace M := M.leaveW0 m
  clear m
  have sl20 : IsSl kv16 := SlAt.isSl (own_slAt (Mem.chunk M 0 rfl).inv)
  have hle21 := SlAt.le' (own_slAt (Mem.chunk M 0 rfl).inv)
  have sl22 : IsSl dv17 := SlAt.isSl (own_slAt (Mem.chunk M 1 rfl).inv)
  have hle23 := SlAt.le' (own_slAt (Mem.chunk M 1 rfl).inv)
  have sl24 : IsSl vv18 := SlAt.isSl (own_slAt (Mem.chunk M 2 rfl).inv)
  have hle25 := SlAt.le' (own_slAt (Mem.chunk M 2 rfl).inv)
  refine WL.store (v := (Value.agg #[(vB p.node.leaf), kv16, dv17, vv18])) (cs := [(vB p.node.leaf), kv16, dv17, vv18]) (c' := #[(vB p.node.leaf), kv16, dv17, vv18]) M 7 rfl rfl Try.el99.sized rfl rfl rfl rfl (Nat.le_of_ble_eq_true rfl) (cel_cons rfl (cel_cons (IsSl.cel sl20) (cel_cons (IsSl.cel sl22) (cel_cons (IsSl.cel sl24) cel_nil)))) rfl rfl (fun w26 M => ?_)
  refine wA (vI 0) (WL.nil ?_)
  refine W.ret ?_
  refine ⟨.inl rfl, (Value.tuple #[(Value.agg #[(vB p.node.leaf), kv16, dv17, vv18]), (vI 0)]), ?_, ?_⟩
  · exact ⟨rfl, (Res.r2 (RV.cellN Try.ag99 rfl (M.blk 7 rfl) rfl) (show RV _ _ _ (.tmp 5) (vI 0) from by exact rfl))⟩
  replace M := M.sel (L' := [bk ab #[pv, (Value.map (some fb))] 143, own 145 5 pv l.length cs, setC fb ks, nodesC N cs l, oS kv16 p.node.keys, oH dv17 p.node.kids, oI vv18 p.node.vals, bk b5 #[(vB p.node.leaf), kv16, dv17, vv18] 99]) [3, 4, 5, 6, 0, 1, 2, 7] rfl (by decide)
  replace M := Mem.pack (Ls := arenaL 143 145 ab l) (p := fun i => FreeOk i.ks l) (⟨pv, fb, cs, ks, N⟩ : ArI) M hK
  rw [← hS] at M
  have e27 : ((rget l h).1).keys = p.node.keys := by
   first | (rw [rget_hit hh hp]) | (rw [rget_miss hh]) | (simp [rget_miss hh, ndZero])
   try rfl
  replace M := M.rechunk 1 (c' := oS kv16 (((rget l h).1).keys)) rfl (congrArg (fun z => own 9 1 kv16 z.length (z.flatMap strE)) e27.symm)
  have e28 : ((rget l h).1).kids = p.node.kids := by
   first | (rw [rget_hit hh hp]) | (rw [rget_miss hh]) | (simp [rget_miss hh, ndZero])
   try rfl
  replace M := M.rechunk 2 (c' := oH dv17 (((rget l h).1).kids)) rfl (congrArg (fun z => own 92 2 dv17 z.length (z.flatMap handleE)) e28.symm)
  have e29 : ((rget l h).1).vals = p.node.vals := by
   first | (rw [rget_hit hh hp]) | (rw [rget_miss hh]) | (simp [rget_miss hh, ndZero])
   try rfl
  replace M := M.rechunk 3 (c' := oI vv18 (((rget l h).1).vals)) rfl (congrArg (fun z => own 3 1 vv18 z.length (z.flatMap intE)) e29.symm)
  refine ⟨kv16, dv17, vv18, ?_, M.close [0, 1, 2, 3] rfl (by decide) trivial⟩
  first | (rw [rget_hit hh hp]) | (rw [rget_miss hh]) | (simp [rget_miss hh, ndZero])
  try rfl
 ·
  refine wR ?_
  refine WL.box (v := (Value.agg #[(vI h.at_), (vI h.turn)])) (c := #[(vI h.at_), (vI h.turn)]) M rfl rfl rfl (fun b30 w31 hb30 M => ?_)
  refine WL.alloc (c := #[(vB false), vZ, vZ, vZ]) M rfl Try.el99.zero rfl (fun b32 w33 hb32 M => ?_)
  refine wA (vI 0) (WL.nil (wR (wM (vP ab) (wS (Value.agg #[(vI h.at_), (vI h.turn)]) rfl (Step.loadN Try.ag92 rfl (M.blk 1 rfl) (Nat.le_of_ble_eq_true rfl) rfl) ?_))))
  have fq := M.frm [bk ab #[pv, (Value.map (some fb))] 143, own 145 5 pv l.length cs, setC fb ks, nodesC N cs l] [bk b32 #[(vB false), vZ, vZ, vZ] 99, bk b30 #[(vI h.at_), (vI h.turn)] 92] [2, 3, 4, 5, 0, 1] rfl
  refine WL.callX rfl (at_miss ab l (⟨pv, fb, cs, ks, N⟩ : ArI) h hK hh (M.eF fq trivial)) (CallsF.func Try.en121 rfl) ?_
  rintro _ w34 ⟨rfl, m⟩
  replace M := M.lF fq m
  clear m
  refine wM (Value.tuple #[vN, (vI 110)]) (wP vN (wP (vI 110) (wA vN (wA (vI 110) (WL.nil ?_)))))
  refine W.seq' (wR (wM (vI 110) (wP (vB true) (WL.nil ?_))))
  refine W.cond (t := true) rfl (fun _ => ?_) (fun h => by cases h)
  refine wR (wP (Value.agg #[(vB false), vZ, vZ, vZ]) (wM (vI 110) ?_))
  refine WL.store (v := (Value.agg #[(vB false), vZ, vZ, vZ])) (cs := [(vB false), vZ, vZ, vZ]) (c' := #[(vB false), vZ, vZ, vZ]) M 4 rfl rfl Try.el99.sized rfl rfl rfl rfl (Nat.le_of_ble_eq_true rfl) (cel_cons rfl (cel_cons rfl (cel_cons rfl (cel_cons rfl cel_nil)))) rfl rfl (fun w35 M => ?_)
  refine wA (vI 110) (WL.nil ?_)
  refine W.ret ?_
  refine ⟨.inl rfl, (Value.tuple #[(Value.agg #[(vB false), vZ, vZ, vZ]), (vI 110)]), ?_, ?_⟩
  · exact ⟨rfl, (Res.r2 (RV.cellN Try.ag99 rfl (M.blk 4 rfl) rfl) (show RV _ _ _ (.tmp 5) (vI 110) from by exact rfl))⟩
  replace M := M.sel (L' := [bk ab #[pv, (Value.map (some fb))] 143, own 145 5 pv l.length cs, setC fb ks, nodesC N cs l, bk b32 #[(vB false), vZ, vZ, vZ] 99, bk b30 #[(vI h.at_), (vI h.turn)] 92]) [0, 1, 2, 3, 4, 5] rfl (by decide)
  replace M := Mem.pack (Ls := arenaL 143 145 ab l) (p := fun i => FreeOk i.ks l) (⟨pv, fb, cs, ks, N⟩ : ArI) M hK
  rw [← hS] at M
  replace M := M.ownNil 9 1
  have e36 : ((rget l h).1).keys = [] := by
   first | (rw [rget_hit hh hp]) | (rw [rget_miss hh]) | (simp [rget_miss hh, ndZero])
   try rfl
  replace M := M.rechunk 0 (c' := oS vZ (((rget l h).1).keys)) rfl (by rw [e36]; try rfl)
  replace M := M.ownNil 92 2
  have e37 : ((rget l h).1).kids = [] := by
   first | (rw [rget_hit hh hp]) | (rw [rget_miss hh]) | (simp [rget_miss hh, ndZero])
   try rfl
  replace M := M.rechunk 0 (c' := oH vZ (((rget l h).1).kids)) rfl (by rw [e37]; try rfl)
  replace M := M.ownNil 3 1
  have e38 : ((rget l h).1).vals = [] := by
   first | (rw [rget_hit hh hp]) | (rw [rget_miss hh]) | (simp [rget_miss hh, ndZero])
   try rfl
  replace M := M.rechunk 0 (c' := oI vZ (((rget l h).1).vals)) rfl (by rw [e38]; try rfl)
  refine ⟨vZ, vZ, vZ, ?_, M.close [3, 2, 1, 0] rfl (by decide) trivial⟩
  first | (rw [rget_hit hh hp]) | (rw [rget_miss hh]) | (simp [rget_miss hh, ndZero])
  try rfl
theorem ar_make {G X : Nat → Prop} {w : World} (ab : Nat) (l : List RPlace) (S : Nat → Prop) (kv : Value) (dv : Value) (vv : Value) (n : Nd)  (hA : SmallA l) (hkn : n.keys.length ≤ 1000000) (hdn : n.kids.length ≤ 1000000) (hvn : n.vals.length ≤ 1000000) (M : Mem G X w [arenaC 143 145 S ab l] [fS kv n.keys, fH dv n.kids, fI vv n.vals] w) : Rets Try.prog 46 #[(vP ab), (Value.agg #[(vB n.leaf), kv, dv, vv])] w fun r w' => ∃ (S' : Nat → Prop), r = (Value.agg #[(vI (((rmake l n).2).at_)), (vI (((rmake l n).2).turn))]) ∧ Mem G X w [arenaC 143 145 S' ab ((rmake l n).1)] [] w' := by
 refine Rets.enter 58 _ Try.func46 rfl Try.ntmps46 Try.results46 (by simp) ?_
 have hle1 := SlAt.le' (M.rep 0 rfl)
 have hle2 := SlAt.le' (M.rep 1 rfl)
 have hle3 := SlAt.le' (M.rep 2 rfl)
 have sl4 : IsSl kv := SlAt.isSl (Mem.rep M 0 rfl)
 have sl5 : IsSl dv := SlAt.isSl (Mem.rep M 1 rfl)
 have sl6 : IsSl vv := SlAt.isSl (Mem.rep M 2 rfl)
 have hA1 := hA.1; have hle0 := leastF_le (l := l)
 obtain ⟨⟨pv, fb, cs, ks, N⟩, hK, hS, M⟩ := M.unpack
 replace hK : FreeOk ks l := hK
 have hcl := (M.chunk 1 rfl).inv.1
 simp only at hcl
 have sl7 : IsSl pv := SlAt.isSl (own_slAt (Mem.chunk M 1 rfl).inv)
 have hle8 := SlAt.le' (own_slAt (Mem.chunk M 1 rfl).inv)
 refine wR ?_
 refine WL.box (v := (Value.agg #[(vB n.leaf), kv, dv, vv])) (c := #[(vB n.leaf), kv, dv, vv]) M rfl rfl rfl (fun b9 w10 hb9 M => ?_)
 refine WL.alloc (c := #[(vI 0), (vI 0)]) M rfl Try.el92.zero rfl (fun b11 w12 hb11 M => ?_)
 refine WL.nil (W.seq' (wR (wM (vP ab) (wP (vB false) (WL.nil ?_)))))
 refine W.cond (t := false) rfl (fun h => by cases h) (fun _ => ?_)
 refine W.skip (wR (wM (vP ab) ?_))
 have fq := M.frm [bk ab #[pv, (Value.map (some fb))] 143, own 145 5 pv l.length cs, setC fb ks, nodesC N cs l] [bk b11 #[(vI 0), (vI 0)] 92, bk b9 #[(vB n.leaf), kv, dv, vv] 99] [2, 3, 4, 5, 0, 1] rfl
 refine WL.callX rfl (ar_least ab l (⟨pv, fb, cs, ks, N⟩ : ArI) hK (M.eF fq trivial)) (CallsF.func Try.en81 rfl) ?_
 rintro _ w13 ⟨rfl, m⟩
 replace M := M.lF fq m
 clear m
 refine wA (vI (↑(leastF l))) (WL.nil (W.seq' (wR (wM (vI (↑(leastF l))) (wM (vP ab) ?_)))))
 refine wP (vP ab) (wP (vP ab) (wS pv rfl (Step.load1 Try.sc140 rfl ((M.cell 0 rfl 0).trans rfl)) (wS (vI ↑l.length) rfl (Step.lenSl Try.un140 rfl (own_slAt (M.chunk 1 rfl).inv)) (wP (vB ((↑(leastF l) : Int) == (↑l.length : Int))) (WL.nil ?_)))))
 refine W.cond (t := (↑(leastF l) : Int) == (↑l.length : Int)) rfl (fun h14 => ?_) (fun h14 => ?_)
 ·
  have h14p : (↑(leastF l) : Int) = (↑l.length : Int) := by simpa using h14
  refine W.region rfl (wM (vP ab) (wM (vP ab) (wP (vP ab) (wP (vP ab) (wS pv rfl (Step.load1 Try.sc140 rfl ((M.cell 0 rfl 0).trans rfl)) ?_)))))
  refine wP (Value.agg #[(vB false), vZ, vZ, vZ, (vI 0)]) ?_
  refine WL.new (obj := .cells #[(vB false), vZ, vZ, vZ, (vI 0)] 145) (fun b => .slice (some ⟨b, 0, none⟩) 1 1) M rfl (fun w => Step.make (by kernel_rfl)) (fun b15 w16 hb15 M => ?_)
  refine WL.does rfl (M.append (sv := (Value.slice (some ⟨b15, 0, none⟩) 1 1)) (news := [(vB false), vZ, vZ, vZ, (vI 0)]) 2 Try.un140 Try.el145 rfl (by decide) rfl rfl rfl (SlAt.of_blk (M.blk 0 rfl) rfl (by decide)) (Step.Cellish.one (cel_cons rfl (cel_cons rfl (cel_cons rfl (cel_cons rfl (cel_cons rfl cel_nil)))))) (by have := trivial; simp only [maxLen]; omega) (by have := trivial; omega)) ?_
  rintro v17 w18 ⟨-, -, M⟩
  have sl19 : IsSl v17 := SlAt.isSl (own_slAt (M.chunk 2 rfl).inv)
  refine wP (vP ab) (wP (vP ab) ?_)
  refine WL.store (v := v17) (cs := [v17]) (c' := #[v17, (Value.map (some fb))]) M 1 rfl rfl Try.el140.sized rfl rfl (IsSl.list sl19) rfl (Nat.le_of_ble_eq_true rfl) (cel_cons (IsSl.cel sl19) cel_nil) rfl rfl (fun w20 M => ?_)
  refine WL.nil (wR (wM (vP ab) (wP (vP ab) (wP (Value.pointer (some ⟨ab, 1, none⟩)) (wS (Value.map (some fb)) rfl (Step.load1 Try.sc141 rfl ((M.cell 1 rfl 1).trans rfl)) ?_)))))
  refine wM (vI (↑(leastF l))) ?_
  refine WL.act rfl (M.setDel 3 rfl hK.1 Try.mt141 rfl rfl) ?_
  rintro w21 ⟨M, -⟩
  refine WL.nil (wR (wM (vP ab) (wP (vP ab) (wP (vP ab) (wS v17 rfl (Step.load1 Try.sc140 rfl ((M.cell 1 rfl 0).trans rfl)) ?_)))))
  refine wM (vI (↑(leastF l))) ?_
  obtain ⟨cap23, hb22⟩ := SlAt.base (own_slAt (M.chunk 2 rfl).inv) (by omega)
  have hpre24 : (cs).length = (leastF l) * 5 := by omega
  replace M := M.rechunk 2 (c' := own 145 5 v17 (l.length + 1) (cs ++ ([(vB false), vZ, vZ, vZ, (vI 0)] ++ []))) rfl rfl
  refine wS (vQ v17 (leastF l) 5) rfl (sX (leastF l) Try.un140 Try.el145 rfl rfl hb22) (wA (vQ v17 (leastF l) 5) (WL.nil (wR (wM (vQ v17 (leastF l) 5) (wP (vQ v17 (leastF l) 5) ?_)))))
  refine wP (vR v17 (leastF l) 5 4) (wS (vI 0) rfl (Step.loadE (k := 4) Try.sc3 (ec_open (own_slAt (M.chunk 2 rfl).inv) hpre24 rfl (by first | omega | (simp only [List.length_set, List.length_append, List.length_cons, List.length_nil]; omega))) (by decide) rfl rfl) (wP (vI 1) (wP (vQ v17 (leastF l) 5) (wP (vR v17 (leastF l) 5 4) ?_))))
  refine WL.act rfl (M.storeAt (cells := [(vB false), vZ, vZ, vZ, (vI 0)]) (cells' := [(vB false), vZ, vZ, vZ, (vI 1)]) (new := [(vI 1)]) (k := 4) 2 rfl hpre24 Try.el3.sized rfl rfl rfl (cel_cons rfl cel_nil) (by first | omega | (simp only [List.length_set, List.length_append, List.length_cons, List.length_nil]; omega)) (Nat.le_of_ble_eq_true rfl) rfl rfl) ?_
  rintro w25 ⟨M, -⟩
  refine WL.nil (W.seq' ?_)
  replace M := M.loseI 0
  refine W.region rfl (wM (vQ v17 (leastF l) 5) (wS (Value.agg #[(vB n.leaf), kv, dv, vv]) rfl (Step.loadN Try.ag99 rfl (M.blk 5 rfl) (Nat.le_of_ble_eq_true rfl) rfl) ?_))
  refine WL.callX rfl (copied kv dv vv n (by omega) (by omega) (by omega) (M.enterW0 ⟨(M.wideR0 0 rfl), (M.wideR0 1 rfl), (M.wideR0 2 rfl), trivial⟩)) (CallsF.func Try.en82 rfl) ?_
  rintro _ w29 ⟨kv26, dv27, vv28, rfl, m⟩
  replace M := M.leaveW0 m
  clear m
  have sl30 : IsSl kv26 := SlAt.isSl (own_slAt (Mem.chunk M 0 rfl).inv)
  have hle31 := SlAt.le' (own_slAt (Mem.chunk M 0 rfl).inv)
  have sl32 : IsSl dv27 := SlAt.isSl (own_slAt (Mem.chunk M 1 rfl).inv)
  have hle33 := SlAt.le' (own_slAt (Mem.chunk M 1 rfl).inv)
  have sl34 : IsSl vv28 := SlAt.isSl (own_slAt (Mem.chunk M 2 rfl).inv)
  have hle35 := SlAt.le' (own_slAt (Mem.chunk M 2 rfl).inv)
  refine wP (vQ v17 (leastF l) 5) (wP (vQ v17 (leastF l) 5) ?_)
  refine WL.act rfl (M.storeAt (cells := [(vB false), vZ, vZ, vZ, (vI 1)]) (cells' := [(vB n.leaf), kv26, dv27, vv28, (vI 1)]) (new := [(vB n.leaf), kv26, dv27, vv28]) (k := 0) 4 rfl hpre24 Try.el99.sized rfl rfl rfl (cel_cons rfl (cel_cons (IsSl.cel sl30) (cel_cons (IsSl.cel sl32) (cel_cons (IsSl.cel sl34) cel_nil)))) (by first | omega | (simp only [List.length_set, List.length_append, List.length_cons, List.length_nil]; omega)) (Nat.le_of_ble_eq_true rfl) rfl rfl) ?_
  rintro w36 ⟨M, -⟩
  refine WL.nil (wR (wM (vI (↑(leastF l))) (wM (vQ v17 (leastF l) 5) (wP (vQ v17 (leastF l) 5) (wP (vR v17 (leastF l) 5 4) ?_)))))
  refine wS (vI 1) rfl (Step.loadE (k := 4) Try.sc3 (ec_open (own_slAt (M.chunk 4 rfl).inv) hpre24 rfl (by first | omega | (simp only [List.length_set, List.length_append, List.length_cons, List.length_nil]; omega))) (by decide) rfl rfl) (wP (Value.agg #[(vI (↑(leastF l))), (vI 1)]) ?_)
  refine WL.store (v := (Value.agg #[(vI (↑(leastF l))), (vI 1)])) (cs := [(vI (↑(leastF l))), (vI 1)]) (c' := #[(vI (↑(leastF l))), (vI 1)]) M 7 rfl rfl Try.el92.sized rfl rfl rfl rfl (Nat.le_of_ble_eq_true rfl) (cel_cons rfl (cel_cons rfl cel_nil)) rfl rfl (fun w37 M => ?_)
  refine WL.nil ?_
  refine W.ret ?_
  refine ⟨.inl rfl, (Value.agg #[(vI (↑(leastF l))), (vI 1)]), ?_, ?_⟩
  · exact ⟨rfl, (Res.r1 (RV.cellN Try.ag92 rfl (M.blk 7 rfl) rfl))⟩
  replace M := M.sel (L' := [nodesC N cs l, oS kv26 n.keys, oH dv27 n.kids, oI vv28 n.vals, bk ab #[v17, (Value.map (some fb))] 143, own 145 5 v17 (l.length + 1) (cs ++ ([(vB n.leaf), kv26, dv27, vv28, (vI 1)] ++ [])), setC fb (ks.erase (↑(leastF l))), bk b11 #[(vI (↑(leastF l))), (vI 1)] 92, bk b9 #[(vB n.leaf), kv, dv, vv] 99]) [6, 0, 1, 2, 3, 4, 5, 7, 8] rfl (by decide)
  obtain ⟨N38, M⟩ := M.nodesAdd (n := n) (u := true) (t := 1)
  replace M := M.rechunk 2 (c' := own 145 5 v17 ((l ++ [(⟨true, 1, n⟩ : RPlace)]).length) (cs ++ ([(vB n.leaf), kv26, dv27, vv28, (vI 1)] ++ []))) rfl (by rw [List.length_append, List.length_singleton])
  replace M := M.sel (L' := [bk ab #[v17, (Value.map (some fb))] 143, own 145 5 v17 ((l ++ [(⟨true, 1, n⟩ : RPlace)]).length) (cs ++ ([(vB n.leaf), kv26, dv27, vv28, (vI 1)] ++ [])), setC fb (ks.erase (↑(leastF l))), nodesC N38 (cs ++ ([(vB n.leaf), kv26, dv27, vv28, (vI 1)] ++ [])) (l ++ [(⟨true, 1, n⟩ : RPlace)]), bk b11 #[(vI (↑(leastF l))), (vI 1)] 92, bk b9 #[(vB n.leaf), kv, dv, vv] 99]) [1, 2, 3, 0, 4, 5] rfl (by decide)
  replace M := Mem.pack (Ls := arenaL 143 145 ab (l ++ [(⟨true, 1, n⟩ : RPlace)])) (p := fun i => FreeOk i.ks (l ++ [(⟨true, 1, n⟩ : RPlace)])) (⟨v17, fb, (cs ++ ([(vB n.leaf), kv26, dv27, vv28, (vI 1)] ++ [])), ks.erase (↑(leastF l)), N38⟩ : ArI) M (free_make_new hK (by omega))
  have hr := rmake_new (l := l) (n := n) (by omega)
  rw [hr]
  exact ⟨_, rfl, M.close [0] rfl (by decide) trivial⟩
 ·
  have h14p : ¬ (↑(leastF l) : Int) = (↑l.length : Int) := by simpa using h14
  refine W.skip (wR (wM (vP ab) (wP (vP ab) (wP (Value.pointer (some ⟨ab, 1, none⟩)) (wS (Value.map (some fb)) rfl (Step.load1 Try.sc141 rfl ((M.cell 0 rfl 1).trans rfl)) ?_)))))
  refine wM (vI (↑(leastF l))) ?_
  refine WL.act rfl (M.setDel 2 rfl hK.1 Try.mt141 rfl rfl) ?_
  rintro w39 ⟨M, -⟩
  refine WL.nil (wR (wM (vP ab) (wP (vP ab) (wP (vP ab) (wS pv rfl (Step.load1 Try.sc140 rfl ((M.cell 0 rfl 0).trans rfl)) ?_)))))
  refine wM (vI (↑(leastF l))) ?_
  obtain ⟨cap41, hb40⟩ := SlAt.base (own_slAt (M.chunk 1 rfl).inv) (by omega)
  obtain ⟨p42, hp42⟩ := elem_of_lt (xs := l) (i := leastF l) (by omega)
  obtain ⟨hs43, hs44, hs45, hs46, hs47⟩ := hA.2 _ _ hp42
  obtain ⟨kv48, dv49, vv50, sl51, sl52, sl53, hc54⟩ := place_cells (M.chunk 3 rfl).inv hp42
  refine wS (vQ pv (leastF l) 5) rfl (sX (leastF l) Try.un140 Try.el145 rfl rfl hb40) (wA (vQ pv (leastF l) 5) (WL.nil (wR (wM (vQ pv (leastF l) 5) (wP (vQ pv (leastF l) 5) ?_)))))
  refine wP (vR pv (leastF l) 5 4) (wS (vI p42.turn) rfl (Step.loadE (k := 4) Try.sc3 (ec_row (own_slAt (M.chunk 1 rfl).inv) hc54 (by omega)) (by decide) rfl rfl) (wS (vI (p42.turn + 1)) rfl (Step.add rfl rfl (wrap_i64 (by omega))) (wP (vQ pv (leastF l) 5) (wP (vR pv (leastF l) 5 4) ?_))))
  obtain ⟨pre61, post62, kv55, dv56, vv57, sl58, sl59, sl60, hcs63, hpre64⟩ := place_open (M.chunk 3 rfl).inv hp42
  replace M := M.rechunk 1 (c' := own 145 5 pv l.length (pre61 ++ ([(vB p42.node.leaf), kv55, dv56, vv57, (vI p42.turn)] ++ post62))) rfl (by rw [hcs63])
  replace M := M.rechunk 3 (c' := nodesC N (pre61 ++ ([(vB p42.node.leaf), kv55, dv56, vv57, (vI p42.turn)] ++ post62)) l) rfl (by rw [hcs63])
  refine WL.act rfl (M.storeAt (cells := [(vB p42.node.leaf), kv55, dv56, vv57, (vI p42.turn)]) (cells' := [(vB p42.node.leaf), kv55, dv56, vv57, (vI (p42.turn + 1))]) (new := [(vI (p42.turn + 1))]) (k := 4) 1 rfl hpre64 Try.el3.sized rfl rfl rfl (cel_cons rfl cel_nil) (by first | omega | (simp only [List.length_set, List.length_append, List.length_cons, List.length_nil]; omega)) (Nat.le_of_ble_eq_true rfl) rfl rfl) ?_
  rintro w65 ⟨M, -⟩
  refine WL.nil (wR (wM (vQ pv (leastF l) 5) (wS (Value.agg #[(vB n.leaf), kv, dv, vv]) rfl (Step.loadN Try.ag99 rfl (M.blk 5 rfl) (Nat.le_of_ble_eq_true rfl) rfl) ?_)))
  refine WL.callX rfl (copied kv dv vv n (by omega) (by omega) (by omega) (M.enterW0 ⟨(M.wideR0 0 rfl), (M.wideR0 1 rfl), (M.wideR0 2 rfl), trivial⟩)) (CallsF.func Try.en82 rfl) ?_
  rintro _ w69 ⟨kv66, dv67, vv68, rfl, m⟩
  replace M := M.leaveW0 m
  clear m
  have sl70 : IsSl kv66 := SlAt.isSl (own_slAt (Mem.chunk M 0 rfl).inv)
  have hle71 := SlAt.le' (own_slAt (Mem.chunk M 0 rfl).inv)
  have sl72 : IsSl dv67 := SlAt.isSl (own_slAt (Mem.chunk M 1 rfl).inv)
  have hle73 := SlAt.le' (own_slAt (Mem.chunk M 1 rfl).inv)
  have sl74 : IsSl vv68 := SlAt.isSl (own_slAt (Mem.chunk M 2 rfl).inv)
  have hle75 := SlAt.le' (own_slAt (Mem.chunk M 2 rfl).inv)
  refine wP (vQ pv (leastF l) 5) (wP (vQ pv (leastF l) 5) ?_)
  refine WL.act rfl (M.storeAt (cells := [(vB p42.node.leaf), kv55, dv56, vv57, (vI (p42.turn + 1))]) (cells' := [(vB n.leaf), kv66, dv67, vv68, (vI (p42.turn + 1))]) (new := [(vB n.leaf), kv66, dv67, vv68]) (k := 0) 4 rfl hpre64 Try.el99.sized rfl rfl rfl (cel_cons rfl (cel_cons (IsSl.cel sl70) (cel_cons (IsSl.cel sl72) (cel_cons (IsSl.cel sl74) cel_nil)))) (by first | omega | (simp only [List.length_set, List.length_append, List.length_cons, List.length_nil]; omega)) (Nat.le_of_ble_eq_true rfl) rfl rfl) ?_
  rintro w76 ⟨M, -⟩
  refine WL.nil (wR (wM (vI (↑(leastF l))) (wM (vQ pv (leastF l) 5) (wP (vQ pv (leastF l) 5) (wP (vR pv (leastF l) 5 4) ?_)))))
  refine wS (vI (p42.turn + 1)) rfl (Step.loadE (k := 4) Try.sc3 (ec_open (own_slAt (M.chunk 4 rfl).inv) hpre64 rfl (by first | omega | (simp only [List.length_set, List.length_append, List.length_cons, List.length_nil]; omega))) (by decide) rfl rfl) (wP (Value.agg #[(vI (↑(leastF l))), (vI (p42.turn + 1))]) ?_)
  refine WL.store (v := (Value.agg #[(vI (↑(leastF l))), (vI (p42.turn + 1))])) (cs := [(vI (↑(leastF l))), (vI (p42.turn + 1))]) (c' := #[(vI (↑(leastF l))), (vI (p42.turn + 1))]) M 7 rfl rfl Try.el92.sized rfl rfl rfl rfl (Nat.le_of_ble_eq_true rfl) (cel_cons rfl (cel_cons rfl cel_nil)) rfl rfl (fun w77 M => ?_)
  refine WL.nil ?_
  refine W.ret ?_
  refine ⟨.inl rfl, (Value.agg #[(vI (↑(leastF l))), (vI (p42.turn + 1))]), ?_, ?_⟩
  · exact ⟨rfl, (Res.r1 (RV.cellN Try.ag92 rfl (M.blk 7 rfl) rfl))⟩
  replace M := M.sel (L' := [nodesC N (pre61 ++ ([(vB p42.node.leaf), kv55, dv56, vv57, (vI p42.turn)] ++ post62)) l, oS kv66 n.keys, oH dv67 n.kids, oI vv68 n.vals, bk ab #[pv, (Value.map (some fb))] 143, own 145 5 pv l.length (pre61 ++ ([(vB n.leaf), kv66, dv67, vv68, (vI (p42.turn + 1))] ++ post62)), setC fb (ks.erase (↑(leastF l))), bk b11 #[(vI (↑(leastF l))), (vI (p42.turn + 1))] 92, bk b9 #[(vB n.leaf), kv, dv, vv] 99]) [6, 0, 1, 2, 3, 4, 5, 7, 8] rfl (by decide)
  obtain ⟨N78, M⟩ := M.nodesPut (n := n) (i := leastF l) (u := true) (t := p42.turn + 1) hpre64 rfl (by omega)
  replace M := M.rechunk 2 (c' := own 145 5 pv ((l.set (leastF l) (⟨true, p42.turn + 1, n⟩ : RPlace)).length) (pre61 ++ ([(vB n.leaf), kv66, dv67, vv68, (vI (p42.turn + 1))] ++ post62))) rfl (by rw [List.length_set])
  replace M := M.sel (L' := [bk ab #[pv, (Value.map (some fb))] 143, own 145 5 pv ((l.set (leastF l) (⟨true, p42.turn + 1, n⟩ : RPlace)).length) (pre61 ++ ([(vB n.leaf), kv66, dv67, vv68, (vI (p42.turn + 1))] ++ post62)), setC fb (ks.erase (↑(leastF l))), nodesC N78 (pre61 ++ ([(vB n.leaf), kv66, dv67, vv68, (vI (p42.turn + 1))] ++ post62)) (l.set (leastF l) (⟨true, p42.turn + 1, n⟩ : RPlace)), bk b11 #[(vI (↑(leastF l))), (vI (p42.turn + 1))] 92, bk b9 #[(vB n.leaf), kv, dv, vv] 99]) [1, 2, 3, 0, 4, 5] rfl (by decide)
  replace M := Mem.pack (Ls := arenaL 143 145 ab (l.set (leastF l) (⟨true, p42.turn + 1, n⟩ : RPlace))) (p := fun i => FreeOk i.ks (l.set (leastF l) (⟨true, p42.turn + 1, n⟩ : RPlace))) (⟨pv, fb, (pre61 ++ ([(vB n.leaf), kv66, dv67, vv68, (vI (p42.turn + 1))] ++ post62)), ks.erase (↑(leastF l)), N78⟩ : ArI) M (free_make_old hK (by omega))
  have hr := rmake_old (n := n) hp42
  rw [hr]
  exact ⟨_, rfl, M.close [0] rfl (by decide) trivial⟩
theorem ar_put {G X : Nat → Prop} {w : World} (ab : Nat) (l : List RPlace) (S : Nat → Prop) (h : Handle) (kv : Value) (dv : Value) (vv : Value) (n : Nd)  (hA : SmallA l) (hkn : n.keys.length ≤ 1000000) (hdn : n.kids.length ≤ 1000000) (hvn : n.vals.length ≤ 1000000) (M : Mem G X w [arenaC 143 145 S ab l] [fS kv n.keys, fH dv n.kids, fI vv n.vals] w) : Rets Try.prog 111 #[(vP ab), (Value.agg #[(vI h.at_), (vI h.turn)]), (Value.agg #[(vB n.leaf), kv, dv, vv])] w fun r w' => ∃ (S' : Nat → Prop), r = (vI ((rput l h n).2)) ∧ Mem G X w [arenaC 143 145 S' ab ((rput l h n).1)] [] w' := by
 refine Rets.enter 23 _ Try.func111 rfl Try.ntmps111 Try.results111 (by simp) ?_
 have hle1 := SlAt.le' (M.rep 0 rfl)
 have hle2 := SlAt.le' (M.rep 1 rfl)
 have hle3 := SlAt.le' (M.rep 2 rfl)
 have sl4 : IsSl kv := SlAt.isSl (Mem.rep M 0 rfl)
 have sl5 : IsSl dv := SlAt.isSl (Mem.rep M 1 rfl)
 have sl6 : IsSl vv := SlAt.isSl (Mem.rep M 2 rfl)
 obtain ⟨⟨pv, fb, cs, ks, N⟩, hK, hS, M⟩ := M.unpack
 replace hK : FreeOk ks l := hK
 have hcl := (M.chunk 1 rfl).inv.1
 simp only at hcl
 have sl7 : IsSl pv := SlAt.isSl (own_slAt (Mem.chunk M 1 rfl).inv)
 have hle8 := SlAt.le' (own_slAt (Mem.chunk M 1 rfl).inv)
 rcases Bool.eq_false_or_eq_true (rhas l h) with hh | hh
 ·
  obtain ⟨p, hp, hu, ht, h0, hlt⟩ := rhas_place hh
  obtain ⟨_, _, hs1, hs2, hs3⟩ := hA.2 _ _ hp
  refine wR ?_
  refine WL.box (v := (Value.agg #[(vI h.at_), (vI h.turn)])) (c := #[(vI h.at_), (vI h.turn)]) M rfl rfl rfl (fun b9 w10 hb9 M => ?_)
  refine WL.box (v := (Value.agg #[(vB n.leaf), kv, dv, vv])) (c := #[(vB n.leaf), kv, dv, vv]) M rfl rfl rfl (fun b11 w12 hb11 M => ?_)
  refine wA (vI 0) (WL.nil (wR (wM (vP ab) (wS (Value.agg #[(vI h.at_), (vI h.turn)]) rfl (Step.loadN Try.ag92 rfl (M.blk 1 rfl) (Nat.le_of_ble_eq_true rfl) rfl) ?_))))
  have fq := M.frm [bk ab #[pv, (Value.map (some fb))] 143, own 145 5 pv l.length cs, setC fb ks, nodesC N cs l] [bk b11 #[(vB n.leaf), kv, dv, vv] 99, bk b9 #[(vI h.at_), (vI h.turn)] 92] [2, 3, 4, 5, 0, 1] rfl
  refine WL.callX rfl (at_hit ab l (⟨pv, fb, cs, ks, N⟩ : ArI) h hK hh (M.eF fq trivial)) (CallsF.func Try.en121 rfl) ?_
  rintro _ w13 ⟨rfl, m⟩
  replace M := M.lF fq m
  clear m
  refine wM (Value.tuple #[(vQ pv h.at_.toNat 5), (vI 0)]) (wP (vQ pv h.at_.toNat 5) (wP (vI 0) (wA (vQ pv h.at_.toNat 5) (wA (vI 0) (WL.nil ?_)))))
  refine W.seq' (wR (wM (vI 0) (wP (vB true) (WL.nil ?_))))
  refine W.cond (t := true) rfl (fun _ => ?_) (fun h => by cases h)
  replace M := M.loseI 5
  refine W.region rfl (wM (vQ pv h.at_.toNat 5) (wS (Value.agg #[(vB n.leaf), kv, dv, vv]) rfl (Step.loadN Try.ag99 rfl (M.blk 4 rfl) (Nat.le_of_ble_eq_true rfl) rfl) ?_))
  refine WL.callX rfl (copied kv dv vv n (by omega) (by omega) (by omega) (M.enterW0 ⟨(M.wideR0 0 rfl), (M.wideR0 1 rfl), (M.wideR0 2 rfl), trivial⟩)) (CallsF.func Try.en82 rfl) ?_
  rintro _ w17 ⟨kv14, dv15, vv16, rfl, m⟩
  replace M := M.leaveW0 m
  clear m
  have sl18 : IsSl kv14 := SlAt.isSl (own_slAt (Mem.chunk M 0 rfl).inv)
  have hle19 := SlAt.le' (own_slAt (Mem.chunk M 0 rfl).inv)
  have sl20 : IsSl dv15 := SlAt.isSl (own_slAt (Mem.chunk M 1 rfl).inv)
  have hle21 := SlAt.le' (own_slAt (Mem.chunk M 1 rfl).inv)
  have sl22 : IsSl vv16 := SlAt.isSl (own_slAt (Mem.chunk M 2 rfl).inv)
  have hle23 := SlAt.le' (own_slAt (Mem.chunk M 2 rfl).inv)
  refine wP (vQ pv h.at_.toNat 5) (wP (vQ pv h.at_.toNat 5) ?_)
  obtain ⟨pre31, post32, kv25, dv26, vv27, sl28, sl29, sl30, hcs33, hpre34⟩ := place_open (M.chunk 6 rfl).inv hp
  replace M := M.rechunk 4 (c' := own 145 5 pv l.length (pre31 ++ ([(vB p.node.leaf), kv25, dv26, vv27, (vI p.turn)] ++ post32))) rfl (by rw [hcs33])
  replace M := M.rechunk 6 (c' := nodesC N (pre31 ++ ([(vB p.node.leaf), kv25, dv26, vv27, (vI p.turn)] ++ post32)) l) rfl (by rw [hcs33])
  refine WL.act rfl (M.storeAt (cells := [(vB p.node.leaf), kv25, dv26, vv27, (vI p.turn)]) (cells' := [(vB n.leaf), kv14, dv15, vv16, (vI p.turn)]) (new := [(vB n.leaf), kv14, dv15, vv16]) (k := 0) 4 rfl hpre34 Try.el99.sized rfl rfl rfl (cel_cons rfl (cel_cons (IsSl.cel sl18) (cel_cons (IsSl.cel sl20) (cel_cons (IsSl.cel sl22) cel_nil)))) (by first | omega | (simp only [List.length_set, List.length_append, List.length_cons, List.length_nil]; omega)) (Nat.le_of_ble_eq_true rfl) rfl rfl) ?_
  rintro w35 ⟨M, -⟩
  refine WL.nil (wR (wM (vI 0) (wA (vI 0) (WL.nil ?_))))
  refine W.ret ?_
  refine ⟨.inl rfl, (vI 0), ?_, ?_⟩
  · exact ⟨rfl, (Res.r1 (show RV _ _ _ (.tmp 6) (vI 0) from by exact rfl))⟩
  replace M := M.sel (L' := [nodesC N (pre31 ++ ([(vB p.node.leaf), kv25, dv26, vv27, (vI p.turn)] ++ post32)) l, oS kv14 n.keys, oH dv15 n.kids, oI vv16 n.vals, bk ab #[pv, (Value.map (some fb))] 143, own 145 5 pv l.length (pre31 ++ ([(vB n.leaf), kv14, dv15, vv16, (vI p.turn)] ++ post32)), setC fb ks, bk b11 #[(vB n.leaf), kv, dv, vv] 99]) [6, 0, 1, 2, 3, 4, 5, 7] rfl (by decide)
  obtain ⟨N36, M⟩ := M.nodesPut (n := n) (i := h.at_.toNat) (u := true) (t := p.turn) hpre34 rfl (by omega)
  replace M := M.rechunk 2 (c' := own 145 5 pv ((l.set h.at_.toNat (⟨true, p.turn, n⟩ : RPlace)).length) (pre31 ++ ([(vB n.leaf), kv14, dv15, vv16, (vI p.turn)] ++ post32))) rfl (by rw [List.length_set])
  rw [rput_hit hh, ← ht]
  replace M := M.sel (L' := [bk ab #[pv, (Value.map (some fb))] 143, own 145 5 pv ((l.set h.at_.toNat (⟨true, p.turn, n⟩ : RPlace)).length) (pre31 ++ ([(vB n.leaf), kv14, dv15, vv16, (vI p.turn)] ++ post32)), setC fb ks, nodesC N36 (pre31 ++ ([(vB n.leaf), kv14, dv15, vv16, (vI p.turn)] ++ post32)) (l.set h.at_.toNat (⟨true, p.turn, n⟩ : RPlace)), bk b11 #[(vB n.leaf), kv, dv, vv] 99]) [1, 2, 3, 0, 4] rfl (by decide)
  replace M := Mem.pack (Ls := arenaL 143 145 ab (l.set h.at_.toNat (⟨true, p.turn, n⟩ : RPlace))) (p := fun i => FreeOk i.ks (l.set h.at_.toNat (⟨true, p.turn, n⟩ : RPlace))) (⟨pv, fb, (pre31 ++ ([(vB n.leaf), kv14, dv15, vv16, (vI p.turn)] ++ post32)), ks, N36⟩ : ArI) M (free_set_used hK hp hu)
  exact ⟨_, rfl, M.close [0] rfl (by decide) trivial⟩
 ·
  refine wR ?_
  refine WL.box (v := (Value.agg #[(vI h.at_), (vI h.turn)])) (c := #[(vI h.at_), (vI h.turn)]) M rfl rfl rfl (fun b37 w38 hb37 M => ?_)
  refine WL.box (v := (Value.agg #[(vB n.leaf), kv, dv, vv])) (c := #[(vB n.leaf), kv, dv, vv]) M rfl rfl rfl (fun b39 w40 hb39 M => ?_)
  refine wA (vI 0) (WL.nil (wR (wM (vP ab) (wS (Value.agg #[(vI h.at_), (vI h.turn)]) rfl (Step.loadN Try.ag92 rfl (M.blk 1 rfl) (Nat.le_of_ble_eq_true rfl) rfl) ?_))))
  have fq := M.frm [bk ab #[pv, (Value.map (some fb))] 143, own 145 5 pv l.length cs, setC fb ks, nodesC N cs l] [bk b39 #[(vB n.leaf), kv, dv, vv] 99, bk b37 #[(vI h.at_), (vI h.turn)] 92] [2, 3, 4, 5, 0, 1] rfl
  refine WL.callX rfl (at_miss ab l (⟨pv, fb, cs, ks, N⟩ : ArI) h hK hh (M.eF fq trivial)) (CallsF.func Try.en121 rfl) ?_
  rintro _ w41 ⟨rfl, m⟩
  replace M := M.lF fq m
  clear m
  refine wM (Value.tuple #[vN, (vI 110)]) (wP vN (wP (vI 110) (wA vN (wA (vI 110) (WL.nil ?_)))))
  refine W.seq' (wR (wM (vI 110) (wP (vB false) (WL.nil ?_))))
  refine W.cond (t := false) rfl (fun h => by cases h) (fun _ => ?_)
  refine W.skip (wR (wM (vI 110) (wA (vI 110) (WL.nil ?_))))
  refine W.ret ?_
  refine ⟨.inl rfl, (vI 110), ?_, ?_⟩
  · exact ⟨rfl, (Res.r1 (show RV _ _ _ (.tmp 6) (vI 110) from by exact rfl))⟩
  rw [rput_miss hh]
  replace M := M.sel (L' := [bk ab #[pv, (Value.map (some fb))] 143, own 145 5 pv l.length cs, setC fb ks, nodesC N cs l, bk b39 #[(vB n.leaf), kv, dv, vv] 99, bk b37 #[(vI h.at_), (vI h.turn)] 92]) [0, 1, 2, 3, 4, 5] rfl (by decide)
  replace M := Mem.pack (Ls := arenaL 143 145 ab l) (p := fun i => FreeOk i.ks l) (⟨pv, fb, cs, ks, N⟩ : ArI) M hK
  exact ⟨_, rfl, M.close [0] rfl (by decide) trivial⟩
theorem ar_new {G : Nat → Prop} {w : World}    (M : Mem G (fun _ => False) w [] [] w) : Rets Try.prog 61 #[] w fun r w' => ∃ (ab' : Nat) (S' : Nat → Prop), r = (vP ab') ∧ Mem G (fun _ => False) w [arenaC 143 145 S' ab' ([] : List RPlace)] [] w' := by
 refine Rets.enter 4 _ Try.func61 rfl Try.ntmps61 Try.results61 (by simp) ?_
 refine wR (wA vN (WL.nil (wR ?_)))
 refine WL.new (obj := .map #[] 0) (fun b => .map (some b)) M rfl (fun w => Step.makeMap) (fun b1 w2 hb1 M => ?_)
 refine wP (Value.agg #[vZ, (Value.map (some b1))]) ?_
 refine WL.box (v := (Value.agg #[vZ, (Value.map (some b1))])) (c := #[vZ, (Value.map (some b1))]) M rfl rfl rfl (fun b3 w4 hb3 M => ?_)
 refine wA (vP b3) (WL.nil ?_)
 refine W.ret ?_
 refine ⟨.inl rfl, (vP b3), ?_, ?_⟩
 · exact ⟨rfl, (Res.r1 (show RV _ _ _ (.tmp 0) (vP b3) from by exact rfl))⟩
 replace M := M.setNew 1 rfl
 replace M := (M.ownNil 145 5).nodesNil
 replace M := M.rechunk 1 (c' := own 145 5 (Value.slice none 0 0) ([] : List RPlace).length []) rfl rfl
 replace M := M.sel (L' := [bk b3 #[vZ, (Value.map (some b1))] 143, own 145 5 vZ (([] : List RPlace).length) ([]), setC b1 ([]), nodesC (fun _ => False) ([]) ([] : List RPlace)]) [2, 1, 3, 0] rfl (by decide)
 replace M := Mem.pack (Ls := arenaL 143 145 b3 ([] : List RPlace)) (p := fun i => FreeOk i.ks ([] : List RPlace)) (⟨vZ, b1, [], [], (fun _ => False)⟩ : ArI) M free_nil
 exact ⟨_, _, rfl, M.close [0] rfl (by decide) trivial⟩
theorem ar_free {G X : Nat → Prop} {w : World} (ab : Nat) (l : List RPlace) (S : Nat → Prop) (v : Value) (hs : List Handle)  (hA : SmallA l) (M : Mem G X w [arenaC 143 145 S ab l] [fH v hs] w) : Rets Try.prog 50 #[(vP ab), v] w fun r w' => ∃ (S' : Nat → Prop), r = (vI ((rfree l hs).2)) ∧ Mem G X w [arenaC 143 145 S' ab ((rfree l hs).1)] [] w' := by
 refine Rets.enter 62 _ Try.func50 rfl Try.ntmps50 Try.results50 (by simp) ?_
 have hle1 := SlAt.le' (M.rep 0 rfl)
 have sl2 : IsSl v := SlAt.isSl (Mem.rep M 0 rfl)
 have hA1 := hA.1
 obtain ⟨⟨pv, fb, cs, ks, N⟩, hK, hS, M⟩ := M.unpack
 replace hK : FreeOk ks l := hK
 have hcl := (M.chunk 1 rfl).inv.1
 simp only at hcl
 have sl3 : IsSl pv := SlAt.isSl (own_slAt (Mem.chunk M 1 rfl).inv)
 have hle4 := SlAt.le' (own_slAt (Mem.chunk M 1 rfl).inv)
 refine wR (wA (vI 0) (WL.nil (W.seq' (wR (wM (vP ab) ?_)))))
 refine wP (vB false) (WL.nil ?_)
 refine W.cond (t := false) rfl (fun h => by cases h) (fun _ => ?_)
 refine W.skip (W.seq' (wR (wM v (wS (vI ↑hs.length) rfl (Step.lenSl Try.un96 rfl (M.rep 0 rfl)) (wM (vI 0) ?_)))))
 refine WL.nil (W.block ?_)
 refine W.loop (fun kk ρ w' => ∃ (ia_ : Nat), ((ia_ ≤ hs.length) ∧ (freeOkTo l hs ia_) ∧ kk = hs.length - ia_) ∧ ρ.has [(0, (vP ab)), (1, v), (11, v), (12, (vI ↑hs.length)), (13, (vI ↑ia_))] ∧ Mem G X w [bk ab #[pv, (Value.map (some fb))] 143, own 145 5 pv l.length cs, setC fb ks, nodesC N cs l] [fH v hs]  w') _ ⟨0, ⟨(Nat.zero_le _), (fun _ _ h => absurd h (Nat.not_lt_zero _)), rfl⟩, ⟨rfl, rfl, rfl, rfl, rfl, rfl, rfl⟩, M⟩ ?_
 rintro _ ρ6 w5 ⟨ia_, ⟨hi7, hi8, rfl⟩, hρ, M⟩
 obtain ⟨ρ6, rfl⟩ := hρ.know
 clear hρ
 refine wR (wP (vB (decide ((↑ia_ : Int) < (↑hs.length : Int)))) (WL.nil (W.seq' ?_)))
 refine W.cond (t := decide ((↑ia_ : Int) < (↑hs.length : Int))) rfl (fun h9 => ?_) (fun h9 => ?_)
 ·
  have h9p := of_decide_eq_true h9
  refine W.skip (W.seq' (W.block (wR (wM (vI ↑ia_) ?_))))
  obtain ⟨cap11, hb10⟩ := SlAt.base (M.rep 0 rfl) (by omega)
  obtain ⟨x12, hx12⟩ := elem_of_lt (xs := hs) (i := ia_) (by omega)
  refine wS (vQ v ia_ 2) rfl (sX ia_ Try.un96 Try.el92 rfl rfl hb10) (wS (Value.agg #[(vI x12.at_), (vI x12.turn)]) rfl (Step.loadEN (k := 0) (cs' := [(vI x12.at_), (vI x12.turn)]) Try.ag92 (flat_ec (M.rep 0 rfl) hx12 handleE_len) (by decide) rfl rfl rfl) ?_)
  refine WL.alloc (c := #[(vI 0), (vI 0)]) M rfl Try.el92.zero rfl (fun b13 w14 hb13 M => ?_)
  refine wA (vI ↑ia_) ?_
  refine WL.store (v := (Value.agg #[(vI x12.at_), (vI x12.turn)])) (cs := [(vI x12.at_), (vI x12.turn)]) (c' := #[(vI x12.at_), (vI x12.turn)]) M 0 rfl rfl Try.el92.sized rfl rfl rfl rfl (Nat.le_of_ble_eq_true rfl) (cel_cons rfl (cel_cons rfl cel_nil)) rfl rfl (fun w15 M => ?_)
  refine WL.nil (W.seq' ?_)
  rcases Bool.eq_false_or_eq_true (!(rhas l x12)) with h16 | h16
  ·
   refine W.drawn M [0, 1, 2, 3, 4, 5, 6, 7, 8, 9, 10] [2, 9] [] _ _ (sY (sY (sY (sY (sY sE))))) (fun _ h => h) Try.mixed (by kernel_rfl) ?_
   refine tP (vP ab) rfl (fun w => (Step.move rfl)) ?_
   refine tR (Value.agg #[(vI x12.at_), (vI x12.turn)]) rfl (fun A w M => (Step.loadN Try.ag92 rfl (M.blk 1 rfl) (Nat.le_of_ble_eq_true rfl) rfl)) ?_
   refine TW.callX (ι := Unit) (fun jx v_ => v_ = (vB (rhas l x12))) (fun jx => [bk b13 #[(vI x12.at_), (vI x12.turn)] 92, bk ab #[pv, (Value.map (some fb))] 143, own 145 5 pv l.length cs, setC fb ks, nodesC N cs l]) (fun jx => [fH v hs]) rfl (by decide) rfl (fun jx => (sY (sY (sY (sY (sY sE)))))) (fun jx r h => h) (fun A w M => have fq := M.frm [bk ab #[pv, (Value.map (some fb))] 143, own 145 5 pv l.length cs, setC fb ks, nodesC N cs l] [fl A, bk b13 #[(vI x12.at_), (vI x12.turn)] 92] [2, 3, 4, 5, 0, 1] rfl; Rets.mono (ar_has ab l (⟨pv, fb, cs, ks, N⟩ : ArI) x12 hK (M.eF fq trivial)) (fun v_ w_ ⟨e_, m⟩ => ⟨(), e_, (M.lF fq m).sel [4, 5, 0, 1, 2, 3] rfl (by decide), fun b hb => M.kF fq m b hb⟩)) (fun w => CallsF.func Try.en94 rfl) (fun jx v hp hin => ?_)
   replace hp := hp.symm; subst hp
   clear hin
   rw [(show (rhas l x12) = false by simpa using h16)]
   refine tP (vB true) rfl (fun w => sP) ?_
   refine tP (vB true) rfl (fun w => (Step.move rfl)) ?_
   refine TW.skip rfl rfl ?_
   refine TW.skip rfl rfl ?_
   refine TW.skip rfl rfl ?_
   refine TW.skip rfl rfl ?_
   refine TW.skip rfl rfl ?_
   refine tP (vB true) rfl (fun w => (Step.pick (t := true) rfl rfl)) ?_
   refine TW.done (fun w17 M => ?_)
   refine W.cond (t := true) rfl (fun _ => ?_) (fun h => by cases h)
   refine wR (wA (vI 110) (WL.nil ?_))
   refine W.ret ?_
   refine ⟨.inl rfl, (vI 110), ?_, ?_⟩
   · exact ⟨rfl, (Res.r1 (show RV _ _ _ (.tmp 4) (vI 110) from by exact rfl))⟩
   have hnf : freeable l hs = false := freeable_not hx12 (by first | (left; simpa using h16) | (right; simpa using h16))
   rw [rfree_miss hnf]
   replace M := M.sel (L' := [bk ab #[pv, (Value.map (some fb))] 143, own 145 5 pv l.length cs, setC fb ks, nodesC N cs l, bk b13 #[(vI x12.at_), (vI x12.turn)] 92]) [1, 2, 3, 4, 0] rfl (by decide)
   replace M := Mem.pack (Ls := arenaL 143 145 ab l) (p := fun i => FreeOk i.ks l) (⟨pv, fb, cs, ks, N⟩ : ArI) M hK
   exact ⟨_, rfl, M.close [0] rfl (by decide) trivial⟩
  ·
   have hsh18 := SlAt.shp (M.rep 0 rfl)
   have hsh18c := hsh18
   obtain ⟨_, _, hsh18l, hsh18m⟩ := hsh18c
   refine W.drawn M [0, 1, 2, 3, 4, 5, 6, 7, 8, 9, 10] [2, 9] [] _ _ (sY (sY (sY (sY (sY sE))))) (fun _ h => h) Try.mixed (by kernel_rfl) ?_
   refine tP (vP ab) rfl (fun w => (Step.move rfl)) ?_
   refine tR (Value.agg #[(vI x12.at_), (vI x12.turn)]) rfl (fun A w M => (Step.loadN Try.ag92 rfl (M.blk 1 rfl) (Nat.le_of_ble_eq_true rfl) rfl)) ?_
   refine TW.callX (ι := Unit) (fun jx v_ => v_ = (vB (rhas l x12))) (fun jx => [bk b13 #[(vI x12.at_), (vI x12.turn)] 92, bk ab #[pv, (Value.map (some fb))] 143, own 145 5 pv l.length cs, setC fb ks, nodesC N cs l]) (fun jx => [fH v hs]) rfl (by decide) rfl (fun jx => (sY (sY (sY (sY (sY sE)))))) (fun jx r h => h) (fun A w M => have fq := M.frm [bk ab #[pv, (Value.map (some fb))] 143, own 145 5 pv l.length cs, setC fb ks, nodesC N cs l] [fl A, bk b13 #[(vI x12.at_), (vI x12.turn)] 92] [2, 3, 4, 5, 0, 1] rfl; Rets.mono (ar_has ab l (⟨pv, fb, cs, ks, N⟩ : ArI) x12 hK (M.eF fq trivial)) (fun v_ w_ ⟨e_, m⟩ => ⟨(), e_, (M.lF fq m).sel [4, 5, 0, 1, 2, 3] rfl (by decide), fun b hb => M.kF fq m b hb⟩)) (fun w => CallsF.func Try.en94 rfl) (fun jx v hp hin => ?_)
   replace hp := hp.symm; subst hp
   clear hin
   rw [(show (rhas l x12) = true by simpa using h16)]
   refine tP (vB false) rfl (fun w => sP) ?_
   refine tP (vB false) rfl (fun w => (Step.move rfl)) ?_
   refine tP v rfl (fun w => (Step.move rfl)) ?_
   refine tP (vI ↑ia_) rfl (fun w => (Step.move rfl)) ?_
   refine tP (vTake ia_ v) rfl (fun w => (Step.sliceToP (h := ia_) Try.un96 Try.el92.sized rfl rfl (by omega) hsh18 (by obtain ⟨_, _, _, _⟩ := hsh18; omega))) ?_
   refine tR (Value.agg #[(vI x12.at_), (vI x12.turn)]) rfl (fun A w M => (Step.loadN Try.ag92 rfl (M.blk 1 rfl) (Nat.le_of_ble_eq_true rfl) rfl)) ?_
   let Q : List Chunk := [bk b13 #[(vI x12.at_), (vI x12.turn)] 92, bk ab #[pv, (Value.map (some fb))] 143, own 145 5 pv l.length cs, setC fb ks, nodesC N cs l]
   refine TW.callX (ι := Unit) (fun jx v_ => v_ = (vB (decide (x12 ∈ (hs.take ia_))))) (fun jx => Q) (fun jx => [fH v hs]) rfl (by decide) rfl (fun jx => (sY (sY (sY (sY (sY sE)))))) (fun jx r h => h) (fun A w M => Rets.mono (contains_handle (vTake ia_ v) (hs.take ia_) x12 (M.enterW0 ⟨(((M.wideR0 0 rfl)).imp fun _ h => slat_take handleE_len h (by omega)), trivial⟩)) (fun v_ w_ ⟨e_, m⟩ => ⟨(), e_, (M.leaveW0 m).sel [0, 1, 2, 3, 4, 5] rfl (by decide), fun b hb => M.k0F m b hb⟩)) (fun w => CallsF.func Try.en95 rfl) (fun jx v hp hin => ?_)
   replace hp := hp.symm; subst hp
   clear hin
   refine tP (vB (decide (x12 ∈ (hs.take ia_)))) rfl (fun w => (Step.pick (t := false) rfl rfl)) ?_
   refine TW.done (fun w19 M => ?_)
   refine W.cond (t := decide (x12 ∈ (hs.take ia_))) rfl (fun h20 => ?_) (fun h20 => ?_)
   ·
    have h20p := of_decide_eq_true h20
    refine wR (wA (vI 110) (WL.nil ?_))
    refine W.ret ?_
    refine ⟨.inl rfl, (vI 110), ?_, ?_⟩
    · exact ⟨rfl, (Res.r1 (show RV _ _ _ (.tmp 4) (vI 110) from by exact rfl))⟩
    have hnf : freeable l hs = false := freeable_not hx12 (by first | (left; simpa using h20) | (right; simpa using h20))
    rw [rfree_miss hnf]
    replace M := M.sel (L' := [bk ab #[pv, (Value.map (some fb))] 143, own 145 5 pv l.length cs, setC fb ks, nodesC N cs l, bk b13 #[(vI x12.at_), (vI x12.turn)] 92]) [1, 2, 3, 4, 0] rfl (by decide)
    replace M := Mem.pack (Ls := arenaL 143 145 ab l) (p := fun i => FreeOk i.ks l) (⟨pv, fb, cs, ks, N⟩ : ArI) M hK
    exact ⟨_, rfl, M.close [0] rfl (by decide) trivial⟩
   ·
    have h20p := of_decide_eq_false h20
    refine W.skip (W.region rfl (wS (vI (↑ia_ + 1)) rfl (Step.add rfl rfl (wrap_i64 (by omega))) (wM (vI (↑ia_ + 1)) (WL.nil ?_))))
    have hs := freeOkTo_step hi8 hx12 (by simpa using h16) (by simpa using h20)
    replace M := M.sel (L' := [bk ab #[pv, (Value.map (some fb))] 143, own 145 5 pv l.length cs, setC fb ks, nodesC N cs l]) [1, 2, 3, 4] rfl (by decide)
    exact ⟨_, (by omega), ia_ + 1, ⟨(by omega), hs, rfl⟩, ⟨rfl, rfl, rfl, rfl, rfl, rfl, rfl⟩, M⟩
 ·
  have h9p := of_decide_eq_false h9
  refine W.exit ?_
  refine thn_exit ?_
  refine thn_exit ?_
  refine inBlk_hit ?_
  refine W.seq' (wR (wM (vP ab) (wP (vP ab) (wP (Value.pointer (some ⟨ab, 1, none⟩)) (wS (Value.map (some fb)) rfl (Step.load1 Try.sc141 rfl ((M.cell 0 rfl 1).trans rfl)) ?_)))))
  refine wS (vB false) rfl (Step.mapNil Try.mt141 rfl rfl) (WL.nil ?_)
  refine W.cond (t := false) rfl (fun h => by cases h) (fun _ => ?_)
  refine W.skip (W.seq' (wR (wM v (wS (vI ↑hs.length) rfl (Step.lenSl Try.un96 rfl (M.rep 0 rfl)) (wM (vI 0) ?_)))))
  refine WL.nil (W.block ?_)
  have hfr := freeable_of hi8 (by omega)
  obtain ⟨hall, hnd⟩ := freeable_iff.1 hfr
  replace M := M.sel (L' := [bk ab #[pv, (Value.map (some fb))] 143, own 145 5 pv l.length cs, setC fb ks, nodesC N cs (freeAll l (hs.take 0))]) [0, 1, 2, 3] rfl (by decide)
  refine W.loop (fun kk ρ w' => ∃ (ib_ : Nat) (ks_ : List Int) (cs_ : List Value), ((ib_ ≤ hs.length) ∧ (FreeOk ks_ (freeAll l (hs.take ib_))) ∧ kk = hs.length - ib_) ∧ ρ.has [(0, (vP ab)), (39, v), (40, (vI ↑hs.length)), (41, (vI ↑ib_))] ∧ Mem G X w [bk ab #[pv, (Value.map (some fb))] 143, own 145 5 pv l.length cs_, setC fb ks_, nodesC N cs_ (freeAll l (hs.take ib_))] [fH v hs]  w') _ ⟨0, ks, cs, ⟨(Nat.zero_le _), hK, rfl⟩, ⟨rfl, rfl, rfl, rfl, rfl, rfl⟩, M⟩ ?_
  rintro _ ρ22 w21 ⟨ib_, ks_, cs_, ⟨hi23, hi24, rfl⟩, hρ, M⟩
  obtain ⟨ρ22, rfl⟩ := hρ.know
  clear hρ
  have hfl := freeAll_len (l := l) (hs := hs.take ib_)
  refine wR (wP (vB (decide ((↑ib_ : Int) < (↑hs.length : Int)))) (WL.nil (W.seq' ?_)))
  refine W.cond (t := decide ((↑ib_ : Int) < (↑hs.length : Int))) rfl (fun h25 => ?_) (fun h25 => ?_)
  ·
   have h25p := of_decide_eq_true h25
   refine W.skip (W.seq' (W.block (wR ?_)))
   obtain ⟨cap27, hb26⟩ := SlAt.base (M.rep 0 rfl) (by omega)
   obtain ⟨x28, hx28⟩ := elem_of_lt (xs := hs) (i := ib_) (by omega)
   obtain ⟨pl, hplace, _, htp, h0p, hltp⟩ := rhas_place (hall _ (List.mem_of_getElem? hx28))
   refine wS (vQ v ib_ 2) rfl (sX ib_ Try.un96 Try.el92 rfl rfl hb26) (wS (Value.agg #[(vI x28.at_), (vI x28.turn)]) rfl (Step.loadEN (k := 0) (cs' := [(vI x28.at_), (vI x28.turn)]) Try.ag92 (flat_ec (M.rep 0 rfl) hx28 handleE_len) (by decide) rfl rfl rfl) ?_)
   refine WL.alloc (c := #[(vI 0), (vI 0)]) M rfl Try.el92.zero rfl (fun b29 w30 hb29 M => ?_)
   refine WL.store (v := (Value.agg #[(vI x28.at_), (vI x28.turn)])) (cs := [(vI x28.at_), (vI x28.turn)]) (c' := #[(vI x28.at_), (vI x28.turn)]) M 0 rfl rfl Try.el92.sized rfl rfl rfl rfl (Nat.le_of_ble_eq_true rfl) (cel_cons rfl (cel_cons rfl cel_nil)) rfl rfl (fun w31 M => ?_)
   refine WL.nil (W.seq' ?_)
   obtain ⟨cap33, hb32⟩ := SlAt.base (own_slAt (M.chunk 2 rfl).inv) (by omega)
   obtain ⟨p34, hp34⟩ := elem_of_lt (xs := (freeAll l (hs.take ib_))) (i := x28.at_.toNat) (by omega)
   obtain ⟨kv35, dv36, vv37, sl38, sl39, sl40, hc41⟩ := place_cells (M.chunk 4 rfl).inv hp34
   obtain ⟨pre48, post49, kv42, dv43, vv44, sl45, sl46, sl47, hcs50, hpre51⟩ := place_open (M.chunk 4 rfl).inv hp34
   replace M := M.rechunk 2 (c' := own 145 5 pv l.length (pre48 ++ ([(vB p34.node.leaf), kv42, dv43, vv44, (vI p34.turn)] ++ post49))) rfl (by rw [hcs50])
   replace M := M.rechunk 4 (c' := nodesC N (pre48 ++ ([(vB p34.node.leaf), kv42, dv43, vv44, (vI p34.turn)] ++ post49)) (freeAll l (hs.take ib_))) rfl (by rw [hcs50])
   refine W.drawn M [0, 1, 2, 3, 4, 5, 6, 7, 8, 9] [9] [] _ _ (sY (sY (sN (sY (sY sE))))) (fun _ h => h) Try.mixed (by kernel_rfl) ?_
   refine tP (vP ab) rfl (fun w => (Step.move rfl)) ?_
   refine tP (vP ab) rfl (fun w => sP) ?_
   refine tP (vP ab) rfl (fun w => sP) ?_
   refine tR pv rfl (fun A w M => (Step.load1 Try.sc140 rfl ((M.cell 2 rfl 0).trans rfl))) ?_
   refine tP (vP b29) rfl (fun w => sP) ?_
   refine tR (vI x28.at_) rfl (fun A w M => (Step.load1 Try.sc3 rfl ((M.cell 1 rfl 0).trans rfl))) ?_
   refine tP (Value.agg #[(vB false), vZ, vZ, vZ]) rfl (fun w => sP) ?_
   refine tP (vQ pv x28.at_.toNat 5) rfl (fun w => (sX x28.at_.toNat Try.un140 Try.el145 rfl rfl hb32)) ?_
   refine tP (vQ pv x28.at_.toNat 5) rfl (fun w => sP) ?_
   refine TW.act (c' := own 145 5 pv l.length (pre48 ++ ([(vB false), vZ, vZ, vZ, (vI p34.turn)] ++ post49))) 2 rfl rfl (by decide) rfl (sY (sY (sN (sY (sY sE))))) (fun r h => h) (fun A w M => M.storeAt (cells := [(vB p34.node.leaf), kv42, dv43, vv44, (vI p34.turn)]) (cells' := [(vB false), vZ, vZ, vZ, (vI p34.turn)]) (new := [(vB false), vZ, vZ, vZ]) (k := 0) 3 rfl hpre51 Try.el99.sized rfl rfl rfl (cel_cons rfl (cel_cons rfl (cel_cons rfl (cel_cons rfl cel_nil)))) (by first | omega | (simp only [List.length_set, List.length_append, List.length_cons, List.length_nil]; omega)) (Nat.le_of_ble_eq_true rfl) rfl rfl) ?_
   refine TW.done (fun w52 M => ?_)
   refine W.drawn M [0, 1, 2, 3, 4, 5, 6, 7] [7] [] _ _ (sY (sY (sY (sN (sY sE))))) (fun _ h => h) Try.mixed (by kernel_rfl) ?_
   refine tP (vP ab) rfl (fun w => (Step.move rfl)) ?_
   refine tP (vP ab) rfl (fun w => sP) ?_
   refine tP (Value.pointer (some ⟨ab, 1, none⟩)) rfl (fun w => sP) ?_
   refine tR (Value.map (some fb)) rfl (fun A w M => (Step.load1 Try.sc141 rfl ((M.cell 2 rfl 1).trans rfl))) ?_
   refine tP (vP b29) rfl (fun w => sP) ?_
   refine tR (vI x28.at_) rfl (fun A w M => (Step.load1 Try.sc3 rfl ((M.cell 1 rfl 0).trans rfl))) ?_
   refine tP (Value.agg #[]) rfl (fun w => sP) ?_
   refine TW.act (c' := setC fb (sadd x28.at_ ks_)) 3 rfl rfl (by decide) rfl (sY (sY (sY (sN (sY sE))))) (fun r h => h) (fun A w M => M.setAdd 4 rfl Try.mt141 rfl rfl rfl) ?_
   refine TW.done (fun w53 M => ?_)
   refine W.region rfl (wS (vI (↑ib_ + 1)) rfl (Step.add rfl rfl (wrap_i64 (by omega))) (wM (vI (↑ib_ + 1)) (WL.nil ?_)))
   replace M := M.sel (L' := [nodesC N (pre48 ++ ([(vB p34.node.leaf), kv42, dv43, vv44, (vI p34.turn)] ++ post49)) (freeAll l (hs.take ib_)), bk b29 #[(vI x28.at_), (vI x28.turn)] 92, bk ab #[pv, (Value.map (some fb))] 143, own 145 5 pv l.length (pre48 ++ ([(vB false), vZ, vZ, vZ, (vI p34.turn)] ++ post49)), setC fb (sadd x28.at_ ks_)]) [4, 0, 1, 2, 3] rfl (by decide)
   replace M := M.nodesClear (u := false) (t := p34.turn) hpre51 rfl (by omega)
   obtain ⟨q, hq, htq⟩ := freeAll_turn (hs := hs.take ib_) (fun x hx => hall x (List.mem_of_mem_take hx)) hp34
   have hqq : p34.turn = x28.turn := by rw [htq]; rw [hplace] at hq; cases hq; exact htp
   have hnx : freeAll l (hs.take (ib_ + 1)) = (freeAll l (hs.take ib_)).set x28.at_.toNat ⟨false, p34.turn, ⟨false, [], [], []⟩⟩ := by rw [freeAll_snoc hx28, hqq]; rfl
   have hKn := free_free (t := p34.turn) (n := ⟨false, [], [], []⟩) hi24 (i := x28.at_.toNat) (by omega)
   rw [← hnx, Int.toNat_of_nonneg h0p] at hKn
   rw [← hnx] at M
   replace M := M.sel (L' := [bk ab #[pv, (Value.map (some fb))] 143, own 145 5 pv l.length (pre48 ++ ([(vB false), vZ, vZ, vZ, (vI p34.turn)] ++ post49)), setC fb (sadd x28.at_ ks_), nodesC N (pre48 ++ ([(vB false), vZ, vZ, vZ, (vI p34.turn)] ++ post49)) (freeAll l (hs.take (ib_ + 1)))]) [2, 3, 4, 0] rfl (by decide)
   exact ⟨_, (by omega), ib_ + 1, sadd x28.at_ ks_, (pre48 ++ ([(vB false), vZ, vZ, vZ, (vI p34.turn)] ++ post49)), ⟨(by omega), hKn, rfl⟩, ⟨rfl, rfl, rfl, rfl, rfl, rfl⟩, M⟩
  ·
   have h25p := of_decide_eq_false h25
   refine W.exit ?_
   refine thn_exit ?_
   refine thn_exit ?_
   refine inBlk_hit ?_
   refine wR (wA (vI 0) (WL.nil ?_))
   refine W.ret ?_
   refine ⟨.inl rfl, (vI 0), ?_, ?_⟩
   · exact ⟨rfl, (Res.r1 (show RV _ _ _ (.tmp 4) (vI 0) from by exact rfl))⟩
   rw [rfree_hit hfr]
   have htk : hs.take ib_ = hs := List.take_of_length_le (by omega)
   rw [htk] at M
   rw [htk] at hi24
   replace M := M.rechunk 1 (c' := own 145 5 pv ((freeAll l hs).length) cs_) rfl (by rw [freeAll_len])
   replace M := M.sel (L' := [bk ab #[pv, (Value.map (some fb))] 143, own 145 5 pv ((freeAll l hs).length) cs_, setC fb ks_, nodesC N cs_ (freeAll l hs)]) [0, 1, 2, 3] rfl (by decide)
   replace M := Mem.pack (Ls := arenaL 143 145 ab (freeAll l hs)) (p := fun i => FreeOk i.ks (freeAll l hs)) (⟨pv, fb, cs_, ks_, N⟩ : ArI) M hi24
   exact ⟨_, rfl, M.close [0] rfl (by decide) trivial⟩
end Go.Proofs
set_option maxRecDepth 100000
namespace Go.Proofs
open Go Tp
theorem Try.un3 : Und Try.prog 3 (.int .i64) := by unfold Und; kernel_rfl
theorem ins_str {G X : Nat → Prop} {w : World} (v : Value) (xs : List ByteArray) (i : Nat) (ub : Nat) (x : ByteArray)  (hi : i ≤ xs.length) (hb : xs.length ≤ 1000000) (M : Mem G X w [oS v xs, bk ub #[(vS x)] 9] [] w) : Rets Try.prog 85 #[v, (vI ↑i), (Value.slice (some ⟨ub, 0, none⟩) 1 1)] w fun r w' => ∃ (v' : Value), r = v' ∧ Mem G X w [bk ub #[(vS x)] 9, oS v' (insL xs i x)] [] w' := by
 refine Rets.enter 95 _ Try.func85 rfl Try.ntmps85 Try.results85 (by simp) ?_
 have sl1 : IsSl v := SlAt.isSl (own_slAt (Mem.chunk M 0 rfl).inv)
 have hle2 := SlAt.le' (own_slAt (Mem.chunk M 0 rfl).inv)
 refine wR (wA vZ (WL.nil (wR (wM v (wM (vI ↑i) ?_)))))
 have hsh3 := SlAt.shp (own_slAt (M.chunk 0 rfl).inv)
 have hsh3c := hsh3
 obtain ⟨_, _, hsh3l, hsh3m⟩ := hsh3c
 refine wS (vSlice 1 i xs.length (vCap v) v) rfl (Step.sliceFromP (l := i) Try.un22 Try.el9.sized rfl rfl (by omega) hsh3 (by omega)) (WL.nil (wR (wM (Value.slice (some ⟨ub, 0, none⟩) 1 1) (wS (vI 1) rfl (Step.lenS Try.un22 rfl rfl) (wA (vI 1) ?_)))))
 refine WL.nil (W.seq' (wR (wM (vI 1) (wP (vB false) (WL.nil ?_)))))
 refine W.cond (t := false) rfl (fun h => by cases h) (fun _ => ?_)
 refine W.skip (wR (wM v (wS (vI ↑xs.length) rfl (Step.lenSl Try.un22 rfl (own_slAt (M.chunk 0 rfl).inv)) (wA (vI ↑xs.length) (WL.nil ?_)))))
 refine W.seq' (wR (wM (vI ↑i) (wM (vI ↑xs.length) (wP (vB ((↑i : Int) == (↑xs.length : Int))) (WL.nil ?_)))))
 refine W.cond (t := (↑i : Int) == (↑xs.length : Int)) rfl (fun h4 => ?_) (fun h4 => ?_)
 ·
  have h4p : (↑i : Int) = (↑xs.length : Int) := by simpa using h4
  refine wR (wM v (wM (Value.slice (some ⟨ub, 0, none⟩) 1 1) ?_))
  refine WL.does rfl (M.appendF xs ([x] : List ByteArray) (sv := (Value.slice (some ⟨ub, 0, none⟩) 1 1)) 0 Try.un22 Try.el9 rfl (by decide) rfl rfl rfl (SlAt.of_blk (M.blk 1 rfl) rfl (by decide)) strE_cel (by have := hb; simp only [maxLen, List.length_nil, List.length_cons, List.length_append]; omega) (by have := hb; (try simp only [List.length_nil, List.length_cons, List.length_append]); omega)) ?_
  rintro v5 w6 M
  have sl7 : IsSl v5 := SlAt.isSl (own_slAt (M.chunk 0 rfl).inv)
  refine wA v5 (WL.nil ?_)
  refine W.ret ?_
  refine ⟨.inl rfl, v5, ?_, ?_⟩
  · exact ⟨rfl, (Res.r1 (show RV _ _ _ (.tmp 6) v5 from by exact rfl))⟩
  have e8 : insL xs i x = xs ++ ([x] : List ByteArray) := by
   rw [show i = xs.length by omega, insL_end]
  replace M := M.rechunk 0 (c' := oS v5 (insL xs i x)) rfl (congrArg (fun z => own 9 1 v5 z.length (z.flatMap strE)) e8.symm)
  refine ⟨v5, ?_, M.close [1, 0] rfl (by decide) trivial⟩
  rfl
 ·
  have h4p : ¬ (↑i : Int) = (↑xs.length : Int) := by simpa using h4
  refine W.skip (W.seq' (wR (wM (vI ↑xs.length) (wM (vI 1) (wS (vI (↑xs.length + 1)) rfl (Step.add rfl rfl (wrap_i64 (by omega))) ?_)))))
  refine wM v (wS (vI (↑(vCap v))) rfl (Step.capS Try.un22 rfl hsh3) (wP (vB (decide ((↑xs.length + 1 : Int) > (↑(vCap v) : Int)))) (WL.nil ?_)))
  refine W.cond (t := decide ((↑xs.length + 1 : Int) > (↑(vCap v) : Int))) rfl (fun h9 => ?_) (fun h9 => ?_)
  ·
   have h9p := of_decide_eq_true h9
   refine wR (wM v (wM (vI ↑i) (wS (vTake i v) rfl (Step.sliceToP (h := i) Try.un22 Try.el9.sized rfl rfl (by omega) hsh3 (by obtain ⟨_, _, _, _⟩ := hsh3; omega)) (wM (vI ↑xs.length) (wM (vI 1) ?_)))))
   refine wS (vI (↑xs.length + 1)) rfl (Step.add rfl rfl (wrap_i64 (by omega))) (wM (vI ↑i) (wS (vI (↑(xs.length + 1 - i))) rfl (Step.cast (congrArg (Value.int .i64) (show ((↑xs.length + 1 : Int) - ↑i : Int) = ↑(xs.length + 1 - i) by omega)) (Step.sub rfl rfl (wrap_i64 (by omega)))) ?_))
   refine WL.does rfl (M.growZeros (a := i) (k := xs.length + 1 - i) 0 rfl Try.un22 Try.un3 Try.el9 rfl (by decide) rfl rfl (by omega) (by omega) (by omega) (by omega) (by simp only [maxLen]; omega) (by omega)) ?_
   rintro v10 w11 ⟨junk12, hjunk12, -, M⟩
   replace M := M.rechunk 0 (c' := own 9 1 v10 (xs.length + 1) ((xs.flatMap strE).take (i * 1) ++ junk12)) rfl (by rw [show i + (xs.length + 1 - i) = xs.length + 1 by omega])
   have sl13 : IsSl v10 := SlAt.isSl (own_slAt (M.chunk 0 rfl).inv)
   refine wA v10 (WL.nil (wR (wM v10 (wM (vI ↑i) ?_))))
   have hsh14 := SlAt.shp (own_slAt (M.chunk 0 rfl).inv)
   have hsh14c := hsh14
   obtain ⟨_, _, hsh14l, hsh14m⟩ := hsh14c
   refine wS (vSlice 1 i (xs.length + 1) (vCap v10) v10) rfl (Step.sliceFromP (l := i) Try.un22 Try.el9.sized rfl rfl (by omega) hsh14 (by omega)) (wM (Value.slice (some ⟨ub, 0, none⟩) 1 1) ?_)
   refine WL.act rfl (M.copyRow (l := i) (m := 1) (news := [(vS x)]) 0 rfl Try.un22 Try.el9.sized rfl (by first | rfl | omega | (simp; omega)) rfl (SlAt.of_blk (M.blk 2 rfl) rfl (by decide)) (by first | omega | (simp; omega)) (by first | omega | (simp; omega)) (cel_cons rfl cel_nil)) ?_
   rintro w15 ⟨M, -⟩
   refine WL.nil (W.seq' ?_)
   refine W.drawn M [0, 1, 2, 3, 4, 5, 6, 7, 8] [8] [] _ _ (sN (sY (sY sE))) (fun _ h => h) Try.mixed (by kernel_rfl) ?_
   refine tP v10 rfl (fun w => (Step.move rfl)) ?_
   refine tP (vI ↑i) rfl (fun w => (Step.move rfl)) ?_
   refine tP (vI 1) rfl (fun w => (Step.move rfl)) ?_
   refine tP (vI (↑i + 1)) rfl (fun w => (Step.add rfl rfl (wrap_i64 (by omega)))) ?_
   refine tP (vSlice 1 (i + 1) (xs.length + 1) (vCap v10) v10) rfl (fun w => (Step.sliceFromP (l := i + 1) Try.un22 Try.el9.sized rfl rfl (by omega) hsh14 (by omega))) ?_
   refine tP v rfl (fun w => (Step.move rfl)) ?_
   refine tP (vI ↑i) rfl (fun w => (Step.move rfl)) ?_
   refine tP (vSlice 1 i xs.length (vCap v) v) rfl (fun w => (Step.sliceFromP (l := i) Try.un22 Try.el9.sized rfl rfl (by omega) hsh3 (by omega))) ?_
   refine TW.act (c' := own 9 1 v10 (xs.length + 1) (splice (splice ((xs.flatMap strE).take (i * 1) ++ junk12) (i * 1) ([(vS x)])) ((i + 1) * 1) (((xs.drop i).take (xs.length - i)).flatMap strE))) 0 rfl rfl (by decide) rfl (sN (sY (sY sE))) (fun r h => h) (fun A w M => M.copyRow (l := i + 1) (m := ((xs.drop i).take (xs.length - i)).length) (news := ((xs.drop i).take (xs.length - i)).flatMap strE) 1 rfl Try.un22 Try.el9.sized rfl (by first | rfl | omega | (simp; omega)) rfl (slat_sliceF strE_len (l := i) (h := xs.length) (own_slAt (M.chunk 2 rfl).inv) (by omega) (by omega) (Nat.le_trans (by omega) (SlAt.cap (own_slAt (M.chunk 2 rfl).inv)).1) (Nat.le_refl _)) (by first | omega | (simp; omega)) (by first | omega | (simp; omega)) (celF strE_cel _)) ?_
   refine TW.done (fun w16 M => ?_)
   refine wR (wM v10 (wA v10 (WL.nil ?_)))
   refine W.ret ?_
   refine ⟨.inl rfl, v10, ?_, ?_⟩
   · exact ⟨rfl, (Res.r1 (show RV _ _ _ (.tmp 6) v10 from by exact rfl))⟩
   replace M := M.rechunk 0 (c' := oS v10 (insL xs i x)) rfl (by show _ = own 9 1 v10 (insL xs i x).length ((insL xs i x).flatMap strE); rw [insL_len xs hi, drop_rest]; exact congrArg (own 9 1 v10 (xs.length + 1)) (ins_grow strE_len hi x hjunk12))
   refine ⟨v10, ?_, M.close [2, 0] rfl (by decide) trivial⟩
   rfl
  ·
   have h9p := of_decide_eq_false h9
   refine W.skip (wR (wM v (wM (vI ↑xs.length) (wM (vI 1) (wS (vI (↑xs.length + 1)) rfl (Step.add rfl rfl (wrap_i64 (by omega))) ?_)))))
   refine wS (vTake (xs.length + 1) v) rfl (Step.sliceToP (h := xs.length + 1) Try.un22 Try.el9.sized rfl rfl (by omega) hsh3 (by obtain ⟨_, _, _, _⟩ := hsh3; omega)) (wA (vTake (xs.length + 1) v) (WL.nil (W.seq' (wR (wM (Value.slice (some ⟨ub, 0, none⟩) 1 1) ?_)))))
   refine wM (vTake (xs.length + 1) v) (wM (vI ↑i) (wM (vI 1) (wS (vI (↑i + 1)) rfl (Step.add rfl rfl (wrap_i64 (by omega))) (wS (vSlice 1 (i + 1) (xs.length + 1) (vCap (vTake (xs.length + 1) v)) (vTake (xs.length + 1) v)) rfl (Step.sliceFromP (l := i + 1) Try.un22 Try.el9.sized rfl rfl (by omega) (Shp.take hsh3 (k := xs.length + 1) (by obtain ⟨_, _, _, _⟩ := hsh3; omega)) (by omega)) ?_))))
   refine WL.step (v := (Value.bool false)) rfl (M.overlaps 0 rfl 1 rfl (by decide) Try.un22 Try.el9.sized rfl rfl (by omega) (by decide) (fun args => run_callFunc_extern Try.func112 (by kernel_rfl) (by kernel_rfl) (by kernel_rfl) (by kernel_rfl) args _)) ?_
   refine wP (vB true) (WL.nil ?_)
   refine W.cond (t := true) rfl (fun _ => ?_) (fun h => by cases h)
   refine W.seq' ?_
   refine W.drawn M [0, 1, 2, 3, 4, 5, 6, 7, 8] [8] [] _ _ (sN (sY sE)) (fun _ h => h) Try.mixed (by kernel_rfl) ?_
   refine tP (vTake (xs.length + 1) v) rfl (fun w => (Step.move rfl)) ?_
   refine tP (vI ↑i) rfl (fun w => (Step.move rfl)) ?_
   refine tP (vI 1) rfl (fun w => (Step.move rfl)) ?_
   refine tP (vI (↑i + 1)) rfl (fun w => (Step.add rfl rfl (wrap_i64 (by omega)))) ?_
   refine tP (vSlice 1 (i + 1) (xs.length + 1) (vCap (vTake (xs.length + 1) v)) (vTake (xs.length + 1) v)) rfl (fun w => (Step.sliceFromP (l := i + 1) Try.un22 Try.el9.sized rfl rfl (by omega) (Shp.take hsh3 (k := xs.length + 1) (by obtain ⟨_, _, _, _⟩ := hsh3; omega)) (by omega))) ?_
   refine tP (vTake (xs.length + 1) v) rfl (fun w => (Step.move rfl)) ?_
   refine tP (vI ↑i) rfl (fun w => (Step.move rfl)) ?_
   refine tP (vSlice 1 i (xs.length + 1) (vCap (vTake (xs.length + 1) v)) (vTake (xs.length + 1) v)) rfl (fun w => (Step.sliceFromP (l := i) Try.un22 Try.el9.sized rfl rfl (by omega) (Shp.take hsh3 (k := xs.length + 1) (by obtain ⟨_, _, _, _⟩ := hsh3; omega)) (by omega))) ?_
   refine TW.act (c' := oS (vTake (xs.length + 1) v) (xs.take (i + 1) ++ xs.drop i)) 0 rfl rfl (by decide) rfl (sN (sY sE)) (fun r h => h) (fun A w M => M.copyGrow (xs := xs) (k := i) strE_len 1 rfl Try.un22 Try.el9.sized rfl rfl (by omega) (by omega) strE_cel) ?_
   refine TW.done (fun w17 M => ?_)
   refine wR (wM (vTake (xs.length + 1) v) (wM (vI ↑i) (wS (vSlice 1 i (xs.length + 1) (vCap (vTake (xs.length + 1) v)) (vTake (xs.length + 1) v)) rfl (Step.sliceFromP (l := i) Try.un22 Try.el9.sized rfl rfl (by omega) (Shp.take hsh3 (k := xs.length + 1) (by obtain ⟨_, _, _, _⟩ := hsh3; omega)) (by omega)) (wM (Value.slice (some ⟨ub, 0, none⟩) 1 1) ?_))))
   refine WL.act rfl (M.copyRow (l := i) (m := 1) (news := [(vS x)]) 0 rfl Try.un22 Try.el9.sized rfl (by first | rfl | omega | (simp; omega)) rfl (SlAt.of_blk (M.blk 1 rfl) rfl (by decide)) (by first | omega | (simp; omega)) (by first | omega | (simp; omega)) (cel_cons rfl cel_nil)) ?_
   rintro w18 ⟨M, -⟩
   refine WL.nil (wR (wM (vTake (xs.length + 1) v) (wA (vTake (xs.length + 1) v) (WL.nil ?_))))
   refine W.ret ?_
   refine ⟨.inl rfl, (vTake (xs.length + 1) v), ?_, ?_⟩
   · exact ⟨rfl, (Res.r1 (show RV _ _ _ (.tmp 6) (vTake (xs.length + 1) v) from by exact rfl))⟩
   replace M := M.rechunk 0 (c' := oS (vTake (xs.length + 1) v) (insL xs i x)) rfl (by show _ = own 9 1 (vTake (xs.length + 1) v) (insL xs i x).length ((insL xs i x).flatMap strE); rw [insL_len xs hi, show (xs.take (i + 1) ++ xs.drop i).length = xs.length + 1 by (simp; omega)]; exact congrArg (own 9 1 (vTake (xs.length + 1) v) (xs.length + 1)) ((splice_whole (j := i) strE_len (by simp; omega) x).trans (congrArg (fun z : List ByteArray => z.flatMap strE) (ins_room strE_len (by omega) x))))
   refine ⟨(vTake (xs.length + 1) v), ?_, M.close [1, 0] rfl (by decide) trivial⟩
   rfl
theorem ins_int {G X : Nat → Prop} {w : World} (v : Value) (xs : List Int) (i : Nat) (ub : Nat) (x : Int)  (hi : i ≤ xs.length) (hb : xs.length ≤ 1000000) (M : Mem G X w [oI v xs, bk ub #[(vI x)] 3] [] w) : Rets Try.prog 86 #[v, (vI ↑i), (Value.slice (some ⟨ub, 0, none⟩) 1 1)] w fun r w' => ∃ (v' : Value), r = v' ∧ Mem G X w [bk ub #[(vI x)] 3, oI v' (insL xs i x)] [] w' := by
 refine Rets.enter 95 _ Try.func86 rfl Try.ntmps86 Try.results86 (by simp) ?_
 have sl1 : IsSl v := SlAt.isSl (own_slAt (Mem.chunk M 0 rfl).inv)
 have hle2 := SlAt.le' (own_slAt (Mem.chunk M 0 rfl).inv)
 refine wR (wA vZ (WL.nil (wR (wM v (wM (vI ↑i) ?_)))))
 have hsh3 := SlAt.shp (own_slAt (M.chunk 0 rfl).inv)
 have hsh3c := hsh3
 obtain ⟨_, _, hsh3l, hsh3m⟩ := hsh3c
 refine wS (vSlice 1 i xs.length (vCap v) v) rfl (Step.sliceFromP (l := i) Try.un97 Try.el3.sized rfl rfl (by omega) hsh3 (by omega)) (WL.nil (wR (wM (Value.slice (some ⟨ub, 0, none⟩) 1 1) (wS (vI 1) rfl (Step.lenS Try.un97 rfl rfl) (wA (vI 1) ?_)))))
 refine WL.nil (W.seq' (wR (wM (vI 1) (wP (vB false) (WL.nil ?_)))))
 refine W.cond (t := false) rfl (fun h => by cases h) (fun _ => ?_)
 refine W.skip (wR (wM v (wS (vI ↑xs.length) rfl (Step.lenSl Try.un97 rfl (own_slAt (M.chunk 0 rfl).inv)) (wA (vI ↑xs.length) (WL.nil ?_)))))
 refine W.seq' (wR (wM (vI ↑i) (wM (vI ↑xs.length) (wP (vB ((↑i : Int) == (↑xs.length : Int))) (WL.nil ?_)))))
 refine W.cond (t := (↑i : Int) == (↑xs.length : Int)) rfl (fun h4 => ?_) (fun h4 => ?_)
 ·
  have h4p : (↑i : Int) = (↑xs.length : Int) := by simpa using h4
  refine wR (wM v (wM (Value.slice (some ⟨ub, 0, none⟩) 1 1) ?_))
  refine WL.does rfl (M.appendF xs ([x] : List Int) (sv := (Value.slice (some ⟨ub, 0, none⟩) 1 1)) 0 Try.un97 Try.el3 rfl (by decide) rfl rfl rfl (SlAt.of_blk (M.blk 1 rfl) rfl (by decide)) intE_cel (by have := hb; simp only [maxLen, List.length_nil, List.length_cons, List.length_append]; omega) (by have := hb; (try simp only [List.length_nil, List.length_cons, List.length_append]); omega)) ?_
  rintro v5 w6 M
  have sl7 : IsSl v5 := SlAt.isSl (own_slAt (M.chunk 0 rfl).inv)
  refine wA v5 (WL.nil ?_)
  refine W.ret ?_
  refine ⟨.inl rfl, v5, ?_, ?_⟩
  · exact ⟨rfl, (Res.r1 (show RV _ _ _ (.tmp 6) v5 from by exact rfl))⟩
  have e8 : insL xs i x = xs ++ ([x] : List Int) := by
   rw [show i = xs.length by omega, insL_end]
  replace M := M.rechunk 0 (c' := oI v5 (insL xs i x)) rfl (congrArg (fun z => own 3 1 v5 z.length (z.flatMap intE)) e8.symm)
  refine ⟨v5, ?_, M.close [1, 0] rfl (by decide) trivial⟩
  rfl
 ·
  have h4p : ¬ (↑i : Int) = (↑xs.length : Int) := by simpa using h4
  refine W.skip (W.seq' (wR (wM (vI ↑xs.length) (wM (vI 1) (wS (vI (↑xs.length + 1)) rfl (Step.add rfl rfl (wrap_i64 (by omega))) ?_)))))
  refine wM v (wS (vI (↑(vCap v))) rfl (Step.capS Try.un97 rfl hsh3) (wP (vB (decide ((↑xs.length + 1 : Int) > (↑(vCap v) : Int)))) (WL.nil ?_)))
  refine W.cond (t := decide ((↑xs.length + 1 : Int) > (↑(vCap v) : Int))) rfl (fun h9 => ?_) (fun h9 => ?_)
  ·
   have h9p := of_decide_eq_true h9
   refine wR (wM v (wM (vI ↑i) (wS (vTake i v) rfl (Step.sliceToP (h := i) Try.un97 Try.el3.sized rfl rfl (by omega) hsh3 (by obtain ⟨_, _, _, _⟩ := hsh3; omega)) (wM (vI ↑xs.length) (wM (vI 1) ?_)))))
   refine wS (vI (↑xs.length + 1)) rfl (Step.add rfl rfl (wrap_i64 (by omega))) (wM (vI ↑i) (wS (vI (↑(xs.length + 1 - i))) rfl (Step.cast (congrArg (Value.int .i64) (show ((↑xs.length + 1 : Int) - ↑i : Int) = ↑(xs.length + 1 - i) by omega)) (Step.sub rfl rfl (wrap_i64 (by omega)))) ?_))
   refine WL.does rfl (M.growZeros (a := i) (k := xs.length + 1 - i) 0 rfl Try.un97 Try.un3 Try.el3 rfl (by decide) rfl rfl (by omega) (by omega) (by omega) (by omega) (by simp only [maxLen]; omega) (by omega)) ?_
   rintro v10 w11 ⟨junk12, hjunk12, -, M⟩
   replace M := M.rechunk 0 (c' := own 3 1 v10 (xs.length + 1) ((xs.flatMap intE).take (i * 1) ++ junk12)) rfl (by rw [show i + (xs.length + 1 - i) = xs.length + 1 by omega])
   have sl13 : IsSl v10 := SlAt.isSl (own_slAt (M.chunk 0 rfl).inv)
   refine wA v10 (WL.nil (wR (wM v10 (wM (vI ↑i) ?_))))
   have hsh14 := SlAt.shp (own_slAt (M.chunk 0 rfl).inv)
   have hsh14c := hsh14
   obtain ⟨_, _, hsh14l, hsh14m⟩ := hsh14c
   refine wS (vSlice 1 i (xs.length + 1) (vCap v10) v10) rfl (Step.sliceFromP (l := i) Try.un97 Try.el3.sized rfl rfl (by omega) hsh14 (by omega)) (wM (Value.slice (some ⟨ub, 0, none⟩) 1 1) ?_)
   refine WL.act rfl (M.copyRow (l := i) (m := 1) (news := [(vI x)]) 0 rfl Try.un97 Try.el3.sized rfl (by first | rfl | omega | (simp; omega)) rfl (SlAt.of_blk (M.blk 2 rfl) rfl (by decide)) (by first | omega | (simp; omega)) (by first | omega | (simp; omega)) (cel_cons rfl cel_nil)) ?_
   rintro w15 ⟨M, -⟩
   refine WL.nil (W.seq' ?_)
   refine W.drawn M [0, 1, 2, 3, 4, 5, 6, 7, 8] [8] [] _ _ (sN (sY (sY sE))) (fun _ h => h) Try.mixed (by kernel_rfl) ?_
   refine tP v10 rfl (fun w => (Step.move rfl)) ?_
   refine tP (vI ↑i) rfl (fun w => (Step.move rfl)) ?_
   refine tP (vI 1) rfl (fun w => (Step.move rfl)) ?_
   refine tP (vI (↑i + 1)) rfl (fun w => (Step.add rfl rfl (wrap_i64 (by omega)))) ?_
   refine tP (vSlice 1 (i + 1) (xs.length + 1) (vCap v10) v10) rfl (fun w => (Step.sliceFromP (l := i + 1) Try.un97 Try.el3.sized rfl rfl (by omega) hsh14 (by omega))) ?_
   refine tP v rfl (fun w => (Step.move rfl)) ?_
   refine tP (vI ↑i) rfl (fun w => (Step.move rfl)) ?_
   refine tP (vSlice 1 i xs.length (vCap v) v) rfl (fun w => (Step.sliceFromP (l := i) Try.un97 Try.el3.sized rfl rfl (by omega) hsh3 (by omega))) ?_
   refine TW.act (c' := own 3 1 v10 (xs.length + 1) (splice (splice ((xs.flatMap intE).take (i * 1) ++ junk12) (i * 1) ([(vI x)])) ((i + 1) * 1) (((xs.drop i).take (xs.length - i)).flatMap intE))) 0 rfl rfl (by decide) rfl (sN (sY (sY sE))) (fun r h => h) (fun A w M => M.copyRow (l := i + 1) (m := ((xs.drop i).take (xs.length - i)).length) (news := ((xs.drop i).take (xs.length - i)).flatMap intE) 1 rfl Try.un97 Try.el3.sized rfl (by first | rfl | omega | (simp; omega)) rfl (slat_sliceF intE_len (l := i) (h := xs.length) (own_slAt (M.chunk 2 rfl).inv) (by omega) (by omega) (Nat.le_trans (by omega) (SlAt.cap (own_slAt (M.chunk 2 rfl).inv)).1) (Nat.le_refl _)) (by first | omega | (simp; omega)) (by first | omega | (simp; omega)) (celF intE_cel _)) ?_
   refine TW.done (fun w16 M => ?_)
   refine wR (wM v10 (wA v10 (WL.nil ?_)))
   refine W.ret ?_
   refine ⟨.inl rfl, v10, ?_, ?_⟩
   · exact ⟨rfl, (Res.r1 (show RV _ _ _ (.tmp 6) v10 from by exact rfl))⟩
   replace M := M.rechunk 0 (c' := oI v10 (insL xs i x)) rfl (by show _ = own 3 1 v10 (insL xs i x).length ((insL xs i x).flatMap intE); rw [insL_len xs hi, drop_rest]; exact congrArg (own 3 1 v10 (xs.length + 1)) (ins_grow intE_len hi x hjunk12))
   refine ⟨v10, ?_, M.close [2, 0] rfl (by decide) trivial⟩
   rfl
  ·
   have h9p := of_decide_eq_false h9
   refine W.skip (wR (wM v (wM (vI ↑xs.length) (wM (vI 1) (wS (vI (↑xs.length + 1)) rfl (Step.add rfl rfl (wrap_i64 (by omega))) ?_)))))
   refine wS (vTake (xs.length + 1) v) rfl (Step.sliceToP (h := xs.length + 1) Try.un97 Try.el3.sized rfl rfl (by omega) hsh3 (by obtain ⟨_, _, _, _⟩ := hsh3; omega)) (wA (vTake (xs.length + 1) v) (WL.nil (W.seq' (wR (wM (Value.slice (some ⟨ub, 0, none⟩) 1 1) ?_)))))
   refine wM (vTake (xs.length + 1) v) (wM (vI ↑i) (wM (vI 1) (wS (vI (↑i + 1)) rfl (Step.add rfl rfl (wrap_i64 (by omega))) (wS (vSlice 1 (i + 1) (xs.length + 1) (vCap (vTake (xs.length + 1) v)) (vTake (xs.length + 1) v)) rfl (Step.sliceFromP (l := i + 1) Try.un97 Try.el3.sized rfl rfl (by omega) (Shp.take hsh3 (k := xs.length + 1) (by obtain ⟨_, _, _, _⟩ := hsh3; omega)) (by omega)) ?_))))
   refine WL.step (v := (Value.bool false)) rfl (M.overlaps 0 rfl 1 rfl (by decide) Try.un97 Try.el3.sized rfl rfl (by omega) (by decide) (fun args => run_callFunc_extern Try.func114 (by kernel_rfl) (by kernel_rfl) (by kernel_rfl) (by kernel_rfl) args _)) ?_
   refine wP (vB true) (WL.nil ?_)
   refine W.cond (t := true) rfl (fun _ => ?_) (fun h => by cases h)
   refine W.seq' ?_
   refine W.drawn M [0, 1, 2, 3, 4, 5, 6, 7, 8] [8] [] _ _ (sN (sY sE)) (fun _ h => h) Try.mixed (by kernel_rfl) ?_
   refine tP (vTake (xs.length + 1) v) rfl (fun w => (Step.move rfl)) ?_
   refine tP (vI ↑i) rfl (fun w => (Step.move rfl)) ?_
   refine tP (vI 1) rfl (fun w => (Step.move rfl)) ?_
   refine tP (vI (↑i + 1)) rfl (fun w => (Step.add rfl rfl (wrap_i64 (by omega)))) ?_
   refine tP (vSlice 1 (i + 1) (xs.length + 1) (vCap (vTake (xs.length + 1) v)) (vTake (xs.length + 1) v)) rfl (fun w => (Step.sliceFromP (l := i + 1) Try.un97 Try.el3.sized rfl rfl (by omega) (Shp.take hsh3 (k := xs.length + 1) (by obtain ⟨_, _, _, _⟩ := hsh3; omega)) (by omega))) ?_
   refine tP (vTake (xs.length + 1) v) rfl (fun w => (Step.move rfl)) ?_
   refine tP (vI ↑i) rfl (fun w => (Step.move rfl)) ?_
   refine tP (vSlice 1 i (xs.length + 1) (vCap (vTake (xs.length + 1) v)) (vTake (xs.length + 1) v)) rfl (fun w => (Step.sliceFromP (l := i) Try.un97 Try.el3.sized rfl rfl (by omega) (Shp.take hsh3 (k := xs.length + 1) (by obtain ⟨_, _, _, _⟩ := hsh3; omega)) (by omega))) ?_
   refine TW.act (c' := oI (vTake (xs.length + 1) v) (xs.take (i + 1) ++ xs.drop i)) 0 rfl rfl (by decide) rfl (sN (sY sE)) (fun r h => h) (fun A w M => M.copyGrow (xs := xs) (k := i) intE_len 1 rfl Try.un97 Try.el3.sized rfl rfl (by omega) (by omega) intE_cel) ?_
   refine TW.done (fun w17 M => ?_)
   refine wR (wM (vTake (xs.length + 1) v) (wM (vI ↑i) (wS (vSlice 1 i (xs.length + 1) (vCap (vTake (xs.length + 1) v)) (vTake (xs.length + 1) v)) rfl (Step.sliceFromP (l := i) Try.un97 Try.el3.sized rfl rfl (by omega) (Shp.take hsh3 (k := xs.length + 1) (by obtain ⟨_, _, _, _⟩ := hsh3; omega)) (by omega)) (wM (Value.slice (some ⟨ub, 0, none⟩) 1 1) ?_))))
   refine WL.act rfl (M.copyRow (l := i) (m := 1) (news := [(vI x)]) 0 rfl Try.un97 Try.el3.sized rfl (by first | rfl | omega | (simp; omega)) rfl (SlAt.of_blk (M.blk 1 rfl) rfl (by decide)) (by first | omega | (simp; omega)) (by first | omega | (simp; omega)) (cel_cons rfl cel_nil)) ?_
   rintro w18 ⟨M, -⟩
   refine WL.nil (wR (wM (vTake (xs.length + 1) v) (wA (vTake (xs.length + 1) v) (WL.nil ?_))))
   refine W.ret ?_
   refine ⟨.inl rfl, (vTake (xs.length + 1) v), ?_, ?_⟩
   · exact ⟨rfl, (Res.r1 (show RV _ _ _ (.tmp 6) (vTake (xs.length + 1) v) from by exact rfl))⟩
   replace M := M.rechunk 0 (c' := oI (vTake (xs.length + 1) v) (insL xs i x)) rfl (by show _ = own 3 1 (vTake (xs.length + 1) v) (insL xs i x).length ((insL xs i x).flatMap intE); rw [insL_len xs hi, show (xs.take (i + 1) ++ xs.drop i).length = xs.length + 1 by (simp; omega)]; exact congrArg (own 3 1 (vTake (xs.length + 1) v) (xs.length + 1)) ((splice_whole (j := i) intE_len (by simp; omega) x).trans (congrArg (fun z : List Int => z.flatMap intE) (ins_room intE_len (by omega) x))))
   refine ⟨(vTake (xs.length + 1) v), ?_, M.close [1, 0] rfl (by decide) trivial⟩
   rfl
theorem ins_hdl {G X : Nat → Prop} {w : World} (v : Value) (xs : List Handle) (i : Nat) (ub : Nat) (x : Handle)  (hi : i ≤ xs.length) (hb : xs.length ≤ 1000000) (M : Mem G X w [oH v xs, bk ub #[(vI x.at_), (vI x.turn)] 92] [] w) : Rets Try.prog 87 #[v, (vI ↑i), (Value.slice (some ⟨ub, 0, none⟩) 1 1)] w fun r w' => ∃ (v' : Value), r = v' ∧ Mem G X w [bk ub #[(vI x.at_), (vI x.turn)] 92, oH v' (insL xs i x)] [] w' := by
 refine Rets.enter 95 _ Try.func87 rfl Try.ntmps87 Try.results87 (by simp) ?_
 have sl1 : IsSl v := SlAt.isSl (own_slAt (Mem.chunk M 0 rfl).inv)
 have hle2 := SlAt.le' (own_slAt (Mem.chunk M 0 rfl).inv)
 refine wR (wA vZ (WL.nil (wR (wM v (wM (vI ↑i) ?_)))))
 have hsh3 := SlAt.shp (own_slAt (M.chunk 0 rfl).inv)
 have hsh3c := hsh3
 obtain ⟨_, _, hsh3l, hsh3m⟩ := hsh3c
 refine wS (vSlice 2 i xs.length (vCap v) v) rfl (Step.sliceFromP (l := i) Try.un96 Try.el92.sized rfl rfl (by omega) hsh3 (by omega)) (WL.nil (wR (wM (Value.slice (some ⟨ub, 0, none⟩) 1 1) (wS (vI 1) rfl (Step.lenS Try.un96 rfl rfl) (wA (vI 1) ?_)))))
 refine WL.nil (W.seq' (wR (wM (vI 1) (wP (vB false) (WL.nil ?_)))))
 refine W.cond (t := false) rfl (fun h => by cases h) (fun _ => ?_)
 refine W.skip (wR (wM v (wS (vI ↑xs.length) rfl (Step.lenSl Try.un96 rfl (own_slAt (M.chunk 0 rfl).inv)) (wA (vI ↑xs.length) (WL.nil ?_)))))
 refine W.seq' (wR (wM (vI ↑i) (wM (vI ↑xs.length) (wP (vB ((↑i : Int) == (↑xs.length : Int))) (WL.nil ?_)))))
 refine W.cond (t := (↑i : Int) == (↑xs.length : Int)) rfl (fun h4 => ?_) (fun h4 => ?_)
 ·
  have h4p : (↑i : Int) = (↑xs.length : Int) := by simpa using h4
  refine wR (wM v (wM (Value.slice (some ⟨ub, 0, none⟩) 1 1) ?_))
  refine WL.does rfl (M.appendF xs ([x] : List Handle) (sv := (Value.slice (some ⟨ub, 0, none⟩) 1 1)) 0 Try.un96 Try.el92 rfl (by decide) rfl rfl rfl (SlAt.of_blk (M.blk 1 rfl) rfl (by decide)) handleE_cel (by have := hb; simp only [maxLen, List.length_nil, List.length_cons, List.length_append]; omega) (by have := hb; (try simp only [List.length_nil, List.length_cons, List.length_append]); omega)) ?_
  rintro v5 w6 M
  have sl7 : IsSl v5 := SlAt.isSl (own_slAt (M.chunk 0 rfl).inv)
  refine wA v5 (WL.nil ?_)
  refine W.ret ?_
  refine ⟨.inl rfl, v5, ?_, ?_⟩
  · exact ⟨rfl, (Res.r1 (show RV _ _ _ (.tmp 6) v5 from by exact rfl))⟩
  have e8 : insL xs i x = xs ++ ([x] : List Handle) := by
   rw [show i = xs.length by omega, insL_end]
  replace M := M.rechunk 0 (c' := oH v5 (insL xs i x)) rfl (congrArg (fun z => own 92 2 v5 z.length (z.flatMap handleE)) e8.symm)
  refine ⟨v5, ?_, M.close [1, 0] rfl (by decide) trivial⟩
  rfl
 ·
  have h4p : ¬ (↑i : Int) = (↑xs.length : Int) := by simpa using h4
  refine W.skip (W.seq' (wR (wM (vI ↑xs.length) (wM (vI 1) (wS (vI (↑xs.length + 1)) rfl (Step.add rfl rfl (wrap_i64 (by omega))) ?_)))))
  refine wM v (wS (vI (↑(vCap v))) rfl (Step.capS Try.un96 rfl hsh3) (wP (vB (decide ((↑xs.length + 1 : Int) > (↑(vCap v) : Int)))) (WL.nil ?_)))
  refine W.cond (t := decide ((↑xs.length + 1 : Int) > (↑(vCap v) : Int))) rfl (fun h9 => ?_) (fun h9 => ?_)
  ·
   have h9p := of_decide_eq_true h9
   refine wR (wM v (wM (vI ↑i) (wS (vTake i v) rfl (Step.sliceToP (h := i) Try.un96 Try.el92.sized rfl rfl (by omega) hsh3 (by obtain ⟨_, _, _, _⟩ := hsh3; omega)) (wM (vI ↑xs.length) (wM (vI 1) ?_)))))
   refine wS (vI (↑xs.length + 1)) rfl (Step.add rfl rfl (wrap_i64 (by omega))) (wM (vI ↑i) (wS (vI (↑(xs.length + 1 - i))) rfl (Step.cast (congrArg (Value.int .i64) (show ((↑xs.length + 1 : Int) - ↑i : Int) = ↑(xs.length + 1 - i) by omega)) (Step.sub rfl rfl (wrap_i64 (by omega)))) ?_))
   refine WL.does rfl (M.growZeros (a := i) (k := xs.length + 1 - i) 0 rfl Try.un96 Try.un3 Try.el92 rfl (by decide) rfl rfl (by omega) (by omega) (by omega) (by omega) (by simp only [maxLen]; omega) (by omega)) ?_
   rintro v10 w11 ⟨junk12, hjunk12, -, M⟩
   replace M := M.rechunk 0 (c' := own 92 2 v10 (xs.length + 1) ((xs.flatMap handleE).take (i * 2) ++ junk12)) rfl (by rw [show i + (xs.length + 1 - i) = xs.length + 1 by omega])
   have sl13 : IsSl v10 := SlAt.isSl (own_slAt (M.chunk 0 rfl).inv)
   refine wA v10 (WL.nil (wR (wM v10 (wM (vI ↑i) ?_))))
   have hsh14 := SlAt.shp (own_slAt (M.chunk 0 rfl).inv)
   have hsh14c := hsh14
   obtain ⟨_, _, hsh14l, hsh14m⟩ := hsh14c
   refine wS (vSlice 2 i (xs.length + 1) (vCap v10) v10) rfl (Step.sliceFromP (l := i) Try.un96 Try.el92.sized rfl rfl (by omega) hsh14 (by omega)) (wM (Value.slice (some ⟨ub, 0, none⟩) 1 1) ?_)
   refine WL.act rfl (M.copyRow (l := i) (m := 1) (news := [(vI x.at_), (vI x.turn)]) 0 rfl Try.un96 Try.el92.sized rfl (by first | rfl | omega | (simp; omega)) rfl (SlAt.of_blk (M.blk 2 rfl) rfl (by decide)) (by first | omega | (simp; omega)) (by first | omega | (simp; omega)) (cel_cons rfl (cel_cons rfl cel_nil))) ?_
   rintro w15 ⟨M, -⟩
   refine WL.nil (W.seq' ?_)
   refine W.drawn M [0, 1, 2, 3, 4, 5, 6, 7, 8] [8] [] _ _ (sN (sY (sY sE))) (fun _ h => h) Try.mixed (by kernel_rfl) ?_
   refine tP v10 rfl (fun w => (Step.move rfl)) ?_
   refine tP (vI ↑i) rfl (fun w => (Step.move rfl)) ?_
   refine tP (vI 1) rfl (fun w => (Step.move rfl)) ?_
   refine tP (vI (↑i + 1)) rfl (fun w => (Step.add rfl rfl (wrap_i64 (by omega)))) ?_
   refine tP (vSlice 2 (i + 1) (xs.length + 1) (vCap v10) v10) rfl (fun w => (Step.sliceFromP (l := i + 1) Try.un96 Try.el92.sized rfl rfl (by omega) hsh14 (by omega))) ?_
   refine tP v rfl (fun w => (Step.move rfl)) ?_
   refine tP (vI ↑i) rfl (fun w => (Step.move rfl)) ?_
   refine tP (vSlice 2 i xs.length (vCap v) v) rfl (fun w => (Step.sliceFromP (l := i) Try.un96 Try.el92.sized rfl rfl (by omega) hsh3 (by omega))) ?_
   refine TW.act (c' := own 92 2 v10 (xs.length + 1) (splice (splice ((xs.flatMap handleE).take (i * 2) ++ junk12) (i * 2) ([(vI x.at_), (vI x.turn)])) ((i + 1) * 2) (((xs.drop i).take (xs.length - i)).flatMap handleE))) 0 rfl rfl (by decide) rfl (sN (sY (sY sE))) (fun r h => h) (fun A w M => M.copyRow (l := i + 1) (m := ((xs.drop i).take (xs.length - i)).length) (news := ((xs.drop i).take (xs.length - i)).flatMap handleE) 1 rfl Try.un96 Try.el92.sized rfl (by first | rfl | omega | (simp; omega)) rfl (slat_sliceF handleE_len (l := i) (h := xs.length) (own_slAt (M.chunk 2 rfl).inv) (by omega) (by omega) (Nat.le_trans (by omega) (SlAt.cap (own_slAt (M.chunk 2 rfl).inv)).1) (Nat.le_refl _)) (by first | omega | (simp; omega)) (by first | omega | (simp; omega)) (celF handleE_cel _)) ?_
   refine TW.done (fun w16 M => ?_)
   refine wR (wM v10 (wA v10 (WL.nil ?_)))
   refine W.ret ?_
   refine ⟨.inl rfl, v10, ?_, ?_⟩
   · exact ⟨rfl, (Res.r1 (show RV _ _ _ (.tmp 6) v10 from by exact rfl))⟩
   replace M := M.rechunk 0 (c' := oH v10 (insL xs i x)) rfl (by show _ = own 92 2 v10 (insL xs i x).length ((insL xs i x).flatMap handleE); rw [insL_len xs hi, drop_rest]; exact congrArg (own 92 2 v10 (xs.length + 1)) (ins_grow handleE_len hi x hjunk12))
   refine ⟨v10, ?_, M.close [2, 0] rfl (by decide) trivial⟩
   rfl
  ·
   have h9p := of_decide_eq_false h9
   refine W.skip (wR (wM v (wM (vI ↑xs.length) (wM (vI 1) (wS (vI (↑xs.length + 1)) rfl (Step.add rfl rfl (wrap_i64 (by omega))) ?_)))))
   refine wS (vTake (xs.length + 1) v) rfl (Step.sliceToP (h := xs.length + 1) Try.un96 Try.el92.sized rfl rfl (by omega) hsh3 (by obtain ⟨_, _, _, _⟩ := hsh3; omega)) (wA (vTake (xs.length + 1) v) (WL.nil (W.seq' (wR (wM (Value.slice (some ⟨ub, 0, none⟩) 1 1) ?_)))))
   refine wM (vTake (xs.length + 1) v) (wM (vI ↑i) (wM (vI 1) (wS (vI (↑i + 1)) rfl (Step.add rfl rfl (wrap_i64 (by omega))) (wS (vSlice 2 (i + 1) (xs.length + 1) (vCap (vTake (xs.length + 1) v)) (vTake (xs.length + 1) v)) rfl (Step.sliceFromP (l := i + 1) Try.un96 Try.el92.sized rfl rfl (by omega) (Shp.take hsh3 (k := xs.length + 1) (by obtain ⟨_, _, _, _⟩ := hsh3; omega)) (by omega)) ?_))))
   refine WL.step (v := (Value.bool false)) rfl (M.overlaps 0 rfl 1 rfl (by decide) Try.un96 Try.el92.sized rfl rfl (by omega) (by decide) (fun args => run_callFunc_extern Try.func116 (by kernel_rfl) (by kernel_rfl) (by kernel_rfl) (by kernel_rfl) args _)) ?_
   refine wP (vB true) (WL.nil ?_)
   refine W.cond (t := true) rfl (fun _ => ?_) (fun h => by cases h)
   refine W.seq' ?_
   refine W.drawn M [0, 1, 2, 3, 4, 5, 6, 7, 8] [8] [] _ _ (sN (sY sE)) (fun _ h => h) Try.mixed (by kernel_rfl) ?_
   refine tP (vTake (xs.length + 1) v) rfl (fun w => (Step.move rfl)) ?_
   refine tP (vI ↑i) rfl (fun w => (Step.move rfl)) ?_
   refine tP (vI 1) rfl (fun w => (Step.move rfl)) ?_
   refine tP (vI (↑i + 1)) rfl (fun w => (Step.add rfl rfl (wrap_i64 (by omega)))) ?_
   refine tP (vSlice 2 (i + 1) (xs.length + 1) (vCap (vTake (xs.length + 1) v)) (vTake (xs.length + 1) v)) rfl (fun w => (Step.sliceFromP (l := i + 1) Try.un96 Try.el92.sized rfl rfl (by omega) (Shp.take hsh3 (k := xs.length + 1) (by obtain ⟨_, _, _, _⟩ := hsh3; omega)) (by omega))) ?_
   refine tP (vTake (xs.length + 1) v) rfl (fun w => (Step.move rfl)) ?_
   refine tP (vI ↑i) rfl (fun w => (Step.move rfl)) ?_
   refine tP (vSlice 2 i (xs.length + 1) (vCap (vTake (xs.length + 1) v)) (vTake (xs.length + 1) v)) rfl (fun w => (Step.sliceFromP (l := i) Try.un96 Try.el92.sized rfl rfl (by omega) (Shp.take hsh3 (k := xs.length + 1) (by obtain ⟨_, _, _, _⟩ := hsh3; omega)) (by omega))) ?_
   refine TW.act (c' := oH (vTake (xs.length + 1) v) (xs.take (i + 1) ++ xs.drop i)) 0 rfl rfl (by decide) rfl (sN (sY sE)) (fun r h => h) (fun A w M => M.copyGrow (xs := xs) (k := i) handleE_len 1 rfl Try.un96 Try.el92.sized rfl rfl (by omega) (by omega) handleE_cel) ?_
   refine TW.done (fun w17 M => ?_)
   refine wR (wM (vTake (xs.length + 1) v) (wM (vI ↑i) (wS (vSlice 2 i (xs.length + 1) (vCap (vTake (xs.length + 1) v)) (vTake (xs.length + 1) v)) rfl (Step.sliceFromP (l := i) Try.un96 Try.el92.sized rfl rfl (by omega) (Shp.take hsh3 (k := xs.length + 1) (by obtain ⟨_, _, _, _⟩ := hsh3; omega)) (by omega)) (wM (Value.slice (some ⟨ub, 0, none⟩) 1 1) ?_))))
   refine WL.act rfl (M.copyRow (l := i) (m := 1) (news := [(vI x.at_), (vI x.turn)]) 0 rfl Try.un96 Try.el92.sized rfl (by first | rfl | omega | (simp; omega)) rfl (SlAt.of_blk (M.blk 1 rfl) rfl (by decide)) (by first | omega | (simp; omega)) (by first | omega | (simp; omega)) (cel_cons rfl (cel_cons rfl cel_nil))) ?_
   rintro w18 ⟨M, -⟩
   refine WL.nil (wR (wM (vTake (xs.length + 1) v) (wA (vTake (xs.length + 1) v) (WL.nil ?_))))
   refine W.ret ?_
   refine ⟨.inl rfl, (vTake (xs.length + 1) v), ?_, ?_⟩
   · exact ⟨rfl, (Res.r1 (show RV _ _ _ (.tmp 6) (vTake (xs.length + 1) v) from by exact rfl))⟩
   replace M := M.rechunk 0 (c' := oH (vTake (xs.length + 1) v) (insL xs i x)) rfl (by show _ = own 92 2 (vTake (xs.length + 1) v) (insL xs i x).length ((insL xs i x).flatMap handleE); rw [insL_len xs hi, show (xs.take (i + 1) ++ xs.drop i).length = xs.length + 1 by (simp; omega)]; exact congrArg (own 92 2 (vTake (xs.length + 1) v) (xs.length + 1)) ((splice_whole (j := i) handleE_len (by simp; omega) x).trans (congrArg (fun z : List Handle => z.flatMap handleE) (ins_room handleE_len (by omega) x))))
   refine ⟨(vTake (xs.length + 1) v), ?_, M.close [1, 0] rfl (by decide) trivial⟩
   rfl
end Go.Proofs
set_option maxRecDepth 100000
namespace Go.Proofs
open Go Tp
theorem Try.un170 : Und Try.prog 170 (.int .u64) := by unfold Und; kernel_rfl
theorem Try.en109 : Enters Try.prog 109 := fun _ _ => by kernel_rfl
theorem Try.en110 : Enters Try.prog 110 := fun _ _ => by kernel_rfl
theorem Try.en123 : Enters Try.prog 123 := fun _ _ => by kernel_rfl
theorem Try.sc9 : Scal Try.prog 9 := fun _ => by kernel_rfl
theorem nan_str {G : Nat → Prop} {w : World} (x : ByteArray)   (M : Mem G (fun _ => False) w [] [] w) : Rets Try.prog 123 #[(vS x)] w fun r w' => r = (vB false) ∧ Mem G (fun _ => False) w [] [] w' := by
 refine Rets.enter 6 _ Try.func123 rfl Try.ntmps123 Try.results123 (by simp) ?_
 refine wR (wA (vB false) (WL.nil (wR (wM (vS x) (wM (vS x) ?_)))))
 refine wS (vB false) rfl (Step.cast (congrArg Value.bool (show (!(x.toList == x.toList)) = false by simp)) sP) (wA (vB false) (WL.nil ?_))
 refine W.ret ?_
 refine ⟨.inl rfl, (vB false), ?_, ?_⟩
 · exact ⟨rfl, (Res.r1 (show RV _ _ _ (.tmp 2) (vB false) from by exact rfl))⟩
 refine ⟨?_, M.close [] rfl (by decide) trivial⟩
 rfl
theorem less_str {G : Nat → Prop} {w : World} (x : ByteArray) (y : ByteArray)   (M : Mem G (fun _ => False) w [] [] w) : Rets Try.prog 109 #[(vS x), (vS y)] w fun r w' => r = (vB (sLt x y)) ∧ Mem G (fun _ => False) w [] [] w' := by
 refine Rets.enter 17 _ Try.func109 rfl Try.ntmps109 Try.results109 (by simp) ?_
 refine wR (wA (vB false) (WL.nil (wR (wM (vS x) ?_))))
 refine WL.callX rfl (nan_str x (M.enterW0 trivial)) (CallsF.func Try.en123 rfl) ?_
 rintro _ w1 ⟨rfl, m⟩
 replace M := M.leaveW0 m
 clear m
 refine wM (vB false) ?_
 refine WL.pass rfl ?_
 refine WL.pass rfl ?_
 refine WL.pass rfl ?_
 refine wS (vB false) rfl (Step.pick (t := false) rfl rfl) (wM (vB false) (wM (vS x) (wM (vS y) (wP (vB (sLt x y)) (wS (vB (sLt x y)) rfl (Step.pick (t := false) rfl rfl) ?_)))))
 refine wA (vB (sLt x y)) (WL.nil ?_)
 refine W.ret ?_
 refine ⟨.inl rfl, (vB (sLt x y)), ?_, ?_⟩
 · exact ⟨rfl, (Res.r1 (show RV _ _ _ (.tmp 4) (vB (sLt x y)) from by exact rfl))⟩
 refine ⟨?_, M.close [] rfl (by decide) trivial⟩
 rfl
theorem nans_str {G : Nat → Prop} {w : World} (x : ByteArray)   (M : Mem G (fun _ => False) w [] [] w) : Rets Try.prog 110 #[(vS x)] w fun r w' => r = (vB false) ∧ Mem G (fun _ => False) w [] [] w' := by
 refine Rets.enter 6 _ Try.func110 rfl Try.ntmps110 Try.results110 (by simp) ?_
 refine wR (wA (vB false) (WL.nil (wR (wM (vS x) (wM (vS x) ?_)))))
 refine wS (vB false) rfl (Step.cast (congrArg Value.bool (show (!(x.toList == x.toList)) = false by simp)) sP) (wA (vB false) (WL.nil ?_))
 refine W.ret ?_
 refine ⟨.inl rfl, (vB false), ?_, ?_⟩
 · exact ⟨rfl, (Res.r1 (show RV _ _ _ (.tmp 2) (vB false) from by exact rfl))⟩
 refine ⟨?_, M.close [] rfl (by decide) trivial⟩
 rfl
theorem bs_str {G : Nat → Prop} {w : World} (v : Value) (xs : List ByteArray) (x : ByteArray)  (hb : xs.length ≤ 1000000) (hs : upS xs) (M : Mem G (fun _ => False) w [] [fS v xs] w) : Rets Try.prog 83 #[v, (vS x)] w fun r w' => r = (Value.tuple #[(vI (↑(bsI xs x))), (vB (bsF xs x))]) ∧ Mem G (fun _ => False) w [] [] w' := by
 refine Rets.enter 54 _ Try.func83 rfl Try.ntmps83 Try.results83 (by simp) ?_
 have hle1 := SlAt.le' (M.rep 0 rfl)
 have sl2 : IsSl v := SlAt.isSl (Mem.rep M 0 rfl)
 refine wR (wA (vI 0) (wA (vB false) (WL.nil (wR (wM v ?_)))))
 refine wS (vI ↑xs.length) rfl (Step.lenSl Try.un22 rfl (M.rep 0 rfl)) (wA (vI ↑xs.length) (WL.nil (wR (wM (vI ↑xs.length) (wA (vI 0) ?_)))))
 refine wA (vI ↑xs.length) (WL.nil (W.seq' (W.block ?_)))
 refine W.loop (fun kk ρ w' => ∃ (i_ : Nat) (j_ : Nat), ((i_ ≤ j_) ∧ (j_ ≤ xs.length) ∧ (∀ k s, k < i_ → xs[k]? = some s → sLt s x = true) ∧ (∀ k s, j_ ≤ k → xs[k]? = some s → sLt s x = false) ∧ kk = j_ - i_) ∧ ρ.has [(0, v), (1, (vS x)), (4, (vI 0)), (5, (vB false)), (6, (vI ↑xs.length)), (7, (vI ↑i_)), (8, (vI ↑j_))] ∧ Mem G (fun _ => False) w [] [fS v xs]  w') _ ⟨0, xs.length, ⟨(Nat.zero_le _), (Nat.le_refl _), (fun _ _ h => absurd h (Nat.not_lt_zero _)), (fun k s h hs => absurd (List.getElem?_eq_some_iff.1 hs).1 (by omega)), rfl⟩, ⟨rfl, rfl, rfl, rfl, rfl, rfl, rfl, rfl, rfl⟩, M⟩ ?_
 rintro _ ρ4 w3 ⟨i_, j_, ⟨hi5, hi6, hi7, hi8, rfl⟩, hρ, M⟩
 obtain ⟨ρ4, rfl⟩ := hρ.know
 clear hρ
 obtain ⟨hI1, hI2, hI3, hI4⟩ : i_ ≤ j_ ∧ j_ ≤ xs.length ∧ (∀ k s, k < i_ → xs[k]? = some s → sLt s x = true) ∧ (∀ k s, j_ ≤ k → xs[k]? = some s → sLt s x = false) := ⟨hi5, hi6, hi7, hi8⟩
 refine W.seq' (wR (wM (vI ↑i_) (wM (vI ↑j_) (wP (vB (decide ((↑i_ : Int) < (↑j_ : Int)))) (WL.nil ?_)))))
 refine W.cond (t := decide ((↑i_ : Int) < (↑j_ : Int))) rfl (fun h9 => ?_) (fun h9 => ?_)
 ·
  have h9p := of_decide_eq_true h9
  refine W.skip (W.block (wR (wM (vI ↑i_) (wM (vI ↑j_) (wS (vI (↑i_ + ↑j_)) rfl (Step.add rfl rfl (wrap_i64 (by omega))) ?_)))))
  refine wS (vU (↑i_ + ↑j_)) rfl (Step.conv Try.un3 Try.un170 rfl (wrap_u64 (by omega))) ?_
  have hshr10 := shrI_nonneg (k := .u64) (a := (↑i_ + ↑j_ : Int)) (b := (1 : Int)) (by omega)
  refine wS (vU (↑((i_ + j_) / 2))) rfl (Step.cast (congrArg (Value.int .u64) (show (shrI .u64 (↑i_ + ↑j_ : Int) (1 : Int) : Int) = ↑((i_ + j_) / 2) by simp only [shrI, IntKind.bits]; simp)) (Step.shr rfl rfl (by omega))) (wS (vI (↑((i_ + j_) / 2))) rfl (Step.conv Try.un170 Try.un3 rfl (wrap_i64 (by omega))) (wA (vI (↑((i_ + j_) / 2))) (WL.nil (wR (wM v ?_)))))
  refine wM (vI (↑((i_ + j_) / 2))) ?_
  obtain ⟨cap12, hb11⟩ := SlAt.base (M.rep 0 rfl) (by omega)
  obtain ⟨x13, hx13⟩ := elem_of_lt (xs := xs) (i := (i_ + j_) / 2) (by omega)
  refine wS (vQ v ((i_ + j_) / 2) 1) rfl (sX ((i_ + j_) / 2) Try.un22 Try.el9 rfl rfl hb11) (wS (vS x13) rfl (Step.loadE (k := 0) Try.sc9 (flat_ec (M.rep 0 rfl) hx13 strE_len) (by decide) rfl rfl) (wM (vS x) ?_))
  refine WL.callX rfl (less_str x13 x (M.enterW0 trivial)) (CallsF.func Try.en109 rfl) ?_
  rintro _ w14 ⟨rfl, m⟩
  replace M := M.leaveW0 m
  clear m
  refine WL.nil ?_
  refine W.cond (t := sLt x13 x) rfl (fun h15 => ?_) (fun h15 => ?_)
  ·
   refine W.region rfl (wM (vI (↑((i_ + j_) / 2))) (wS (vI (↑((i_ + j_) / 2) + 1)) rfl (Step.add rfl rfl (wrap_i64 (by omega))) (wA (vI (↑((i_ + j_) / 2) + 1)) (WL.nil ?_))))
   exact ⟨_, (by omega), (i_ + j_) / 2 + 1, j_, ⟨(by omega), hI2, (up_below' hs hx13 h15), hI4, rfl⟩, ⟨rfl, rfl, rfl, rfl, rfl, rfl, rfl, rfl, rfl⟩, M⟩
  ·
   refine W.region rfl (wM (vI (↑((i_ + j_) / 2))) (wA (vI (↑((i_ + j_) / 2))) (WL.nil ?_)))
   exact ⟨_, (by omega), i_, (i_ + j_) / 2, ⟨(by omega), (by omega), hI3, (up_above' hs hx13 h15), rfl⟩, ⟨rfl, rfl, rfl, rfl, rfl, rfl, rfl, rfl, rfl⟩, M⟩
 ·
  have h9p := of_decide_eq_false h9
  refine W.exit ?_
  refine thn_exit ?_
  refine thn_exit ?_
  refine inBlk_hit ?_
  refine wR (wM (vI ↑i_) (wM (vI ↑i_) (wM (vI ↑xs.length) (wP (vB (decide ((↑i_ : Int) < (↑xs.length : Int)))) (wM (vB (decide ((↑i_ : Int) < (↑xs.length : Int)))) ?_)))))
  rcases Bool.eq_false_or_eq_true (decide ((↑i_ : Int) < (↑xs.length : Int))) with h16 | h16
  ·
   have h16p := of_decide_eq_true h16
   rw [h16]
   refine wM v (wM (vI ↑i_) ?_)
   obtain ⟨cap18, hb17⟩ := SlAt.base (M.rep 0 rfl) (by omega)
   obtain ⟨x19, hx19⟩ := elem_of_lt (xs := xs) (i := i_) (by omega)
   refine wS (vQ v i_ 1) rfl (sX i_ Try.un22 Try.el9 rfl rfl hb17) (wS (vS x19) rfl (Step.loadE (k := 0) Try.sc9 (flat_ec (M.rep 0 rfl) hx19 strE_len) (by decide) rfl rfl) (wM (vS x) (wP (vB (x19.toList == x.toList)) (wM (vB (x19.toList == x.toList)) ?_))))
   rcases Bool.eq_false_or_eq_true (x19.toList == x.toList) with h20 | h20
   ·
    rw [h20]
    refine WL.pass rfl ?_
    refine WL.pass rfl ?_
    refine WL.pass rfl ?_
    refine WL.pass rfl ?_
    refine WL.pass rfl ?_
    refine WL.pass rfl ?_
    refine WL.pass rfl ?_
    refine WL.pass rfl ?_
    refine WL.pass rfl ?_
    refine wS (vB true) rfl (Step.pick (t := true) rfl rfl) (wS (vB true) rfl (Step.pick (t := true) rfl rfl) (wA (vI ↑i_) (wA (vB true) (WL.nil ?_))))
    refine W.ret ?_
    refine ⟨.inl rfl, (Value.tuple #[(vI ↑i_), (vB true)]), ?_, ?_⟩
    · exact ⟨rfl, (Res.r2 (show RV _ _ _ (.tmp 4) (vI ↑i_) from by exact rfl) (show RV _ _ _ (.tmp 5) (vB true) from by exact rfl))⟩
    refine ⟨?_, M.close [] rfl (by decide) trivial⟩
    have hbs_ : bsI xs x = i_ := bsI_eq (by omega) hI3 (fun s_ hs_ => hI4 _ s_ (by omega) hs_)
    rw [bsF_at (by rw [hbs_]; exact hx19), hbs_]
    try simp [h9p, h16p, hx19, h20]
   ·
    rw [h20]
    refine wM v (wM (vI ↑i_) (wS (vQ v i_ 1) rfl (sX i_ Try.un22 Try.el9 rfl rfl hb17) (wS (vS x19) rfl (Step.loadE (k := 0) Try.sc9 (flat_ec (M.rep 0 rfl) hx19 strE_len) (by decide) rfl rfl) ?_)))
    refine WL.callX rfl (nans_str x19 (M.enterW0 trivial)) (CallsF.func Try.en110 rfl) ?_
    rintro _ w21 ⟨rfl, m⟩
    replace M := M.leaveW0 m
    clear m
    refine wM (vB false) ?_
    refine WL.pass rfl ?_
    refine WL.pass rfl ?_
    refine wS (vB false) rfl (Step.pick (t := false) rfl rfl) (wS (vB false) rfl (Step.pick (t := false) rfl rfl) (wS (vB false) rfl (Step.pick (t := true) rfl rfl) (wA (vI ↑i_) (wA (vB false) (WL.nil ?_)))))
    refine W.ret ?_
    refine ⟨.inl rfl, (Value.tuple #[(vI ↑i_), (vB false)]), ?_, ?_⟩
    · exact ⟨rfl, (Res.r2 (show RV _ _ _ (.tmp 4) (vI ↑i_) from by exact rfl) (show RV _ _ _ (.tmp 5) (vB false) from by exact rfl))⟩
    refine ⟨?_, M.close [] rfl (by decide) trivial⟩
    have hbs_ : bsI xs x = i_ := bsI_eq (by omega) hI3 (fun s_ hs_ => hI4 _ s_ (by omega) hs_)
    rw [bsF_at (by rw [hbs_]; exact hx19), hbs_]
    try simp [h9p, h16p, hx19, h20]
  ·
   have h16p := of_decide_eq_false h16
   rw [h16]
   refine WL.pass rfl ?_
   refine WL.pass rfl ?_
   refine WL.pass rfl ?_
   refine WL.pass rfl ?_
   refine WL.pass rfl ?_
   refine WL.pass rfl ?_
   refine WL.pass rfl ?_
   refine WL.pass rfl ?_
   refine WL.pass rfl ?_
   refine WL.pass rfl ?_
   refine WL.pass rfl ?_
   refine WL.pass rfl ?_
   refine WL.pass rfl ?_
   refine WL.pass rfl ?_
   refine WL.pass rfl ?_
   refine WL.pass rfl ?_
   refine WL.pass rfl ?_
   refine wS (vB false) rfl (Step.pick (t := false) rfl rfl) (wA (vI ↑i_) (wA (vB false) (WL.nil ?_)))
   refine W.ret ?_
   refine ⟨.inl rfl, (Value.tuple #[(vI ↑i_), (vB false)]), ?_, ?_⟩
   · exact ⟨rfl, (Res.r2 (show RV _ _ _ (.tmp 4) (vI ↑i_) from by exact rfl) (show RV _ _ _ (.tmp 5) (vB false) from by exact rfl))⟩
   refine ⟨?_, M.close [] rfl (by decide) trivial⟩
   have hbs_ : bsI xs x = i_ := bsI_eq (by omega) hI3 (fun s_ hs_ => hI4 _ s_ (by omega) hs_)
   rw [bsF_end (by omega), hbs_]
   try simp [h9p, h16p]
end Go.Proofs
