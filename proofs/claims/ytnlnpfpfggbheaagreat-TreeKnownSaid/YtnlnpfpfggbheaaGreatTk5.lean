/- Proved here: lemmas and walks on which the claim stands (part 5 of 7). No condition. -/
import Derived.Test.YtnlnpfpfggbheaaGreatTk4
set_option linter.all false
namespace Tp
open Go
section
variable {l l' l1 l2 : List RPlace} {d lo : Nat} {h : Handle} {ks P Q : List THit} {ts A B : List BT} {a b c t : BT} {u x z : THit} {K : Nat} {S : List Handle} {k : ByteArray}
theorem upS_keys (hu : upT ks) : upS (ks.map THit.key) := List.pairwise_map.2 hu
theorem node_ok (H : HoldsB l d (.mk h ks ts)) (hu : upT ks) (hB : BigA l K) (hK : K ≤ 1000000) : NodeOk l (rget l h).1 := by
  have e := (holds_mk.1 H).1
  rw [atA_get e]
  exact ⟨hB.small hK, hB.at e, by simp [nodeB], by rw [nodeB_keys]; exact upS_keys hu⟩
theorem kids_len (ho : okK (d + 1) ks ts) : (nodeB (d + 1) (.mk h ks ts)).kids.length = (nodeB (d + 1) (.mk h ks ts)).keys.length + 1 := by
  rw [nodeB_kids, if_neg (by simp), nodeB_keys, List.length_map, List.length_map]; exact ho.1
theorem ins_okW : ∀ (d : Nat) {l : List RPlace} {t : BT} {x : THit} {K lo : Nat}, HoldsB l d t → (hsB d t).Nodup → okB lo d t → (1 ≤ lo ∨ d = 0) → lo ≤ 2 → upT (flatB d t) → BigA l K → K + d + 1 ≤ 1000000 → insOk d l t.h x := by
  intro d
  induction d with
  | zero =>
    intro l t x K lo H hn ho hl1 hlo hu hB hK
    obtain ⟨h, ks, ts⟩ := t
    refine ⟨node_ok H (ks_up ho hu) hB (by omega), fun _ => ?_⟩
    rw [show (BT.mk h ks ts).h = h from rfl, atA_get (holds_mk.1 H).1]; rfl
  | succ d ih =>
    intro l t x K lo H hn ho hl1 hlo hu hB hK
    obtain ⟨h, ks, ts⟩ := t
    have hu' := ks_up ho hu
    obtain ⟨o1, o2, o3⟩ := ok_mk.1 ho
    refine ⟨node_ok H hu' hB (by omega), fun hf hl => ?_⟩
    have hg : (rget l h).1 = nodeB (d + 1) (.mk h ks ts) := by rw [atA_get (holds_mk.1 H).1]
    simp only [BT.h, hg, nodeB_keys] at hf hl ⊢
    obtain ⟨P, Q, rfl, hP, lP, hQ⟩ := bs_miss hu' hf
    obtain ⟨A, c, B, rfl, hA, hBl, hfl⟩ := flat_at (h := h) o3
    have hc : ((nodeB (d + 1) (.mk h (P ++ Q) (A ++ c :: B))).kids.getD (bsI ((P ++ Q).map THit.key) x.key) hdZero) = c.h := by
      rw [nodeB_kids, if_neg (by simp), List.map_append, List.map_cons]
      exact getD_mid (by rw [List.length_map, hA, hP])
    have hnc : (hsB d c).Nodup := by
      rw [hsB_mk, hsK_mid] at hn
      exact (List.nodup_append.1 (List.nodup_append.1 (List.nodup_cons.1 hn).2).2.1).1
    rw [hfl] at hu
    have hcH := (holds_mk.1 H).2 c (by simp)
    have hco := o3.2 c (by simp)
    rw [hc]
    refine ⟨by have := kids_len (h := h) o3; rw [nodeB_keys] at this; exact this, ih hcH hnc hco (.inl (by omega)) (by omega) (mid_up hu) hB (by omega), ?_⟩
    exact (ins_ok d (x := x) hcH hnc hco (.inl (by omega)) (by omega) (mid_up hu) hB).1.big.small (by omega)
theorem last_okW : ∀ {d : Nat} {t : BT}, HoldsB l d t → okB 1 d t → BigA l K → lastOk d l t.h := by
  intro d
  induction d with
  | zero =>
    intro t H ho hB
    obtain ⟨h, ks, ts⟩ := t
    have e := (holds_mk.1 H).1
    unfold lastOk
    rw [show (BT.mk h ks ts).h = h from rfl, atA_get e]
    exact ⟨⟨hB.at e, by simp [nodeB]⟩, by simpa [nodeB_keys] using (ok_mk.1 ho).1, rfl⟩
  | succ d ih =>
    intro t H ho hB
    obtain ⟨h, ks, ts⟩ := t
    have e := (holds_mk.1 H).1
    obtain ⟨o1, o2, o3, o4⟩ := ok_mk.1 ho
    obtain ⟨A, c, rfl⟩ : ∃ A c, ts = A ++ [c] := ⟨ts.dropLast, ts.getLast (by rintro rfl; simp at o3), (List.dropLast_concat_getLast _).symm⟩
    unfold lastOk
    rw [show (BT.mk h ks (A ++ [c])).h = h from rfl, atA_get e]
    refine ⟨⟨hB.at e, by simp [nodeB]⟩, by simpa [nodeB_keys] using o1, fun _ => ⟨by simp [nodeB, BT.ts], ?_⟩⟩
    have hc : ((nodeB (d + 1) (.mk h ks (A ++ [c]))).kids.getD ((nodeB (d + 1) (.mk h ks (A ++ [c]))).kids.length - 1) hdZero) = c.h := by
      rw [nodeB_kids, if_neg (by simp)]; simp [List.getD]
    simp only [hc]
    exact ih ((holds_mk.1 H).2 c (by simp)) (okB_low (o4 c (by simp)) (by omega)) hB
theorem kids_of (H : okB lo d c) (h0 : (nodeB d c).leaf = false) : (nodeB d c).kids.length = (nodeB d c).keys.length + 1 := by
  cases d with
  | zero => simp [nodeB] at h0
  | succ d => obtain ⟨h, ks, ts⟩ := c; exact kids_len (ok_mk.1 H).2.2
theorem pair_okW (H : PairB l d h P Q u A B a b) (hB : BigA l K) (hK : K ≤ 1000000) : pairOk l h P.length := by
  obtain ⟨k1, k2⟩ := H.kid
  unfold pairOk
  rw [k1, k2, H.get, atA_get H.ha.self, atA_get H.hb.self]
  refine ⟨hB.small hK, hB.at H.at_, hB.at H.ha.self, hB.at H.hb.self, by simp [nodeB], by simp [nodeB], by simp [nodeB], by simp [nodeB, BT.ks], ?_, ?_, ?_, rfl, fun h0 => kids_of H.oka h0, fun h0 => kids_of H.okb (by simpa [nodeB] using h0)⟩
  · simp [nodeB, BT.ks, BT.ts, H.lenA, H.lenB]; omega
  · have := (okB_len H.oka).1; simpa [nodeB] using this
  · have := (okB_len H.okb).1; simpa [nodeB] using this
theorem mend_okW (e : atA l h = some (nodeB (d + 1) (.mk h ks (A ++ c :: B)))) (hk : kidsH l (d + 1) (A ++ c :: B)) (hn : (h :: hsK (d + 1) (A ++ c :: B)).Nodup) (hl : (A ++ c :: B).length = ks.length + 1)
    (h1' : 1 ≤ ks.length) (hA : ∀ s, s ∈ A → okB 2 d s) (hc : okB 1 d c) (hB : ∀ s, s ∈ B → okB 2 d s) (hb : BigA l K) (hK : K ≤ 1000000) : mendOk l h A.length := by
  have gn : (rget l h).1 = nodeB (d + 1) (.mk h ks (A ++ c :: B)) := by rw [atA_get e]
  have kl : (rget l h).1.kids.length = A.length + B.length + 1 := by rw [gn, nodeB_kids, if_neg (by simp), List.length_map, List.length_append, List.length_cons]; omega
  have hlen : A.length + B.length = ks.length := by simp at hl; omega
  refine ⟨hb.small hK, by rw [gn]; exact hb.at e, by rw [kl]; omega, by rw [kl]; omega, fun _ => ⟨fun hi => ?_, fun hi => ?_⟩⟩
  · obtain ⟨A', a, rfl⟩ : ∃ A' a, A = A' ++ [a] := ⟨A.dropLast, A.getLast (by rintro rfl; simp at hi), (List.dropLast_concat_getLast _).symm⟩
    obtain ⟨P, u, Q, rfl, hP⟩ := split_at (l := ks) (i := A'.length) (by simp at hlen; omega)
    have hQ : B.length = Q.length := by simp at hlen; omega
    have ee : (A' ++ [a]) ++ c :: B = A' ++ a :: c :: B := by simp
    rw [ee] at e hk hn
    have H : PairB l d h P Q u A' B a c := ⟨e, hk, hn, hP.symm, hQ, fun s hs => hA s (by simp [hs]), hB, okB_low (hA a (by simp)) (by omega), hc⟩
    have := pair_okW H hb hK
    simpa [hP] using this
  · rw [kl] at hi
    cases B with
    | nil => simp at hi
    | cons b B' =>
      obtain ⟨P, u, Q, rfl, hP⟩ := split_at (l := ks) (i := A.length) (by simp at hlen; omega)
      have hQ : B'.length = Q.length := by simp at hlen; omega
      have H : PairB l d h P Q u A B' c b := ⟨e, hk, hn, hP.symm, hQ, hA, fun s hs => hB s (by simp [hs]), hc, okB_low (hB b (by simp)) (by omega)⟩
      have := pair_okW H hb hK
      rwa [hP] at this
theorem sub_mendW {row : List THit} (e : atA l h = some (nodeB (d + 1) (.mk h (P ++ Q) (A ++ c :: B)))) (hk : kidsH l (d + 1) (A ++ c :: B)) (hn : (h :: hsK (d + 1) (A ++ c :: B)).Nodup) (hA : A.length = P.length) (hB : B.length = Q.length)
    (h1 : 1 ≤ (P ++ Q).length) (oA : ∀ s, s ∈ A → okB 2 d s) (oB : ∀ s, s ∈ B → okB 2 d s) (R : RemB l l2 1 d (hsB d c) c.h row K) (hK : K ≤ 1000000) : mendOk l2 h P.length := by
  obtain ⟨c', hc1, hc2, hc3, hc4, hc5, hc6, hc7⟩ := R.parts
  have hn' := hn
  rw [hsK_mid] at hn'
  obtain ⟨n1, n2⟩ := List.nodup_cons.1 hn'
  rw [List.mem_append, List.mem_append, not_or, not_or] at n1
  obtain ⟨nA, n3, nAX⟩ := List.nodup_append.1 n2
  obtain ⟨nc, nB, ncB⟩ := List.nodup_append.1 n3
  have e2 : atA l2 h = some (nodeB (d + 1) (.mk h (P ++ Q) (A ++ c' :: B))) := by
    rw [R.same _ _ n1.2.1 e]; simp [nodeB, BT.ks, BT.ts, hc1]
  have k2 : kidsH l2 (d + 1) (A ++ c' :: B) := fun s hs => by
    rcases List.mem_append.1 hs with hs | hs
    · exact (hk s (by simp [hs])).same R.same fun q hq hm => nAX q (List.mem_flatMap.2 ⟨s, hs, hq⟩) q (List.mem_append_left _ hm) rfl
    · rcases List.mem_cons.1 hs with rfl | hs
      · exact hc2
      · exact (hk s (by simp [hs])).same R.same fun q hq hm => ncB q hm q (List.mem_flatMap.2 ⟨s, hs, hq⟩) rfl
  have nn : (h :: hsK (d + 1) (A ++ c' :: B)).Nodup := by
    rw [hsK_mid]
    refine List.nodup_cons.2 ⟨?_, List.nodup_append.2 ⟨nA, List.nodup_append.2 ⟨hc4, nB, fun q hq q' hq' e => ncB q (hc3 q hq) q' hq' e⟩, fun q hq q' hq' e => ?_⟩⟩
    · simp only [List.mem_append, not_or]; exact ⟨n1.1, fun q => n1.2.1 (hc3 h q), n1.2.2⟩
    · rcases List.mem_append.1 hq' with hq' | hq'
      · exact nAX q hq q' (List.mem_append_left _ (hc3 _ hq')) e
      · exact nAX q hq q' (List.mem_append_right _ hq') e
  have := mend_okW e2 k2 nn (by simp [hA, hB]; omega) h1 oA hc5 oB R.big hK
  rwa [hA] at this
theorem rem_okW : ∀ (d : Nat) {l : List RPlace} {t : BT} {k : ByteArray} {K lo : Nat}, HoldsB l d t → (hsB d t).Nodup → okB lo d t → 1 ≤ lo → upT (flatB d t) → BigA l K → K ≤ 1000000 → (∃ a, a ∈ flatB d t ∧ a.key = k) → remOk d l t.h k := by
  intro d
  induction d with
  | zero =>
    intro l t k K lo H hn ho hlo hu hB hK hm
    obtain ⟨h, ks, ts⟩ := t
    have e := (holds_mk.1 H).1
    refine ⟨node_ok H (ks_up ho hu) hB hK, ?_, by rw [show (BT.mk h ks ts).h = h from rfl, atA_get e]; rfl⟩
    rw [show (BT.mk h ks ts).h = h from rfl, atA_get e]
    simp only [nodeB_keys]
    cases hf : bsF (ks.map THit.key) k with
    | true => rfl
    | false =>
      obtain ⟨P, Q, rfl, hP, lP, hQ⟩ := bs_miss (show upT ks from hu) hf
      obtain ⟨a, ha, _⟩ := mem_of_bs (ks := []) lP hQ (by simpa using (show ∃ a, a ∈ P ++ Q ∧ a.key = k from hm))
      cases ha
  | succ d ih =>
    intro l t k K lo H hn ho hlo hu hB hK hm
    obtain ⟨h, ks, ts⟩ := t
    obtain ⟨o1, o2, o3⟩ := ok_mk.1 ho
    have hu' : upT ks := ks_up ho hu
    have e := (holds_mk.1 H).1
    have hk := (holds_mk.1 H).2
    rw [hsB_mk] at hn
    have hg : (rget l h).1 = nodeB (d + 1) (.mk h ks ts) := by rw [atA_get e]
    refine ⟨node_ok H hu' hB hK, fun hf hl => ?_, fun hf => ?_⟩
    · simp only [BT.h, hg, nodeB_keys, nodeB_vals] at hf ⊢
      obtain ⟨P, z, Q, rfl, hP, hz, lP, hQ⟩ := bs_hit hu' hf
      obtain ⟨A, c, B, rfl, hA, hBl, hfl⟩ := flat_at (h := h) (P := P) (Q := z :: Q) o3
      have hAk := kid_at e (i := P.length) hA
      rw [hg] at hAk
      rw [← hP, hAk]
      have oc := o3.2 c (by simp)
      rw [hfl] at hu
      obtain ⟨F, hF⟩ := last_ok (hk c (by simp)) (okB_low oc (by omega))
      refine ⟨by have := kids_len (h := h) o3; rw [nodeB_keys] at this; exact this, last_okW (hk c (by simp)) (okB_low oc (by omega)) hB, ?_⟩
      generalize lastF d l c.h = x at *
      have en : (⟨(nodeB (d + 1) (.mk h (P ++ z :: Q) (A ++ c :: B))).leaf, ((P ++ z :: Q).map THit.key).set P.length x.key, (nodeB (d + 1) (.mk h (P ++ z :: Q) (A ++ c :: B))).kids, ((P ++ z :: Q).map THit.val).set P.length x.val⟩ : Nd) = nodeB (d + 1) (.mk h (P ++ x :: Q) (A ++ c :: B)) := by
        rw [List.map_append, List.map_append, List.map_cons, List.map_cons, set_mid (by simp), set_mid (by simp)]
        simp [nodeB, BT.ks, BT.ts]
      rw [en]
      have s1 : SameA l (rput l h (nodeB (d + 1) (.mk h (P ++ x :: Q) (A ++ c :: B)))).1 [h] := SameA.put e (by simp)
      have e1 : atA (rput l h (nodeB (d + 1) (.mk h (P ++ x :: Q) (A ++ c :: B)))).1 h = some (nodeB (d + 1) (.mk h (P ++ x :: Q) (A ++ c :: B))) := by rw [put_at e, if_pos rfl]
      have b1 : BigA (rput l h (nodeB (d + 1) (.mk h (P ++ x :: Q) (A ++ c :: B)))).1 K := hB.put e (node_tiny (by simp at o2 ⊢; omega) ⟨by have := o3.1; simp at this ⊢; omega, o3.2⟩)
      generalize (rput l h (nodeB (d + 1) (.mk h (P ++ x :: Q) (A ++ c :: B)))).1 = l1 at s1 e1 b1 ⊢
      have k1 : kidsH l1 (d + 1) (A ++ c :: B) := kidsH_same s1 hk fun q hq hm => by rw [List.mem_singleton.1 hm] at hq; exact (List.nodup_cons.1 hn).1 hq
      have hnc : (hsB d c).Nodup := by
        rw [hsK_mid] at hn
        exact (List.nodup_append.1 (List.nodup_append.1 (List.nodup_cons.1 hn).2).2.1).1
      have hcu : upT (flatB d c) := mid_up hu
      have hmem : ∃ a, a ∈ flatB d c ∧ a.key = x.key := ⟨x, by rw [hF]; simp, rfl⟩
      refine ⟨ih (lo := 2) (k1 c (by simp)) hnc oc (by omega) hcu b1 hK hmem, ?_⟩
      have R := rem_ok d (k := x.key) (lo := 2) (k1 c (by simp)) hnc oc (by omega) hcu b1 hmem
      exact sub_mendW (P := P) (Q := x :: Q) e1 k1 hn hA (by simpa using hBl) (by simp; omega) (fun s hs => o3.2 s (by simp [hs])) (fun s hs => o3.2 s (by simp [hs])) R hK
    · simp only [BT.h, hg, nodeB_keys] at hf ⊢
      obtain ⟨P, Q, rfl, hP, lP, hQ⟩ := bs_miss hu' hf
      obtain ⟨A, c, B, rfl, hA, hBl, hfl⟩ := flat_at (h := h) o3
      have hAk := kid_at e (i := P.length) hA
      rw [hg] at hAk
      rw [← hP, hAk]
      have oc := o3.2 c (by simp)
      have hnc : (hsB d c).Nodup := by
        rw [hsK_mid] at hn
        exact (List.nodup_append.1 (List.nodup_append.1 (List.nodup_cons.1 hn).2).2.1).1
      rw [hfl] at hu hm
      have low := pre_low hA hu lP
      have high := suf_high hBl hu hQ
      have hmem := mem_of_bs low high hm
      refine ⟨by have := kids_len (h := h) o3; rw [nodeB_keys] at this; exact this, ih (lo := 2) (hk c (by simp)) hnc oc (by omega) (mid_up hu) hB hK hmem, ?_⟩
      have R := rem_ok d (k := k) (lo := 2) (hk c (by simp)) hnc oc (by omega) (mid_up hu) hB hmem
      exact sub_mendW (P := P) (Q := Q) e hk hn hA hBl (by omega) (fun s hs => o3.2 s (by simp [hs])) (fun s hs => o3.2 s (by simp [hs])) R hK
end
end Tp
namespace Tp
open Go
structure TabI (l : List RPlace) (r : Handle) (fu : Bool) (ln : Int) (row : List THit) (K d : Nat) : Prop where
  up : upT row
  len : ln = row.length
  big : BigA l K
  tree : (fu = false ∧ row = [] ∧ usedN l = 0 ∧ d = 0) ∨ (fu = true ∧ ∃ t, t.h = r ∧ HoldsB l d t ∧ (hsB d t).Nodup ∧ okB 1 d t ∧ row = flatB d t ∧ usedN l = (hsB d t).length)
def put0 (l : List RPlace) (r : Handle) (fu : Bool) : List RPlace × Handle := if fu then (l, r) else rmake l ⟨true, [], [], []⟩
def putU (q : List RPlace × (Int × Bool) × Option (THit × Handle)) (r : Handle) : List RPlace × Handle :=
  match q.2.2 with
  | none => (q.1, r)
  | some u => rmake q.1 ⟨false, [u.1.key], [r, u.2], [u.1.val]⟩
def putT (d : Nat) (l : List RPlace) (r : Handle) (fu : Bool) (ln : Int) (x : THit) : (List RPlace × Handle) × Int × (Int × Bool) :=
  let q := insF d (put0 l r fu).1 (put0 l r fu).2 x
  (putU q (put0 l r fu).2, if q.2.1.2 then ln else ln + 1, q.2.1)
section
variable {l l' : List RPlace} {d lo K : Nat} {r h : Handle} {fu : Bool} {ln : Int} {row : List THit} {x : THit} {t : BT} {k : ByteArray}
theorem flat_deep : ∀ {d lo : Nat} {t : BT}, okB lo d t → 1 ≤ lo → d + 1 ≤ (flatB d t).length := by
  intro d
  induction d with
  | zero => intro lo t ho hl; obtain ⟨h, ks, ts⟩ := t; have := (ok_mk.1 ho).1; simp only [flatB, BT.ks]; omega
  | succ d ih =>
    intro lo t ho hl
    obtain ⟨h, ks, ts⟩ := t
    obtain ⟨o1, o2, o3⟩ := ok_mk.1 ho
    cases ks with
    | nil => simp at o1; omega
    | cons z ks =>
      obtain ⟨A, c, B, rfl, hA, hB, hf⟩ := flat_at (h := h) (P := []) (Q := z :: ks) o3
      cases B with
      | nil => simp at hB
      | cons b B =>
        have := ih (o3.2 c (by simp)) (show 1 ≤ 2 by omega)
        rw [List.nil_append] at hf
        rw [hf, List.map_cons, sufW_cons]
        simp only [List.length_append, List.length_cons]; omega
theorem getL_len (hu : upT row) : (putL row x).length = if (getL row x.key).2 then row.length else row.length + 1 := by
  cases hf : bsF (row.map THit.key) x.key with
  | true =>
    obtain ⟨P, z, Q, rfl, hP, hz, lP, hQ⟩ := bs_hit hu hf
    rw [putL_hit lP hQ hz, getL_hit lP hz]; simp
  | false =>
    obtain ⟨P, Q, rfl, hP, lP, hQ⟩ := bs_miss hu hf
    rw [putL_new lP hQ, getL_no lP hQ]; simp; omega
theorem delL_len (hu : upT row) (hg : (getL row k).2 = true) : (delL row k).length + 1 = row.length := by
  cases hf : bsF (row.map THit.key) k with
  | true =>
    obtain ⟨P, z, Q, rfl, hP, hz, lP, hQ⟩ := bs_hit hu hf
    rw [delL_hit lP hQ hz]; simp; omega
  | false =>
    obtain ⟨P, Q, rfl, hP, lP, hQ⟩ := bs_miss hu hf
    rw [getL_no lP hQ] at hg; cases hg
theorem put0_ok (H : TabI l r fu ln row K d) : ∃ t, t.h = (put0 l r fu).2 ∧ HoldsB (put0 l r fu).1 d t ∧ (hsB d t).Nodup ∧ (okB 1 d t ∨ (d = 0 ∧ okB 0 d t)) ∧ row = flatB d t ∧ usedN (put0 l r fu).1 = (hsB d t).length ∧ BigA (put0 l r fu).1 (K + 1) := by
  rcases H.tree with ⟨rfl, rfl, h3, rfl⟩ | ⟨rfl, t, h1, h2, h3, h4, h5, h6⟩
  · refine ⟨.mk (put0 l r false).2 [] [], rfl, ?_, by simp [hsB], .inr ⟨rfl, by simp [okB, BT.ks]⟩, rfl, ?_, ?_⟩
    · show atA (rmake l ⟨true, [], [], []⟩).1 (rmake l ⟨true, [], [], []⟩).2 = _
      rw [make_at, if_pos rfl]; rfl
    · show usedN (rmake l ⟨true, [], [], []⟩).1 = _
      rw [make_used, h3]; rfl
    · exact H.big.make ⟨by simp, by simp, by simp⟩
  · exact ⟨t, h1, h2, h3, .inl h4, h5, h6, H.big.mono (by omega)⟩
theorem put_okW (H : TabI l r fu ln row K d) (hK : K + d + 2 ≤ 1000000) : insOk d (put0 l r fu).1 (put0 l r fu).2 x := by
  obtain ⟨t, h1, h2, h3, h4, h5, h6, h7⟩ := put0_ok H
  rw [← h1]
  rcases h4 with h4 | ⟨rfl, h4⟩
  · exact ins_okW d h2 h3 h4 (.inl (by omega)) (by omega) (h5 ▸ H.up) h7 (by omega)
  · exact ins_okW 0 h2 h3 h4 (.inr rfl) (by omega) (h5 ▸ H.up) h7 (by omega)
theorem put_tab (H : TabI l r fu ln row K d) : ∃ d', TabI (putT d l r fu ln x).1.1 (putT d l r fu ln x).1.2 true (putT d l r fu ln x).2.1 (putL row x) (K + d + 3) d' ∧ (putT d l r fu ln x).2.2 = getL row x.key := by
  obtain ⟨t, h1, h2, h3, h4, h5, h6, h7⟩ := put0_ok H
  have hI : PutB (put0 l r fu).1 (insF d (put0 l r fu).1 t.h x).1 1 d (hsB d t) t.h (insF d (put0 l r fu).1 t.h x).2.2 (putL (flatB d t) x) (K + 1 + d + 1) ∧ (insF d (put0 l r fu).1 t.h x).2.1 = getL (flatB d t) x.key := by
    rcases h4 with h4 | ⟨rfl, h4⟩
    · exact ins_ok d (lo := 1) h2 h3 h4 (.inl (by omega)) (by omega) (h5 ▸ H.up) h7
    · exact ins_ok 0 (lo := 0) h2 h3 h4 (.inr rfl) (by omega) (h5 ▸ H.up) h7
  obtain ⟨hp, hg⟩ := hI
  rw [h1, ← h5] at hp hg
  unfold putT
  simp only
  have hlen : (if (insF d (put0 l r fu).1 (put0 l r fu).2 x).2.1.2 = true then ln else ln + 1) = ((putL row x).length : Int) := by
    rw [hg, getL_len H.up, H.len]; split <;> simp_all
  obtain ⟨t', p1, p2, p3, p4, p5⟩ := hp.parts
  rcases p5 with ⟨q0, q1, q2, q3⟩ | ⟨u, t2, q0, q1, q2, q3, q4, q5, q6, q7, q8⟩
  · refine ⟨d, ⟨putL_up H.up, hlen, ?_, .inr ⟨rfl, t', ?_, ?_, p4, q1, q2, ?_⟩⟩, hg⟩
    · unfold putU; rw [q0]; exact hp.big.mono (by omega)
    · unfold putU; rw [q0]; exact p1
    · unfold putU; rw [q0]; exact p2
    · unfold putU; rw [q0]; simp only; omega
  · -- a new root
    generalize hq : insF d (put0 l r fu).1 (put0 l r fu).2 x = q at *
    have hU : putU q (put0 l r fu).2 = rmake q.1 (nodeB (d + 1) (.mk hdZero [u] [t', t2])) := by
      unfold putU; rw [q0]; simp [nodeB, BT.ks, BT.ts, p1]
    rw [hU]
    have e1 := make_at (l := q.1) (m := nodeB (d + 1) (.mk hdZero [u] [t', t2])) (h' := (rmake q.1 (nodeB (d + 1) (.mk hdZero [u] [t', t2]))).2)
    rw [if_pos rfl] at e1
    have e2 := make_none (l := q.1) (m := nodeB (d + 1) (.mk hdZero [u] [t', t2]))
    have hs : SameA q.1 (rmake q.1 (nodeB (d + 1) (.mk hdZero [u] [t', t2]))).1 [] := SameA.make
    have hb := hp.big.make (m := nodeB (d + 1) (.mk hdZero [u] [t', t2])) ⟨by simp [nodeB, BT.ks], by simp [nodeB, BT.ts], by simp [nodeB, BT.ks]⟩
    have hu := make_used (l := q.1) (m := nodeB (d + 1) (.mk hdZero [u] [t', t2]))
    generalize rmake q.1 (nodeB (d + 1) (.mk hdZero [u] [t', t2])) = m at e1 e2 hs hb hu ⊢
    have n1 : m.2 ∉ hsB d t' := fun hm => by obtain ⟨n, hn⟩ := p2.each _ hm; rw [e2] at hn; cases hn
    have n2 : m.2 ∉ hsB d t2 := fun hm => by obtain ⟨n, hn⟩ := q3.each _ hm; rw [e2] at hn; cases hn
    refine ⟨d + 1, ⟨putL_up H.up, hlen, hb.mono (by omega), .inr ⟨rfl, .mk m.2 [u] [t', t2], rfl, ?_, ?_, ?_, ?_, ?_⟩⟩, hg⟩
    · refine holds_mk.2 ⟨e1, fun s hsm => ?_⟩
      simp only [List.mem_cons, List.not_mem_nil, or_false] at hsm
      rcases hsm with rfl | rfl
      · exact p2.same hs fun _ _ h => by cases h
      · exact q3.same hs fun _ _ h => by cases h
    · rw [hsB_mk]
      simp only [hsK, List.flatMap_cons, List.flatMap_nil, List.append_nil]
      refine List.nodup_cons.2 ⟨by simp [n1, n2], List.nodup_append.2 ⟨p4, q6, fun a ha b hb e => q7 a ha (e ▸ hb)⟩⟩
    · refine ok_mk.2 ⟨by simp, by simp, by simp, fun s hsm => ?_⟩
      simp only [List.mem_cons, List.not_mem_nil, or_false] at hsm
      rcases hsm with rfl | rfl
      · exact q1
      · exact q2
    · rw [q4]; simp [flatB, BT.ks, BT.ts, weave]
    · rw [hu, hsB_mk]; simp only [hsK, List.flatMap_cons, List.flatMap_nil, List.append_nil, List.length_cons, List.length_append]; omega
end
end Tp
namespace Tp
open Go
def delT (d : Nat) (l : List RPlace) (r : Handle) (fu : Bool) (ln : Int) (k : ByteArray) : (List RPlace × Handle) × Bool × Int :=
  let l1 := remF d l r k
  let n := (rget l1 r).1
  if n.keys.length = 0 then (((rfree l1 [r]).1, if n.leaf then r else n.kids.getD 0 hdZero), !n.leaf, ln - 1) else ((l1, r), fu, ln - 1)
section
variable {l l' : List RPlace} {d lo K : Nat} {r h : Handle} {fu : Bool} {ln : Int} {row : List THit} {x : THit} {t : BT} {k : ByteArray}
theorem tab_full (H : TabI l r fu ln row K d) (hg : (getL row k).2 = true) : fu = true ∧ ∃ t, t.h = r ∧ HoldsB l d t ∧ (hsB d t).Nodup ∧ okB 1 d t ∧ row = flatB d t ∧ usedN l = (hsB d t).length := by
  rcases H.tree with ⟨_, rfl, _⟩ | h
  · cases hg
  · exact h
theorem del_okW (H : TabI l r fu ln row K d) (hg : (getL row k).2 = true) (hK : K ≤ 1000000) : remOk d l r k := by
  obtain ⟨_, t, h1, h2, h3, h4, h5, h6⟩ := tab_full H hg
  rw [← h1]
  exact rem_okW d h2 h3 h4 (by omega) (h5 ▸ H.up) H.big hK (h5 ▸ getL_mem hg)
theorem del_tab (H : TabI l r fu ln row K d) (hg : (getL row k).2 = true) : ∃ d', TabI (delT d l r fu ln k).1.1 (delT d l r fu ln k).1.2 (delT d l r fu ln k).2.1 (delT d l r fu ln k).2.2 (delL row k) K d' := by
  obtain ⟨rfl, t, h1, h2, h3, h4, h5, h6⟩ := tab_full H hg
  have R := rem_ok d (k := k) (lo := 1) h2 h3 h4 (by omega) (h5 ▸ H.up) H.big (h5 ▸ getL_mem hg)
  rw [h1, ← h5] at R
  obtain ⟨t', p1, p2, p3, p4, p5, p6, p7⟩ := R.parts
  have hln : ln - 1 = ((delL row k).length : Int) := by
    have := delL_len H.up hg
    rw [H.len]; omega
  have hb := R.big
  unfold delT
  simp only
  generalize remF d l r k = l1 at *
  obtain ⟨h', ks, ts⟩ := t'
  have p1 : h' = r := p1
  subst p1
  have e := (holds_mk.1 p2).1
  have hgt : (rget l1 h').1 = nodeB d (.mk h' ks ts) := by rw [atA_get e]
  rw [hgt]
  simp only [nodeB_keys, List.length_map, nodeB_leaf]
  by_cases h0 : ks.length = 0
  · rw [if_pos h0]
    have hks := List.eq_nil_of_length_eq_zero h0
    subst hks
    have hf := free_used e
    cases d with
    | zero =>
      refine ⟨0, ⟨delL_up H.up, hln, hb.free e, .inl ⟨rfl, p6, ?_, rfl⟩⟩⟩
      simp [hsB] at p7 h6
      have : (hsB 0 t).length = 1 := rfl
      simp only
      omega
    | succ d =>
      obtain ⟨o1, o2, o3, o4⟩ := ok_mk.1 p5
      obtain ⟨c, rfl⟩ : ∃ c, ts = [c] := by
        match ts, o3 with
        | [c], _ => exact ⟨c, rfl⟩
      rw [hsB_mk] at p4 p7
      simp only [hsK, List.flatMap_cons, List.flatMap_nil, List.append_nil, List.length_cons] at p4 p7
      obtain ⟨n1, n2⟩ := List.nodup_cons.1 p4
      have hs : SameA l1 (rfree l1 [h']).1 [h'] := SameA.free e (by simp)
      have hc := ((holds_mk.1 p2).2 c (by simp)).same hs fun q hq hm => by rw [List.mem_singleton.1 hm] at hq; exact n1 hq
      refine ⟨d, ⟨delL_up H.up, hln, hb.free e, .inr ⟨by simp, c, ?_, hc, n2, okB_low (o4 c (by simp)) (by omega), ?_, ?_⟩⟩⟩
      · simp [nodeB, BT.ts, List.getD]
      · rw [p6]; simp [flatB, BT.ks, BT.ts, weave]
      · simp only; omega
  · rw [if_neg h0]
    refine ⟨d, ⟨delL_up H.up, hln, hb, .inr ⟨rfl, .mk h' ks ts, rfl, p2, p4, ?_, p6, ?_⟩⟩⟩
    · obtain ⟨o1, o2, o3⟩ := ok_mk.1 p5
      exact ok_mk.2 ⟨by omega, o2, o3⟩
    · simp only; omega
theorem tab_new : TabI [] hdZero false 0 [] 0 0 := ⟨.nil, rfl, BigA.nil, .inl ⟨rfl, rfl, rfl, rfl⟩⟩
theorem tab_deep (H : TabI l r fu ln row K d) : d ≤ row.length := by
  rcases H.tree with ⟨_, _, _, rfl⟩ | ⟨_, t, h1, h2, h3, h4, h5, h6⟩
  · exact Nat.zero_le _
  · have := flat_deep h4 (by omega); rw [h5]; omega
end
end Tp
namespace Tp
open Go
def hitOf (n : Nd) (i : Nat) : THit := ⟨n.keys.getD i default, n.vals.getD i 0⟩
def leastT : Nat → List RPlace → Handle → (ByteArray → Bool) → THit × Bool → THit × Bool
  | d, l, h, p, b =>
    let n := (rget l h).1
    let i := n.keys.findIdx p
    let b' := if i < n.keys.length then (hitOf n i, true) else b
    if n.leaf then b' else match d with
      | 0 => b'
      | d + 1 => leastT d l (n.kids.getD i hdZero) p b'
def endI (ks : List ByteArray) (p : ByteArray → Bool) : Nat := ks.length - ks.reverse.findIdx p
def greatT : Nat → List RPlace → Handle → (ByteArray → Bool) → THit × Bool → THit × Bool
  | d, l, h, p, b =>
    let n := (rget l h).1
    let i := endI n.keys p
    let b' := if 0 < i then (hitOf n (i - 1), true) else b
    if n.leaf then b' else match d with
      | 0 => b'
      | d + 1 => greatT d l (n.kids.getD i hdZero) p b'
def firstL (l : List THit) (p : ByteArray → Bool) (b : THit × Bool) : THit × Bool := match l.find? (fun a => p a.key) with | some a => (a, true) | none => b
def lastL (l : List THit) (p : ByteArray → Bool) (b : THit × Bool) : THit × Bool := firstL l.reverse p b
section
variable {l : List RPlace} {d lo : Nat} {p : ByteArray → Bool} {P Q R ks : List THit} {b : THit × Bool} {z : THit}
theorem firstL_skip (h : ∀ a, a ∈ P → p a.key = false) : firstL (P ++ Q) p b = firstL Q p b := by
  unfold firstL
  rw [List.find?_append, List.find?_eq_none.2 (fun a ha => by simp [h a ha])]
  rfl
theorem firstL_app : firstL (P ++ Q) p b = firstL P p (firstL Q p b) := by
  unfold firstL
  rw [List.find?_append]
  cases List.find? (fun a => p a.key) P <;> rfl
theorem firstL_hit (h : p z.key = true) : firstL (z :: Q) p b = (z, true) := by unfold firstL; simp [h]
theorem firstL_nil : firstL [] p b = b := rfl
theorem firstL_none (h : ∀ a, a ∈ P → p a.key = false) : firstL P p b = b := by have := firstL_skip (Q := []) (b := b) h; rwa [List.append_nil] at this
def upP (p : ByteArray → Bool) : Prop := ∀ x y, sLt x y = true → p x = true → p y = true
def downP (p : ByteArray → Bool) : Prop := ∀ x y, sLt x y = true → p y = true → p x = true
theorem hitOf_node {h : Handle} {ts : List BT} {i : Nat} (hz : ks[i]? = some z) : hitOf (nodeB d (.mk h ks ts)) i = z := by
  unfold hitOf; simp [nodeB, BT.ks, List.getD, hz]
theorem split_first (ks : List THit) (p : ByteArray → Bool) : ∃ P Q, ks = P ++ Q ∧ P.length = (ks.map THit.key).findIdx p ∧ (∀ a, a ∈ P → p a.key = false) ∧ (∀ z R, Q = z :: R → p z.key = true) := by
  induction ks with
  | nil => exact ⟨[], [], rfl, rfl, (fun _ h => by cases h), (fun _ _ h => by cases h)⟩
  | cons a ks ih =>
    cases ha : p a.key with
    | true => exact ⟨[], a :: ks, rfl, by simp [List.findIdx_cons, ha], (fun _ h => by cases h), (fun z R h => by cases h; exact ha)⟩
    | false =>
      obtain ⟨P, Q, h1, h2, h3, h4⟩ := ih
      refine ⟨a :: P, Q, by rw [h1]; rfl, by simp [List.findIdx_cons, ha, h2], fun x hx => ?_, h4⟩
      rcases List.mem_cons.1 hx with rfl | hx
      · exact ha
      · exact h3 x hx
theorem least_ok (hp : upP p) : ∀ {d lo : Nat} {t : BT} {b : THit × Bool}, HoldsB l d t → okB lo d t → upT (flatB d t) → leastT d l t.h p b = firstL (flatB d t) p b := by
  intro d
  induction d with
  | zero =>
    intro lo t b H ho hu
    obtain ⟨h, ks, ts⟩ := t
    have hg : (rget l h).1 = nodeB 0 (.mk h ks ts) := by rw [atA_get (holds_mk.1 H).1]
    unfold leastT
    simp only [BT.h, hg, nodeB_keys, nodeB_leaf, List.length_map, beq_self_eq_true, if_true]
    obtain ⟨P, Q, rfl, hP, h3, h4⟩ := split_first ks p
    rw [← hP]
    show _ = firstL (P ++ Q) p b
    rw [firstL_skip h3]
    cases Q with
    | nil => rw [if_neg (by simp)]; rfl
    | cons z R => rw [if_pos (by simp), hitOf_node (z := z) (by simp), firstL_hit (h4 z R rfl)]
  | succ d ih =>
    intro lo t b H ho hu
    obtain ⟨h, ks, ts⟩ := t
    have hg : (rget l h).1 = nodeB (d + 1) (.mk h ks ts) := by rw [atA_get (holds_mk.1 H).1]
    obtain ⟨o1, o2, o3⟩ := ok_mk.1 ho
    have hd0 : ((d + 1 == 0) = true) ↔ False := by simp
    unfold leastT
    simp only [BT.h, hg, nodeB_keys, nodeB_leaf, List.length_map, hd0, if_false]
    obtain ⟨P, Q, rfl, hP, h3, h4⟩ := split_first ks p
    obtain ⟨A, c, B, rfl, hA, hB, hf⟩ := flat_at (h := h) o3
    have hc := kid_at (holds_mk.1 H).1 (i := P.length) hA
    rw [hg] at hc
    rw [← hP, hc, hf]
    rw [hf] at hu
    have hpre : ∀ a, a ∈ preW (A.map (flatB d)) P → p a.key = false := by
      rcases List.eq_nil_or_concat P with rfl | ⟨P', z, rfl⟩
      · have : A = [] := List.eq_nil_of_length_eq_zero (by simpa using hA)
        subst this; intro a ha; simp [preW] at ha
      · rw [List.concat_eq_append] at *
        have hz := h3 z (by simp)
        obtain ⟨A', a', rfl⟩ : ∃ A' a', A = A' ++ [a'] := ⟨A.dropLast, A.getLast (by rintro rfl; simp at hA), (List.dropLast_concat_getLast _).symm⟩
        have hA' : A'.length = P'.length := by simpa using hA
        rw [List.map_append, List.map_cons, List.map_nil, preW_snoc (by simpa using hA'), ← List.append_assoc] at hu ⊢
        have hu2 := (upT_app.1 (upT_app.1 hu).1).1
        intro a ha
        rcases List.mem_append.1 ha with ha | ha
        · have hlt := (upT_app.1 hu2).2.2 a ha z (by simp)
          cases hpa : p a.key with
          | false => rfl
          | true => rw [hp _ _ hlt hpa] at hz; cases hz
        · rw [List.mem_singleton.1 ha]; exact hz
    have hcu : upT (flatB d c) := mid_up hu
    rw [ih ((holds_mk.1 H).2 c (by simp)) (o3.2 c (by simp)) hcu, List.append_assoc, firstL_skip hpre, firstL_app]
    congr 1
    cases Q with
    | nil =>
      have : B = [] := List.eq_nil_of_length_eq_zero (by simpa using hB)
      subst this
      rw [if_neg (by simp)]; rfl
    | cons z R =>
      obtain ⟨b', B', rfl⟩ : ∃ b' B', B = b' :: B' := by cases B with | nil => simp at hB | cons b' B' => exact ⟨b', B', rfl⟩
      rw [if_pos (by simp), hitOf_node (z := z) (by simp), List.map_cons, sufW_cons, firstL_hit (h4 z R rfl)]
theorem lastL_app : lastL (P ++ Q) p b = lastL Q p (lastL P p b) := by unfold lastL; rw [List.reverse_append, firstL_app]
theorem lastL_none (h : ∀ a, a ∈ P → p a.key = false) : lastL P p b = b := firstL_none fun a ha => h a (List.mem_reverse.1 ha)
theorem lastL_hit (h : p z.key = true) : lastL (P ++ [z]) p b = (z, true) := by unfold lastL; rw [List.reverse_append]; exact firstL_hit h
theorem split_last (ks : List THit) (p : ByteArray → Bool) : ∃ P Q, ks = P ++ Q ∧ P.length = endI (ks.map THit.key) p ∧ (∀ a, a ∈ Q → p a.key = false) ∧ (∀ R z, P = R ++ [z] → p z.key = true) := by
  obtain ⟨P, Q, h1, h2, h3, h4⟩ := split_first ks.reverse p
  refine ⟨Q.reverse, P.reverse, ?_, ?_, fun a ha => h3 a (List.mem_reverse.1 ha), fun R z h => ?_⟩
  · have := congrArg List.reverse h1; rwa [List.reverse_reverse, List.reverse_append] at this
  · unfold endI
    rw [← List.map_reverse, ← h2, List.length_reverse, List.length_map]
    have := congrArg List.length h1; simp at this; omega
  · have := congrArg List.reverse h; rw [List.reverse_reverse, List.reverse_append] at this
    exact h4 z _ this
theorem great_ok (hp : downP p) : ∀ {d lo : Nat} {t : BT} {b : THit × Bool}, HoldsB l d t → okB lo d t → upT (flatB d t) → greatT d l t.h p b = lastL (flatB d t) p b := by
  intro d
  induction d with
  | zero =>
    intro lo t b H ho hu
    obtain ⟨h, ks, ts⟩ := t
    have hg : (rget l h).1 = nodeB 0 (.mk h ks ts) := by rw [atA_get (holds_mk.1 H).1]
    unfold greatT
    simp only [BT.h, hg, nodeB_keys, nodeB_leaf, beq_self_eq_true, if_true]
    obtain ⟨P, Q, rfl, hP, h3, h4⟩ := split_last ks p
    rw [← hP]
    show _ = lastL (P ++ Q) p b
    rw [lastL_app, lastL_none h3]
    rcases List.eq_nil_or_concat P with rfl | ⟨R, z, rfl⟩
    · rw [if_neg (by simp)]; rfl
    · rw [List.concat_eq_append] at *
      rw [if_pos (by simp), hitOf_node (z := z) (by simp), lastL_hit (h4 R z rfl)]
  | succ d ih =>
    intro lo t b H ho hu
    obtain ⟨h, ks, ts⟩ := t
    have hg : (rget l h).1 = nodeB (d + 1) (.mk h ks ts) := by rw [atA_get (holds_mk.1 H).1]
    obtain ⟨o1, o2, o3⟩ := ok_mk.1 ho
    have hd0 : ((d + 1 == 0) = true) ↔ False := by simp
    unfold greatT
    simp only [BT.h, hg, nodeB_keys, nodeB_leaf, hd0, if_false]
    obtain ⟨P, Q, rfl, hP, h3, h4⟩ := split_last ks p
    obtain ⟨A, c, B, rfl, hA, hB, hf⟩ := flat_at (h := h) o3
    have hc := kid_at (holds_mk.1 H).1 (i := P.length) hA
    rw [hg] at hc
    rw [← hP, hc, hf]
    rw [hf] at hu
    have hsuf : ∀ a, a ∈ sufW Q (B.map (flatB d)) → p a.key = false := by
      cases Q with
      | nil => intro a ha; simp [sufW] at ha
      | cons z R =>
        obtain ⟨b', B', rfl⟩ : ∃ b' B', B = b' :: B' := by cases B with | nil => simp at hB | cons b' B' => exact ⟨b', B', rfl⟩
        have hz := h3 z (by simp)
        rw [List.map_cons, sufW_cons] at hu ⊢
        have hu2 := upT_cons.1 (upT_app.1 hu).2.1
        intro a ha
        rcases List.mem_cons.1 ha with rfl | ha
        · exact hz
        · cases hpa : p a.key with
          | false => rfl
          | true => rw [hp _ _ (hu2.1 a ha) hpa] at hz; cases hz
    have hcu : upT (flatB d c) := mid_up hu
    rw [ih ((holds_mk.1 H).2 c (by simp)) (o3.2 c (by simp)) hcu, lastL_app, lastL_none hsuf, lastL_app]
    congr 1
    rcases List.eq_nil_or_concat P with rfl | ⟨R, z, rfl⟩
    · have : A = [] := List.eq_nil_of_length_eq_zero (by simpa using hA)
      subst this
      rw [if_neg (by simp)]; rfl
    · rw [List.concat_eq_append] at *
      obtain ⟨A', a', rfl⟩ : ∃ A' a', A = A' ++ [a'] := ⟨A.dropLast, A.getLast (by rintro rfl; simp at hA), (List.dropLast_concat_getLast _).symm⟩
      have hA' : A'.length = R.length := by simpa using hA
      rw [if_pos (by simp), hitOf_node (z := z) (by simp), List.map_append, List.map_cons, List.map_nil, preW_snoc (by simpa using hA'), ← List.append_assoc, lastL_hit (h4 R z rfl)]
end
end Tp
namespace Tp
open Go
def hitsN (n : Nd) : List THit := (n.keys.zip n.vals).map fun q => ⟨q.1, q.2⟩
def allT : Nat → List RPlace → Handle → List THit
  | d, l, h =>
    let n := (rget l h).1
    if n.leaf then hitsN n else match d with
      | 0 => []
      | d + 1 => weave (n.kids.map (allT d l)) (hitsN n)
structure TPl where
  depth : Int
  leaf : Bool
  keys : List ByteArray
deriving Inhabited
def placesT : Nat → List RPlace → Handle → Int → List TPl
  | d, l, h, q =>
    let n := (rget l h).1
    ⟨q, n.leaf, n.keys⟩ :: match d with
      | 0 => []
      | d + 1 => n.kids.flatMap fun c => placesT d l c (q + 1)
def placesB : Nat → BT → Int → List TPl
  | 0, t, q => [⟨q, true, t.ks.map THit.key⟩]
  | d + 1, t, q => ⟨q, false, t.ks.map THit.key⟩ :: t.ts.flatMap fun c => placesB d c (q + 1)
section
variable {l : List RPlace} {d lo : Nat} {t : BT} {q : Int} {ks : List THit} {ts : List BT} {h : Handle}
theorem hitsN_node : hitsN (nodeB d (.mk h ks ts)) = ks := by
  unfold hitsN
  rw [nodeB_keys, nodeB_vals]
  induction ks with
  | nil => rfl
  | cons a ks ih => simp only [List.map_cons, List.zip_cons_cons]; rw [ih]
theorem all_ok : ∀ {d : Nat} {t : BT}, HoldsB l d t → allT d l t.h = flatB d t := by
  intro d
  induction d with
  | zero =>
    intro t H
    obtain ⟨h, ks, ts⟩ := t
    have hg : (rget l h).1 = nodeB 0 (.mk h ks ts) := by rw [atA_get (holds_mk.1 H).1]
    unfold allT
    simp only [BT.h, hg, nodeB_leaf, beq_self_eq_true, if_true, hitsN_node]; rfl
  | succ d ih =>
    intro t H
    obtain ⟨h, ks, ts⟩ := t
    have hg : (rget l h).1 = nodeB (d + 1) (.mk h ks ts) := by rw [atA_get (holds_mk.1 H).1]
    have hd0 : ((d + 1 == 0) = true) ↔ False := by simp
    unfold allT
    simp only [BT.h, hg, nodeB_leaf, hd0, if_false, hitsN_node]
    rw [nodeB_kids, if_neg (by simp), List.map_map]
    show weave _ ks = weave (ts.map (flatB d)) ks
    congr 1
    exact List.map_congr_left fun s hs => ih ((holds_mk.1 H).2 s hs)
theorem places_ok : ∀ {d : Nat} {t : BT} {q : Int}, HoldsB l d t → placesT d l t.h q = placesB d t q := by
  intro d
  induction d with
  | zero =>
    intro t q H
    obtain ⟨h, ks, ts⟩ := t
    have hg : (rget l h).1 = nodeB 0 (.mk h ks ts) := by rw [atA_get (holds_mk.1 H).1]
    unfold placesT
    simp only [BT.h, hg, nodeB_leaf, nodeB_keys]; rfl
  | succ d ih =>
    intro t q H
    obtain ⟨h, ks, ts⟩ := t
    have hg : (rget l h).1 = nodeB (d + 1) (.mk h ks ts) := by rw [atA_get (holds_mk.1 H).1]
    unfold placesT
    simp only [BT.h, hg, nodeB_leaf, nodeB_keys]
    rw [nodeB_kids, if_neg (by simp)]
    show _ = _ :: ts.flatMap fun c => placesB d c (q + 1)
    congr 1
    rw [List.flatMap_map]
    rw [List.flatMap_def, List.flatMap_def]
    congr 1
    exact List.map_congr_left fun s hs => ih ((holds_mk.1 H).2 s hs)
theorem places_len : ∀ {d : Nat} {t : BT} {q : Int}, (placesB d t q).length = (hsB d t).length := by
  intro d
  induction d with
  | zero => intro t q; rfl
  | succ d ih =>
    intro t q
    simp only [placesB, hsB, List.length_cons, List.length_flatMap]
    congr 2
    exact List.map_congr_left fun s hs => ih
theorem places_deep : ∀ {d : Nat} {t : BT} {q : Int} {p : TPl}, p ∈ placesB d t q → p.leaf = true → p.depth = q + d := by
  intro d
  induction d with
  | zero => intro t q p hp _; simp only [placesB, List.mem_singleton] at hp; subst hp; simp
  | succ d ih =>
    intro t q p hp hl
    simp only [placesB, List.mem_cons, List.mem_flatMap] at hp
    rcases hp with rfl | ⟨s, hs, hp⟩
    · cases hl
    · have := ih hp hl; omega
theorem places_keys : ∀ {d lo : Nat} {t : BT} {q : Int}, okB lo d t → ∃ p R, placesB d t q = p :: R ∧ lo ≤ p.keys.length ∧ p.keys.length ≤ 4 ∧ ∀ x, x ∈ R → 2 ≤ x.keys.length ∧ x.keys.length ≤ 4 := by
  intro d
  induction d with
  | zero =>
    intro lo t q ho
    obtain ⟨h, ks, ts⟩ := t
    obtain ⟨o1, o2, _⟩ := ok_mk.1 ho
    exact ⟨_, [], rfl, by simpa [BT.ks] using o1, by simpa [BT.ks] using o2, (fun _ h => by cases h)⟩
  | succ d ih =>
    intro lo t q ho
    obtain ⟨h, ks, ts⟩ := t
    obtain ⟨o1, o2, o3, o4⟩ := ok_mk.1 ho
    refine ⟨_, _, rfl, by simpa [BT.ks] using o1, by simpa [BT.ks] using o2, fun x hx => ?_⟩
    obtain ⟨s, hs, hx⟩ := List.mem_flatMap.1 hx
    obtain ⟨p, R, h1, h2, h3, h4⟩ := ih (q := q + 1) (o4 s hs)
    rw [h1] at hx
    rcases List.mem_cons.1 hx with rfl | hx
    · exact ⟨h2, h3⟩
    · exact h4 x hx
end
end Tp
set_option maxRecDepth 100000
namespace Go.Proofs
open Go Tp
theorem Tryz.en31 : Enters Tryz.prog 31 := fun _ _ => by kernel_rfl
theorem tab_new {G : Nat → Prop} {w : World}    (M : Mem G (fun _ => False) w [] [] w) : Rets Tryz.prog 10 #[] w fun r w' => ∃ (tb' : Nat) (ab' : Nat) (S' : Nat → Prop), r = (vP tb') ∧ Mem G (fun _ => False) w [bk tb' #[(vP ab'), (vI 0), (vI 0), (vB false), (vI 0)] 70, arenaC 107 112 S' ab' ([] : List RPlace)] [] w' := by
 refine Rets.enter 4 _ Tryz.func10 rfl Tryz.ntmps10 Tryz.results10 (by simp) ?_
 refine wR (wA vN (WL.nil (wR ?_)))
 refine WL.callX rfl (ar_new  (M.enterW0 trivial)) (CallsF.func Tryz.en31 rfl) ?_
 rintro _ w3 ⟨ab1, S2, rfl, m⟩
 replace M := M.leaveW0 m
 clear m
 refine wP (Value.agg #[(vP ab1), (vI 0), (vI 0), (vB false), (vI 0)]) ?_
 refine WL.box (v := (Value.agg #[(vP ab1), (vI 0), (vI 0), (vB false), (vI 0)])) (c := #[(vP ab1), (vI 0), (vI 0), (vB false), (vI 0)]) M rfl rfl rfl (fun b4 w5 hb4 M => ?_)
 refine wA (vP b4) (WL.nil ?_)
 refine W.ret ?_
 refine ⟨.inl rfl, (vP b4), ?_, ?_⟩
 · exact ⟨rfl, (Res.r1 (show RV _ _ _ (.tmp 0) (vP b4) from by exact rfl))⟩
 refine ⟨b4, ab1, S2, ?_, M.close [0, 1] rfl (by decide) trivial⟩
 rfl
theorem tab_len0 {G : Nat → Prop} {w : World}    (M : Mem G (fun _ => False) w [] [] w) : Rets Tryz.prog 19 #[vN] w fun r w' => r = (vI 0) ∧ Mem G (fun _ => False) w [] [] w' := by
 refine Rets.enter 9 _ Tryz.func19 rfl Tryz.ntmps19 Tryz.results19 (by simp) ?_
 refine wR (wA (vI 0) (WL.nil (W.seq' (wR (wM vN ?_)))))
 refine wP (vB true) (WL.nil ?_)
 refine W.cond (t := true) rfl (fun _ => ?_) (fun h => by cases h)
 refine wR (wA (vI 0) (WL.nil ?_))
 refine W.ret ?_
 refine ⟨.inl rfl, (vI 0), ?_, ?_⟩
 · exact ⟨rfl, (Res.r1 (show RV _ _ _ (.tmp 2) (vI 0) from by exact rfl))⟩
 refine ⟨?_, M.close [] rfl (by decide) trivial⟩
 rfl
theorem tab_len {G X : Nat → Prop} {w : World} (tb ab : Nat) (rt : Handle) (fu : Bool) (ln : Int) (l : List RPlace) (S : Nat → Prop)   (M : Mem G X w [bk tb #[(vP ab), (vI rt.at_), (vI rt.turn), (vB fu), (vI ln)] 70, arenaC 107 112 S ab l] [] w) : Rets Tryz.prog 19 #[(vP tb)] w fun r w' => r = (vI ln) ∧ Mem G X w [bk tb #[(vP ab), (vI rt.at_), (vI rt.turn), (vB fu), (vI ln)] 70, arenaC 107 112 S ab l] [] w' := by
 refine Rets.enter 9 _ Tryz.func19 rfl Tryz.ntmps19 Tryz.results19 (by simp) ?_
 refine wR (wA (vI 0) (WL.nil (W.seq' (wR (wM (vP tb) ?_)))))
 refine wP (vB false) (WL.nil ?_)
 refine W.cond (t := false) rfl (fun h => by cases h) (fun _ => ?_)
 refine W.skip (wR (wM (vP tb) (wP (vP tb) (wP (Value.pointer (some ⟨tb, 4, none⟩)) (wS (vI ln) rfl (Step.load1 Tryz.sc3 rfl ((M.cell 0 rfl 4).trans rfl)) ?_)))))
 refine wA (vI ln) (WL.nil ?_)
 refine W.ret ?_
 refine ⟨.inl rfl, (vI ln), ?_, ?_⟩
 · exact ⟨rfl, (Res.r1 (show RV _ _ _ (.tmp 2) (vI ln) from by exact rfl))⟩
 refine ⟨?_, M.close [0, 1] rfl (by decide) trivial⟩
 rfl
theorem tab_put0 {G : Nat → Prop} {w : World} (k : ByteArray) (v : Int)   (M : Mem G (fun _ => False) w [] [] w) : Rets Tryz.prog 22 #[vN, (vS k), (vI v)] w fun r w' => r = (Value.tuple #[(vI 0), (vB false)]) ∧ Mem G (fun _ => False) w [] [] w' := by
 refine Rets.enter 84 _ Tryz.func22 rfl Tryz.ntmps22 Tryz.results22 (by simp) ?_
 refine wR (wA (vI 0) (wA (vB false) (WL.nil (W.seq' (wR ?_)))))
 refine wM vN (wP (vB true) (WL.nil ?_))
 refine W.cond (t := true) rfl (fun _ => ?_) (fun h => by cases h)
 refine wR (wA (vI 0) (wA (vB false) (WL.nil ?_)))
 refine W.ret ?_
 refine ⟨.inl rfl, (Value.tuple #[(vI 0), (vB false)]), ?_, ?_⟩
 · exact ⟨rfl, (Res.r2 (show RV _ _ _ (.tmp 6) (vI 0) from by exact rfl) (show RV _ _ _ (.tmp 7) (vB false) from by exact rfl))⟩
 refine ⟨?_, M.close [] rfl (by decide) trivial⟩
 rfl
end Go.Proofs
set_option maxRecDepth 100000
namespace Go.Proofs
open Go Tp
theorem Tryz.el4 : Elem Tryz.prog 4 (vB false) 1 1 := Elem.mk (by kernel_rfl)
set_option maxHeartbeats 1000000 in
theorem tab_put {G X : Nat → Prop} {w : World} (tb ab : Nat) (rt : Handle) (fu : Bool) (ln : Int) (l : List RPlace) (S : Nat → Prop) (k : ByteArray) (v : Int)  (hA : SmallA l) (d : Nat) (hO : insOk d (put0 l rt fu).1 (put0 l rt fu).2 (⟨k, v⟩ : THit)) (hS : SmallA (insF d (put0 l rt fu).1 (put0 l rt fu).2 (⟨k, v⟩ : THit)).1) (hln : 0 ≤ ln ∧ ln ≤ 1000000) (M : Mem G X w [bk tb #[(vP ab), (vI rt.at_), (vI rt.turn), (vB fu), (vI ln)] 70, arenaC 107 112 S ab l] [] w) : Rets Tryz.prog 22 #[(vP tb), (vS k), (vI v)] w fun r w' => ∃ (S' : Nat → Prop), r = (Value.tuple #[(vI ((putT d l rt fu ln (⟨k, v⟩ : THit)).2.2.1)), (vB ((putT d l rt fu ln (⟨k, v⟩ : THit)).2.2.2))]) ∧ Mem G X w [bk tb #[(vP ab), (vI (((putT d l rt fu ln (⟨k, v⟩ : THit)).1.2).at_)), (vI (((putT d l rt fu ln (⟨k, v⟩ : THit)).1.2).turn)), (vB true), (vI ((putT d l rt fu ln (⟨k, v⟩ : THit)).2.1))] 70, arenaC 107 112 S' ab ((putT d l rt fu ln (⟨k, v⟩ : THit)).1.1)] [] w' := by
 refine Rets.enter 84 _ Tryz.func22 rfl Tryz.ntmps22 Tryz.results22 (by simp) ?_
 refine wR (wA (vI 0) (wA (vB false) (WL.nil (W.seq' (wR ?_)))))
 refine wM (vP tb) (wP (vB false) (WL.nil ?_))
 refine W.cond (t := false) rfl (fun h => by cases h) (fun _ => ?_)
 refine W.skip (W.seq' (wR (wM (vP tb) (wP (vP tb) (wP (Value.pointer (some ⟨tb, 3, none⟩)) ?_)))))
 refine wS (vB fu) rfl (Step.load1 Tryz.sc4 rfl ((M.cell 0 rfl 3).trans rfl)) (wP (vB !fu) (WL.nil ?_))
 refine W.cond (t := !fu) rfl (fun h1 => ?_) (fun h1 => ?_)
 ·
  refine W.region rfl (wM (vP tb) (wM (vP tb) (wM (vP tb) (wP (vP tb) (wP (vP tb) ?_)))))
  refine wS (vP ab) rfl (Step.load1 Tryz.sc65 rfl ((M.cell 0 rfl 0).trans rfl)) (wP (Value.agg #[(vB true), vZ, vZ, vZ]) ?_)
  have fq := M.frm [arenaC 107 112 S ab l] [bk tb #[(vP ab), (vI rt.at_), (vI rt.turn), (vB fu), (vI ln)] 70] [1, 0] rfl
  refine WL.callX rfl (ar_make ab l S vZ vZ vZ (⟨true, ([] : List ByteArray), ([] : List Handle), ([] : List Int)⟩ : Nd) (by assumption) (by simp [insL] <;> omega) (by simp [insL] <;> omega) (by simp [insL] <;> omega) (M.eF fq ⟨(Sh.pure fun w => SlAt.nil 1 w), (Sh.pure fun w => SlAt.nil 2 w), (Sh.pure fun w => SlAt.nil 1 w), trivial⟩)) (CallsF.func Tryz.en49 rfl) ?_
  rintro _ w3 ⟨S2, rfl, m⟩
  replace M := M.lF fq m
  clear m
  refine wP (vP tb) (wP (Value.pointer (some ⟨tb, 1, none⟩)) ?_)
  refine WL.store (v := (Value.agg #[(vI (((rmake l (⟨true, ([] : List ByteArray), ([] : List Handle), ([] : List Int)⟩ : Nd)).2).at_)), (vI (((rmake l (⟨true, ([] : List ByteArray), ([] : List Handle), ([] : List Int)⟩ : Nd)).2).turn))])) (cs := [(vI (((rmake l (⟨true, ([] : List ByteArray), ([] : List Handle), ([] : List Int)⟩ : Nd)).2).at_)), (vI (((rmake l (⟨true, ([] : List ByteArray), ([] : List Handle), ([] : List Int)⟩ : Nd)).2).turn))]) (c' := #[(vP ab), (vI (((rmake l (⟨true, ([] : List ByteArray), ([] : List Handle), ([] : List Int)⟩ : Nd)).2).at_)), (vI (((rmake l (⟨true, ([] : List ByteArray), ([] : List Handle), ([] : List Int)⟩ : Nd)).2).turn)), (vB fu), (vI ln)]) M 1 rfl rfl Tryz.el68.sized rfl rfl rfl rfl (Nat.le_of_ble_eq_true rfl) (cel_cons rfl (cel_cons rfl cel_nil)) rfl rfl (fun w4 M => ?_)
  refine wP (vP tb) (wP (Value.pointer (some ⟨tb, 3, none⟩)) ?_)
  refine WL.store (v := (vB true)) (cs := [(vB true)]) (c' := #[(vP ab), (vI (((rmake l (⟨true, ([] : List ByteArray), ([] : List Handle), ([] : List Int)⟩ : Nd)).2).at_)), (vI (((rmake l (⟨true, ([] : List ByteArray), ([] : List Handle), ([] : List Int)⟩ : Nd)).2).turn)), (vB true), (vI ln)]) M 1 rfl rfl Tryz.el4.sized rfl rfl rfl rfl (Nat.le_of_ble_eq_true rfl) (cel_cons rfl cel_nil) rfl rfl (fun w5 M => ?_)
  refine WL.nil (W.seq' ?_)
  replace M := M.rechunk 1 (c' := bk tb #[(vP ab), (vI ((put0 l rt fu).2.at_)), (vI ((put0 l rt fu).2.turn)), (vB true), (vI ln)] 70) rfl (by simp [put0, (by simpa using h1)])
  replace M := M.rechunk 0 (c' := arenaC 107 112 S2 ab ((put0 l rt fu).1)) rfl (by simp [put0, (by simpa using h1)])
  have hA0_ : SmallA (put0 l rt fu).1 := (insOk_node hO rfl).small
  refine W.region rfl (wM (vP tb) (wM (vP tb) (wP (vP tb) (wP (Value.pointer (some ⟨tb, 1, none⟩)) (wS (Value.agg #[(vI ((put0 l rt fu).2.at_)), (vI ((put0 l rt fu).2.turn))]) rfl (Step.loadN Tryz.ag68 rfl (M.blk 1 rfl) (Nat.le_of_ble_eq_true rfl) rfl) ?_)))))
  refine wM (vS k) (wM (vI v) (wP (Value.agg #[(vS k), (vI v)]) ?_))
  have fq := M.frm [arenaC 107 112 S2 ab ((put0 l rt fu).1)] [bk tb #[(vP ab), (vI ((put0 l rt fu).2.at_)), (vI ((put0 l rt fu).2.turn)), (vB true), (vI ln)] 70] [0, 1] rfl
  refine WL.callX rfl (tr_insert d tb ab ((put0 l rt fu).2) true ln ((put0 l rt fu).1) S2 ((put0 l rt fu).2) (⟨k, v⟩ : THit) (by assumption) (M.eF fq ⟨(M.cF fq 0 rfl), trivial⟩)) (CallsF.func Tryz.en50 rfl) ?_
  rintro _ w8 ⟨u6, S7, rfl, m⟩
  replace M := M.lF fq m
  clear m
  refine wM (Value.tuple #[(vI ((insF d ((put0 l rt fu).1) ((put0 l rt fu).2) (⟨k, v⟩ : THit)).2.1.1)), (vB ((insF d ((put0 l rt fu).1) ((put0 l rt fu).2) (⟨k, v⟩ : THit)).2.1.2)), u6]) (wP (vI ((insF d ((put0 l rt fu).1) ((put0 l rt fu).2) (⟨k, v⟩ : THit)).2.1.1)) (wP (vB ((insF d ((put0 l rt fu).1) ((put0 l rt fu).2) (⟨k, v⟩ : THit)).2.1.2)) (wP u6 (wA (vI ((insF d ((put0 l rt fu).1) ((put0 l rt fu).2) (⟨k, v⟩ : THit)).2.1.1)) (wA (vB ((insF d ((put0 l rt fu).1) ((put0 l rt fu).2) (⟨k, v⟩ : THit)).2.1.2)) ?_)))))
  refine wA u6 (WL.nil (W.seq' (W.seq' ?_)))
  rcases ho_ : (insF d ((put0 l rt fu).1) ((put0 l rt fu).2) (⟨k, v⟩ : THit)).2.2 with _ | u_
  ·
   rw [ho_] at M
   obtain rfl := M.upNone 1 rfl
   replace M := M.sel (L' := [arenaC 107 112 S7 ab ((insF d ((put0 l rt fu).1) ((put0 l rt fu).2) (⟨k, v⟩ : THit)).1), bk tb #[(vP ab), (vI ((put0 l rt fu).2.at_)), (vI ((put0 l rt fu).2.turn)), (vB true), (vI ln)] 70]) [0, 2] rfl (by decide)
   refine W.region rfl (wM vN (wP (vB false) (WL.nil ?_)))
   refine W.cond (t := false) rfl (fun h => by cases h) (fun _ => ?_)
   refine W.skip (W.seq' (wR (wM (vB ((insF d ((put0 l rt fu).1) ((put0 l rt fu).2) (⟨k, v⟩ : THit)).2.1.2)) (wP (vB (!((insF d ((put0 l rt fu).1) ((put0 l rt fu).2) (⟨k, v⟩ : THit)).2.1.2))) (WL.nil ?_)))))
   refine W.cond (t := !((insF d ((put0 l rt fu).1) ((put0 l rt fu).2) (⟨k, v⟩ : THit)).2.1.2)) rfl (fun h10 => ?_) (fun h10 => ?_)
   ·
    refine W.region rfl (wM (vP tb) (wP (vP tb) (wP (Value.pointer (some ⟨tb, 4, none⟩)) (wS (vI ln) rfl (Step.load1 Tryz.sc3 rfl ((M.cell 1 rfl 4).trans rfl)) (wS (vI (ln + 1)) rfl (Step.add rfl rfl (wrap_i64 (by omega))) ?_)))))
    refine wP (vP tb) (wP (Value.pointer (some ⟨tb, 4, none⟩)) ?_)
    refine WL.store (v := (vI (ln + 1))) (cs := [(vI (ln + 1))]) (c' := #[(vP ab), (vI ((put0 l rt fu).2.at_)), (vI ((put0 l rt fu).2.turn)), (vB true), (vI (ln + 1))]) M 1 rfl rfl Tryz.el3.sized rfl rfl rfl rfl (Nat.le_of_ble_eq_true rfl) (cel_cons rfl cel_nil) rfl rfl (fun w11 M => ?_)
    refine WL.nil (wR (wM (vI ((insF d ((put0 l rt fu).1) ((put0 l rt fu).2) (⟨k, v⟩ : THit)).2.1.1)) (wS (vB false) rfl (Step.cast (congrArg Value.bool (show ((insF d ((put0 l rt fu).1) ((put0 l rt fu).2) (⟨k, v⟩ : THit)).2.1.2) = false by simpa using h10)) (Step.move rfl)) (wA (vI ((insF d ((put0 l rt fu).1) ((put0 l rt fu).2) (⟨k, v⟩ : THit)).2.1.1)) (wA (vB false) ?_)))))
    refine WL.nil ?_
    refine W.ret ?_
    refine ⟨.inl rfl, (Value.tuple #[(vI ((insF d ((put0 l rt fu).1) ((put0 l rt fu).2) (⟨k, v⟩ : THit)).2.1.1)), (vB false)]), ?_, ?_⟩
    · exact ⟨rfl, (Res.r2 (show RV _ _ _ (.tmp 6) (vI ((insF d ((put0 l rt fu).1) ((put0 l rt fu).2) (⟨k, v⟩ : THit)).2.1.1)) from by exact rfl) (show RV _ _ _ (.tmp 7) (vB false) from by exact rfl))⟩
    have e12 : (bk tb #[(vP ab), (vI (((putT d l rt fu ln (⟨k, v⟩ : THit)).1.2).at_)), (vI (((putT d l rt fu ln (⟨k, v⟩ : THit)).1.2).turn)), (vB true), (vI ((putT d l rt fu ln (⟨k, v⟩ : THit)).2.1))] 70 : Chunk) = (bk tb #[(vP ab), (vI ((put0 l rt fu).2.at_)), (vI ((put0 l rt fu).2.turn)), (vB true), (vI (ln + 1))] 70 : Chunk) := by
     have hth_ : (insF d (put0 l rt fu).1 (put0 l rt fu).2 (⟨k, v⟩ : THit)).2.1.2 = false := by simpa using h10
     unfold putT putU; simp only [ho_]
     try simp [hth_]
    replace M := M.rechunk 1 (c' := bk tb #[(vP ab), (vI (((putT d l rt fu ln (⟨k, v⟩ : THit)).1.2).at_)), (vI (((putT d l rt fu ln (⟨k, v⟩ : THit)).1.2).turn)), (vB true), (vI ((putT d l rt fu ln (⟨k, v⟩ : THit)).2.1))] 70) rfl e12.symm
    have e13 : (putT d l rt fu ln (⟨k, v⟩ : THit)).1.1 = (insF d ((put0 l rt fu).1) ((put0 l rt fu).2) (⟨k, v⟩ : THit)).1 := by
     have hth_ : (insF d (put0 l rt fu).1 (put0 l rt fu).2 (⟨k, v⟩ : THit)).2.1.2 = false := by simpa using h10
     unfold putT putU; simp only [ho_]
     try simp [hth_]
    replace M := M.rechunk 0 (c' := arenaC 107 112 S7 ab ((putT d l rt fu ln (⟨k, v⟩ : THit)).1.1)) rfl (congrArg (fun z => arenaC 107 112 S7 ab z) e13.symm)
    refine ⟨S7, ?_, M.close [1, 0] rfl (by decide) trivial⟩
    have hth_ : (insF d (put0 l rt fu).1 (put0 l rt fu).2 (⟨k, v⟩ : THit)).2.1.2 = false := by simpa using h10
    unfold putT putU; simp only [ho_]
    try simp [hth_]
   ·
    refine W.skip (wR (wM (vI ((insF d ((put0 l rt fu).1) ((put0 l rt fu).2) (⟨k, v⟩ : THit)).2.1.1)) (wS (vB true) rfl (Step.cast (congrArg Value.bool (show ((insF d ((put0 l rt fu).1) ((put0 l rt fu).2) (⟨k, v⟩ : THit)).2.1.2) = true by simpa using h10)) (Step.move rfl)) (wA (vI ((insF d ((put0 l rt fu).1) ((put0 l rt fu).2) (⟨k, v⟩ : THit)).2.1.1)) (wA (vB true) ?_)))))
    refine WL.nil ?_
    refine W.ret ?_
    refine ⟨.inl rfl, (Value.tuple #[(vI ((insF d ((put0 l rt fu).1) ((put0 l rt fu).2) (⟨k, v⟩ : THit)).2.1.1)), (vB true)]), ?_, ?_⟩
    · exact ⟨rfl, (Res.r2 (show RV _ _ _ (.tmp 6) (vI ((insF d ((put0 l rt fu).1) ((put0 l rt fu).2) (⟨k, v⟩ : THit)).2.1.1)) from by exact rfl) (show RV _ _ _ (.tmp 7) (vB true) from by exact rfl))⟩
    have e14 : (bk tb #[(vP ab), (vI (((putT d l rt fu ln (⟨k, v⟩ : THit)).1.2).at_)), (vI (((putT d l rt fu ln (⟨k, v⟩ : THit)).1.2).turn)), (vB true), (vI ((putT d l rt fu ln (⟨k, v⟩ : THit)).2.1))] 70 : Chunk) = (bk tb #[(vP ab), (vI ((put0 l rt fu).2.at_)), (vI ((put0 l rt fu).2.turn)), (vB true), (vI ln)] 70 : Chunk) := by
     have hth_ : (insF d (put0 l rt fu).1 (put0 l rt fu).2 (⟨k, v⟩ : THit)).2.1.2 = true := by simpa using h10
     unfold putT putU; simp only [ho_]
     try simp [hth_]
    replace M := M.rechunk 1 (c' := bk tb #[(vP ab), (vI (((putT d l rt fu ln (⟨k, v⟩ : THit)).1.2).at_)), (vI (((putT d l rt fu ln (⟨k, v⟩ : THit)).1.2).turn)), (vB true), (vI ((putT d l rt fu ln (⟨k, v⟩ : THit)).2.1))] 70) rfl e14.symm
    have e15 : (putT d l rt fu ln (⟨k, v⟩ : THit)).1.1 = (insF d ((put0 l rt fu).1) ((put0 l rt fu).2) (⟨k, v⟩ : THit)).1 := by
     have hth_ : (insF d (put0 l rt fu).1 (put0 l rt fu).2 (⟨k, v⟩ : THit)).2.1.2 = true := by simpa using h10
     unfold putT putU; simp only [ho_]
     try simp [hth_]
    replace M := M.rechunk 0 (c' := arenaC 107 112 S7 ab ((putT d l rt fu ln (⟨k, v⟩ : THit)).1.1)) rfl (congrArg (fun z => arenaC 107 112 S7 ab z) e15.symm)
    refine ⟨S7, ?_, M.close [1, 0] rfl (by decide) trivial⟩
    have hth_ : (insF d (put0 l rt fu).1 (put0 l rt fu).2 (⟨k, v⟩ : THit)).2.1.2 = true := by simpa using h10
    unfold putT putU; simp only [ho_]
    try simp [hth_]
  ·
   rw [ho_] at M
   obtain ⟨b9, rfl, M⟩ := M.upSome 1 rfl
   refine W.region rfl (wM (vP b9) (wP (vB true) (WL.nil ?_)))
   refine W.cond (t := true) rfl (fun _ => ?_) (fun h => by cases h)
   refine W.drawn2 M [0, 1, 2, 3, 4, 5, 6, 7, 8, 9, 11, 12, 13, 14, 15, 17, 18, 19, 20, 21, 22, 23, 24, 10, 16, 25, 26, 27] [28, 29, 30] [27, 30] [10, 16, 25] _ _ (sN (sY (sY sE))) (fun _ h => h) Tryz.mixed (by kernel_rfl) ?_
   refine tP (vP tb) rfl (fun w => (Step.move rfl)) ?_
   refine tP (vP tb) rfl (fun w => (Step.move rfl)) ?_
   refine tP (vP tb) rfl (fun w => sP) ?_
   refine tP (vP tb) rfl (fun w => sP) ?_
   refine tR (vP ab) rfl (fun A w M => (Step.load1 Tryz.sc65 rfl ((M.cell 2 rfl 0).trans rfl))) ?_
   refine tP (vP b9) rfl (fun w => (Step.move rfl)) ?_
   refine tP (vP b9) rfl (fun w => sP) ?_
   refine tP (vP b9) rfl (fun w => sP) ?_
   refine tP (vP b9) rfl (fun w => sP) ?_
   refine tR (vS u_.1.key) rfl (fun A w M => (Step.load1 Tryz.sc9 rfl ((M.cell 1 rfl 0).trans rfl))) ?_
   refine tP (vP b9) rfl (fun w => (Step.move rfl)) ?_
   refine tP (vP b9) rfl (fun w => sP) ?_
   refine tP (vP b9) rfl (fun w => sP) ?_
   refine tP (Value.pointer (some ⟨b9, 1, none⟩)) rfl (fun w => sP) ?_
   refine tR (vI u_.1.val) rfl (fun A w M => (Step.load1 Tryz.sc3 rfl ((M.cell 1 rfl 1).trans rfl))) ?_
   refine tP (vP tb) rfl (fun w => (Step.move rfl)) ?_
   refine tP (vP tb) rfl (fun w => sP) ?_
   refine tP (Value.pointer (some ⟨tb, 1, none⟩)) rfl (fun w => sP) ?_
   refine tR (Value.agg #[(vI ((put0 l rt fu).2.at_)), (vI ((put0 l rt fu).2.turn))]) rfl (fun A w M => (Step.loadN Tryz.ag68 rfl (M.blk 2 rfl) (Nat.le_of_ble_eq_true rfl) rfl)) ?_
   refine tP (vP b9) rfl (fun w => (Step.move rfl)) ?_
   refine tP (vP b9) rfl (fun w => sP) ?_
   refine tP (Value.pointer (some ⟨b9, 2, none⟩)) rfl (fun w => sP) ?_
   refine tR (Value.agg #[(vI u_.2.at_), (vI u_.2.turn)]) rfl (fun A w M => (Step.loadN Tryz.ag68 rfl (M.blk 1 rfl) (Nat.le_of_ble_eq_true rfl) rfl)) ?_
   refine TW.new (obj := .cells #[(vS u_.1.key)] 9) (fun b => .slice (some ⟨b, 0, none⟩) 1 1) rfl (by decide) (by decide) rfl (fun w => Step.make (by kernel_rfl)) (fun b46 => ?_)
   refine TW.new (obj := .cells #[(vI u_.1.val)] 3) (fun b => .slice (some ⟨b, 0, none⟩) 1 1) rfl (by decide) (by decide) rfl (fun w => Step.make (by kernel_rfl)) (fun b47 => ?_)
   refine TW.new (obj := .cells #[(vI ((put0 l rt fu).2.at_)), (vI ((put0 l rt fu).2.turn)), (vI u_.2.at_), (vI u_.2.turn)] 68) (fun b => .slice (some ⟨b, 0, none⟩) 2 2) rfl (by decide) (by decide) rfl (fun w => Step.make (by kernel_rfl)) (fun b48 => ?_)
   refine tP (Value.agg #[(vB false), (Value.slice (some ⟨b46, 0, none⟩) 1 1), (Value.slice (some ⟨b48, 0, none⟩) 2 2), (Value.slice (some ⟨b47, 0, none⟩) 1 1)]) rfl (fun w => sP) ?_
   let Q : List Chunk := [bk b48 #[(vI ((put0 l rt fu).2.at_)), (vI ((put0 l rt fu).2.turn)), (vI u_.2.at_), (vI u_.2.turn)] 68, bk b47 #[(vI u_.1.val)] 3, bk b46 #[(vS u_.1.key)] 9, bk b9 #[(vS u_.1.key), (vI u_.1.val), (vI u_.2.at_), (vI u_.2.turn)] 98, bk tb #[(vP ab), (vI ((put0 l rt fu).2.at_)), (vI ((put0 l rt fu).2.turn)), (vB true), (vI ln)] 70]
   refine TW.callX (ι := (Nat → Prop)) (fun jx v_ => v_ = (Value.agg #[(vI (((rmake ((insF d ((put0 l rt fu).1) ((put0 l rt fu).2) (⟨k, v⟩ : THit)).1) (⟨false, ([u_.1.key] : List ByteArray), ([(put0 l rt fu).2, u_.2] : List Handle), ([u_.1.val] : List Int)⟩ : Nd)).2).at_)), (vI (((rmake ((insF d ((put0 l rt fu).1) ((put0 l rt fu).2) (⟨k, v⟩ : THit)).1) (⟨false, ([u_.1.key] : List ByteArray), ([(put0 l rt fu).2, u_.2] : List Handle), ([u_.1.val] : List Int)⟩ : Nd)).2).turn))])) (fun jx => arenaC 107 112 jx ab ((rmake ((insF d ((put0 l rt fu).1) ((put0 l rt fu).2) (⟨k, v⟩ : THit)).1) (⟨false, ([u_.1.key] : List ByteArray), ([(put0 l rt fu).2, u_.2] : List Handle), ([u_.1.val] : List Int)⟩ : Nd)).1) :: Q) (fun jx => []) rfl (by decide) rfl (fun jx => (sN (sN (sN (sN (sY (sY sE))))))) (fun jx r h => h) (fun A w M => have fq := M.frm [arenaC 107 112 S7 ab ((insF d ((put0 l rt fu).1) ((put0 l rt fu).2) (⟨k, v⟩ : THit)).1)] (fl A :: Q) [4, 0, 1, 2, 3, 5, 6] rfl; Rets.mono (ar_make ab ((insF d ((put0 l rt fu).1) ((put0 l rt fu).2) (⟨k, v⟩ : THit)).1) S7 (Value.slice (some ⟨b46, 0, none⟩) 1 1) (Value.slice (some ⟨b48, 0, none⟩) 2 2) (Value.slice (some ⟨b47, 0, none⟩) 1 1) (⟨false, ([u_.1.key] : List ByteArray), ([(put0 l rt fu).2, u_.2] : List Handle), ([u_.1.val] : List Int)⟩ : Nd) (by first | assumption | exact smallA_of rfl) (by simp [insL] <;> omega) (by simp [insL] <;> omega) (by simp [insL] <;> omega) (M.eF fq ⟨((M.cF fq 3 rfl).imp fun _ h => SlAt.of_blk (n := 1) (size := 1) h rfl (by decide)), ((M.cF fq 1 rfl).imp fun _ h => SlAt.of_blk (n := 2) (size := 2) h rfl (by decide)), ((M.cF fq 2 rfl).imp fun _ h => SlAt.of_blk (n := 1) (size := 1) h rfl (by decide)), trivial⟩)) (fun v_ w_ ⟨S49, e_, m⟩ => ⟨S49, e_, (M.lF fq m).sel [1, 0, 2, 3, 4, 5, 6] rfl (by decide), fun b hb => M.kF fq m b hb⟩)) (fun w => CallsF.func Tryz.en49 rfl) (fun S49 v hp hin => ?_)
   replace hp := hp.symm; subst hp
   obtain ⟨_, _, hin⟩ := hin
   clear hin
   refine TW.turn _ _ (sY (sY (sY (sY (sY (sN sE)))))) (fun _ h => h) ?_
   refine tP (vP tb) rfl (fun w => sP) ?_
   refine tP (Value.pointer (some ⟨tb, 1, none⟩)) rfl (fun w => sP) ?_
   refine TW.store (v := (Value.agg #[(vI (((rmake ((insF d ((put0 l rt fu).1) ((put0 l rt fu).2) (⟨k, v⟩ : THit)).1) (⟨false, ([u_.1.key] : List ByteArray), ([(put0 l rt fu).2, u_.2] : List Handle), ([u_.1.val] : List Int)⟩ : Nd)).2).at_)), (vI (((rmake ((insF d ((put0 l rt fu).1) ((put0 l rt fu).2) (⟨k, v⟩ : THit)).1) (⟨false, ([u_.1.key] : List ByteArray), ([(put0 l rt fu).2, u_.2] : List Handle), ([u_.1.val] : List Int)⟩ : Nd)).2).turn))])) (cs := [(vI (((rmake ((insF d ((put0 l rt fu).1) ((put0 l rt fu).2) (⟨k, v⟩ : THit)).1) (⟨false, ([u_.1.key] : List ByteArray), ([(put0 l rt fu).2, u_.2] : List Handle), ([u_.1.val] : List Int)⟩ : Nd)).2).at_)), (vI (((rmake ((insF d ((put0 l rt fu).1) ((put0 l rt fu).2) (⟨k, v⟩ : THit)).1) (⟨false, ([u_.1.key] : List ByteArray), ([(put0 l rt fu).2, u_.2] : List Handle), ([u_.1.val] : List Int)⟩ : Nd)).2).turn))]) (c' := #[(vP ab), (vI (((rmake ((insF d ((put0 l rt fu).1) ((put0 l rt fu).2) (⟨k, v⟩ : THit)).1) (⟨false, ([u_.1.key] : List ByteArray), ([(put0 l rt fu).2, u_.2] : List Handle), ([u_.1.val] : List Int)⟩ : Nd)).2).at_)), (vI (((rmake ((insF d ((put0 l rt fu).1) ((put0 l rt fu).2) (⟨k, v⟩ : THit)).1) (⟨false, ([u_.1.key] : List ByteArray), ([(put0 l rt fu).2, u_.2] : List Handle), ([u_.1.val] : List Int)⟩ : Nd)).2).turn)), (vB true), (vI ln)]) 5 rfl rfl (by decide) rfl Tryz.el68.sized rfl rfl rfl rfl (Nat.le_of_ble_eq_true rfl) (cel_cons rfl (cel_cons rfl cel_nil)) rfl rfl (sY (sY (sY (sY (sY (sN sE)))))) (fun r h => h) ?_
   refine TW.done (fun w51 M => ?_)
   refine W.seq' (wR (wM (vB ((insF d ((put0 l rt fu).1) ((put0 l rt fu).2) (⟨k, v⟩ : THit)).2.1.2)) (wP (vB (!((insF d ((put0 l rt fu).1) ((put0 l rt fu).2) (⟨k, v⟩ : THit)).2.1.2))) (WL.nil ?_))))
   refine W.cond (t := !((insF d ((put0 l rt fu).1) ((put0 l rt fu).2) (⟨k, v⟩ : THit)).2.1.2)) rfl (fun h52 => ?_) (fun h52 => ?_)
   ·
    refine W.region rfl (wM (vP tb) (wP (vP tb) (wP (Value.pointer (some ⟨tb, 4, none⟩)) (wS (vI ln) rfl (Step.load1 Tryz.sc3 rfl ((M.cell 5 rfl 4).trans rfl)) (wS (vI (ln + 1)) rfl (Step.add rfl rfl (wrap_i64 (by omega))) ?_)))))
    refine wP (vP tb) (wP (Value.pointer (some ⟨tb, 4, none⟩)) ?_)
    refine WL.store (v := (vI (ln + 1))) (cs := [(vI (ln + 1))]) (c' := #[(vP ab), (vI (((rmake ((insF d ((put0 l rt fu).1) ((put0 l rt fu).2) (⟨k, v⟩ : THit)).1) (⟨false, ([u_.1.key] : List ByteArray), ([(put0 l rt fu).2, u_.2] : List Handle), ([u_.1.val] : List Int)⟩ : Nd)).2).at_)), (vI (((rmake ((insF d ((put0 l rt fu).1) ((put0 l rt fu).2) (⟨k, v⟩ : THit)).1) (⟨false, ([u_.1.key] : List ByteArray), ([(put0 l rt fu).2, u_.2] : List Handle), ([u_.1.val] : List Int)⟩ : Nd)).2).turn)), (vB true), (vI (ln + 1))]) M 5 rfl rfl Tryz.el3.sized rfl rfl rfl rfl (Nat.le_of_ble_eq_true rfl) (cel_cons rfl cel_nil) rfl rfl (fun w53 M => ?_)
    refine WL.nil (wR (wM (vI ((insF d ((put0 l rt fu).1) ((put0 l rt fu).2) (⟨k, v⟩ : THit)).2.1.1)) (wS (vB false) rfl (Step.cast (congrArg Value.bool (show ((insF d ((put0 l rt fu).1) ((put0 l rt fu).2) (⟨k, v⟩ : THit)).2.1.2) = false by simpa using h52)) (Step.move rfl)) (wA (vI ((insF d ((put0 l rt fu).1) ((put0 l rt fu).2) (⟨k, v⟩ : THit)).2.1.1)) (wA (vB false) ?_)))))
    refine WL.nil ?_
    refine W.ret ?_
    refine ⟨.inl rfl, (Value.tuple #[(vI ((insF d ((put0 l rt fu).1) ((put0 l rt fu).2) (⟨k, v⟩ : THit)).2.1.1)), (vB false)]), ?_, ?_⟩
    · exact ⟨rfl, (Res.r2 (show RV _ _ _ (.tmp 6) (vI ((insF d ((put0 l rt fu).1) ((put0 l rt fu).2) (⟨k, v⟩ : THit)).2.1.1)) from by exact rfl) (show RV _ _ _ (.tmp 7) (vB false) from by exact rfl))⟩
    have e54 : (bk tb #[(vP ab), (vI (((putT d l rt fu ln (⟨k, v⟩ : THit)).1.2).at_)), (vI (((putT d l rt fu ln (⟨k, v⟩ : THit)).1.2).turn)), (vB true), (vI ((putT d l rt fu ln (⟨k, v⟩ : THit)).2.1))] 70 : Chunk) = (bk tb #[(vP ab), (vI (((rmake ((insF d ((put0 l rt fu).1) ((put0 l rt fu).2) (⟨k, v⟩ : THit)).1) (⟨false, ([u_.1.key] : List ByteArray), ([(put0 l rt fu).2, u_.2] : List Handle), ([u_.1.val] : List Int)⟩ : Nd)).2).at_)), (vI (((rmake ((insF d ((put0 l rt fu).1) ((put0 l rt fu).2) (⟨k, v⟩ : THit)).1) (⟨false, ([u_.1.key] : List ByteArray), ([(put0 l rt fu).2, u_.2] : List Handle), ([u_.1.val] : List Int)⟩ : Nd)).2).turn)), (vB true), (vI (ln + 1))] 70 : Chunk) := by
     have hth_ : (insF d (put0 l rt fu).1 (put0 l rt fu).2 (⟨k, v⟩ : THit)).2.1.2 = false := by simpa using h52
     unfold putT putU; simp only [ho_]
     try simp [hth_]
    replace M := M.rechunk 5 (c' := bk tb #[(vP ab), (vI (((putT d l rt fu ln (⟨k, v⟩ : THit)).1.2).at_)), (vI (((putT d l rt fu ln (⟨k, v⟩ : THit)).1.2).turn)), (vB true), (vI ((putT d l rt fu ln (⟨k, v⟩ : THit)).2.1))] 70) rfl e54.symm
    have e55 : (putT d l rt fu ln (⟨k, v⟩ : THit)).1.1 = (rmake ((insF d ((put0 l rt fu).1) ((put0 l rt fu).2) (⟨k, v⟩ : THit)).1) (⟨false, ([u_.1.key] : List ByteArray), ([(put0 l rt fu).2, u_.2] : List Handle), ([u_.1.val] : List Int)⟩ : Nd)).1 := by
     have hth_ : (insF d (put0 l rt fu).1 (put0 l rt fu).2 (⟨k, v⟩ : THit)).2.1.2 = false := by simpa using h52
     unfold putT putU; simp only [ho_]
     try simp [hth_]
    replace M := M.rechunk 0 (c' := arenaC 107 112 S49 ab ((putT d l rt fu ln (⟨k, v⟩ : THit)).1.1)) rfl (congrArg (fun z => arenaC 107 112 S49 ab z) e55.symm)
    refine ⟨S49, ?_, M.close [5, 0] rfl (by decide) trivial⟩
    have hth_ : (insF d (put0 l rt fu).1 (put0 l rt fu).2 (⟨k, v⟩ : THit)).2.1.2 = false := by simpa using h52
    unfold putT putU; simp only [ho_]
    try simp [hth_]
   ·
    refine W.skip (wR (wM (vI ((insF d ((put0 l rt fu).1) ((put0 l rt fu).2) (⟨k, v⟩ : THit)).2.1.1)) (wS (vB true) rfl (Step.cast (congrArg Value.bool (show ((insF d ((put0 l rt fu).1) ((put0 l rt fu).2) (⟨k, v⟩ : THit)).2.1.2) = true by simpa using h52)) (Step.move rfl)) (wA (vI ((insF d ((put0 l rt fu).1) ((put0 l rt fu).2) (⟨k, v⟩ : THit)).2.1.1)) (wA (vB true) ?_)))))
    refine WL.nil ?_
    refine W.ret ?_
    refine ⟨.inl rfl, (Value.tuple #[(vI ((insF d ((put0 l rt fu).1) ((put0 l rt fu).2) (⟨k, v⟩ : THit)).2.1.1)), (vB true)]), ?_, ?_⟩
    · exact ⟨rfl, (Res.r2 (show RV _ _ _ (.tmp 6) (vI ((insF d ((put0 l rt fu).1) ((put0 l rt fu).2) (⟨k, v⟩ : THit)).2.1.1)) from by exact rfl) (show RV _ _ _ (.tmp 7) (vB true) from by exact rfl))⟩
    have e56 : (bk tb #[(vP ab), (vI (((putT d l rt fu ln (⟨k, v⟩ : THit)).1.2).at_)), (vI (((putT d l rt fu ln (⟨k, v⟩ : THit)).1.2).turn)), (vB true), (vI ((putT d l rt fu ln (⟨k, v⟩ : THit)).2.1))] 70 : Chunk) = (bk tb #[(vP ab), (vI (((rmake ((insF d ((put0 l rt fu).1) ((put0 l rt fu).2) (⟨k, v⟩ : THit)).1) (⟨false, ([u_.1.key] : List ByteArray), ([(put0 l rt fu).2, u_.2] : List Handle), ([u_.1.val] : List Int)⟩ : Nd)).2).at_)), (vI (((rmake ((insF d ((put0 l rt fu).1) ((put0 l rt fu).2) (⟨k, v⟩ : THit)).1) (⟨false, ([u_.1.key] : List ByteArray), ([(put0 l rt fu).2, u_.2] : List Handle), ([u_.1.val] : List Int)⟩ : Nd)).2).turn)), (vB true), (vI ln)] 70 : Chunk) := by
     have hth_ : (insF d (put0 l rt fu).1 (put0 l rt fu).2 (⟨k, v⟩ : THit)).2.1.2 = true := by simpa using h52
     unfold putT putU; simp only [ho_]
     try simp [hth_]
    replace M := M.rechunk 5 (c' := bk tb #[(vP ab), (vI (((putT d l rt fu ln (⟨k, v⟩ : THit)).1.2).at_)), (vI (((putT d l rt fu ln (⟨k, v⟩ : THit)).1.2).turn)), (vB true), (vI ((putT d l rt fu ln (⟨k, v⟩ : THit)).2.1))] 70) rfl e56.symm
    have e57 : (putT d l rt fu ln (⟨k, v⟩ : THit)).1.1 = (rmake ((insF d ((put0 l rt fu).1) ((put0 l rt fu).2) (⟨k, v⟩ : THit)).1) (⟨false, ([u_.1.key] : List ByteArray), ([(put0 l rt fu).2, u_.2] : List Handle), ([u_.1.val] : List Int)⟩ : Nd)).1 := by
     have hth_ : (insF d (put0 l rt fu).1 (put0 l rt fu).2 (⟨k, v⟩ : THit)).2.1.2 = true := by simpa using h52
     unfold putT putU; simp only [ho_]
     try simp [hth_]
    replace M := M.rechunk 0 (c' := arenaC 107 112 S49 ab ((putT d l rt fu ln (⟨k, v⟩ : THit)).1.1)) rfl (congrArg (fun z => arenaC 107 112 S49 ab z) e57.symm)
    refine ⟨S49, ?_, M.close [5, 0] rfl (by decide) trivial⟩
    have hth_ : (insF d (put0 l rt fu).1 (put0 l rt fu).2 (⟨k, v⟩ : THit)).2.1.2 = true := by simpa using h52
    unfold putT putU; simp only [ho_]
    try simp [hth_]
 ·
  refine W.skip (W.seq' ?_)
  replace M := M.rechunk 0 (c' := bk tb #[(vP ab), (vI ((put0 l rt fu).2.at_)), (vI ((put0 l rt fu).2.turn)), (vB true), (vI ln)] 70) rfl (by simp [put0, (by simpa using h1)])
  replace M := M.rechunk 1 (c' := arenaC 107 112 S ab ((put0 l rt fu).1)) rfl (by simp [put0, (by simpa using h1)])
  have hA0_ : SmallA (put0 l rt fu).1 := (insOk_node hO rfl).small
  refine W.region rfl (wM (vP tb) (wM (vP tb) (wP (vP tb) (wP (Value.pointer (some ⟨tb, 1, none⟩)) (wS (Value.agg #[(vI ((put0 l rt fu).2.at_)), (vI ((put0 l rt fu).2.turn))]) rfl (Step.loadN Tryz.ag68 rfl (M.blk 0 rfl) (Nat.le_of_ble_eq_true rfl) rfl) ?_)))))
  refine wM (vS k) (wM (vI v) (wP (Value.agg #[(vS k), (vI v)]) ?_))
  have fq := M.frm [arenaC 107 112 S ab ((put0 l rt fu).1)] [bk tb #[(vP ab), (vI ((put0 l rt fu).2.at_)), (vI ((put0 l rt fu).2.turn)), (vB true), (vI ln)] 70] [1, 0] rfl
  refine WL.callX rfl (tr_insert d tb ab ((put0 l rt fu).2) true ln ((put0 l rt fu).1) S ((put0 l rt fu).2) (⟨k, v⟩ : THit) (by assumption) (M.eF fq ⟨(M.cF fq 0 rfl), trivial⟩)) (CallsF.func Tryz.en50 rfl) ?_
  rintro _ w60 ⟨u58, S59, rfl, m⟩
  replace M := M.lF fq m
  clear m
  refine wM (Value.tuple #[(vI ((insF d ((put0 l rt fu).1) ((put0 l rt fu).2) (⟨k, v⟩ : THit)).2.1.1)), (vB ((insF d ((put0 l rt fu).1) ((put0 l rt fu).2) (⟨k, v⟩ : THit)).2.1.2)), u58]) (wP (vI ((insF d ((put0 l rt fu).1) ((put0 l rt fu).2) (⟨k, v⟩ : THit)).2.1.1)) (wP (vB ((insF d ((put0 l rt fu).1) ((put0 l rt fu).2) (⟨k, v⟩ : THit)).2.1.2)) (wP u58 (wA (vI ((insF d ((put0 l rt fu).1) ((put0 l rt fu).2) (⟨k, v⟩ : THit)).2.1.1)) (wA (vB ((insF d ((put0 l rt fu).1) ((put0 l rt fu).2) (⟨k, v⟩ : THit)).2.1.2)) ?_)))))
  refine wA u58 (WL.nil (W.seq' (W.seq' ?_)))
  rcases ho_ : (insF d ((put0 l rt fu).1) ((put0 l rt fu).2) (⟨k, v⟩ : THit)).2.2 with _ | u_
  ·
   rw [ho_] at M
   obtain rfl := M.upNone 1 rfl
   replace M := M.sel (L' := [arenaC 107 112 S59 ab ((insF d ((put0 l rt fu).1) ((put0 l rt fu).2) (⟨k, v⟩ : THit)).1), bk tb #[(vP ab), (vI ((put0 l rt fu).2.at_)), (vI ((put0 l rt fu).2.turn)), (vB true), (vI ln)] 70]) [0, 2] rfl (by decide)
   refine W.region rfl (wM vN (wP (vB false) (WL.nil ?_)))
   refine W.cond (t := false) rfl (fun h => by cases h) (fun _ => ?_)
   refine W.skip (W.seq' (wR (wM (vB ((insF d ((put0 l rt fu).1) ((put0 l rt fu).2) (⟨k, v⟩ : THit)).2.1.2)) (wP (vB (!((insF d ((put0 l rt fu).1) ((put0 l rt fu).2) (⟨k, v⟩ : THit)).2.1.2))) (WL.nil ?_)))))
   refine W.cond (t := !((insF d ((put0 l rt fu).1) ((put0 l rt fu).2) (⟨k, v⟩ : THit)).2.1.2)) rfl (fun h62 => ?_) (fun h62 => ?_)
   ·
    refine W.region rfl (wM (vP tb) (wP (vP tb) (wP (Value.pointer (some ⟨tb, 4, none⟩)) (wS (vI ln) rfl (Step.load1 Tryz.sc3 rfl ((M.cell 1 rfl 4).trans rfl)) (wS (vI (ln + 1)) rfl (Step.add rfl rfl (wrap_i64 (by omega))) ?_)))))
    refine wP (vP tb) (wP (Value.pointer (some ⟨tb, 4, none⟩)) ?_)
    refine WL.store (v := (vI (ln + 1))) (cs := [(vI (ln + 1))]) (c' := #[(vP ab), (vI ((put0 l rt fu).2.at_)), (vI ((put0 l rt fu).2.turn)), (vB true), (vI (ln + 1))]) M 1 rfl rfl Tryz.el3.sized rfl rfl rfl rfl (Nat.le_of_ble_eq_true rfl) (cel_cons rfl cel_nil) rfl rfl (fun w63 M => ?_)
    refine WL.nil (wR (wM (vI ((insF d ((put0 l rt fu).1) ((put0 l rt fu).2) (⟨k, v⟩ : THit)).2.1.1)) (wS (vB false) rfl (Step.cast (congrArg Value.bool (show ((insF d ((put0 l rt fu).1) ((put0 l rt fu).2) (⟨k, v⟩ : THit)).2.1.2) = false by simpa using h62)) (Step.move rfl)) (wA (vI ((insF d ((put0 l rt fu).1) ((put0 l rt fu).2) (⟨k, v⟩ : THit)).2.1.1)) (wA (vB false) ?_)))))
    refine WL.nil ?_
    refine W.ret ?_
    refine ⟨.inl rfl, (Value.tuple #[(vI ((insF d ((put0 l rt fu).1) ((put0 l rt fu).2) (⟨k, v⟩ : THit)).2.1.1)), (vB false)]), ?_, ?_⟩
    · exact ⟨rfl, (Res.r2 (show RV _ _ _ (.tmp 6) (vI ((insF d ((put0 l rt fu).1) ((put0 l rt fu).2) (⟨k, v⟩ : THit)).2.1.1)) from by exact rfl) (show RV _ _ _ (.tmp 7) (vB false) from by exact rfl))⟩
    have e64 : (bk tb #[(vP ab), (vI (((putT d l rt fu ln (⟨k, v⟩ : THit)).1.2).at_)), (vI (((putT d l rt fu ln (⟨k, v⟩ : THit)).1.2).turn)), (vB true), (vI ((putT d l rt fu ln (⟨k, v⟩ : THit)).2.1))] 70 : Chunk) = (bk tb #[(vP ab), (vI ((put0 l rt fu).2.at_)), (vI ((put0 l rt fu).2.turn)), (vB true), (vI (ln + 1))] 70 : Chunk) := by
     have hth_ : (insF d (put0 l rt fu).1 (put0 l rt fu).2 (⟨k, v⟩ : THit)).2.1.2 = false := by simpa using h62
     unfold putT putU; simp only [ho_]
     try simp [hth_]
    replace M := M.rechunk 1 (c' := bk tb #[(vP ab), (vI (((putT d l rt fu ln (⟨k, v⟩ : THit)).1.2).at_)), (vI (((putT d l rt fu ln (⟨k, v⟩ : THit)).1.2).turn)), (vB true), (vI ((putT d l rt fu ln (⟨k, v⟩ : THit)).2.1))] 70) rfl e64.symm
    have e65 : (putT d l rt fu ln (⟨k, v⟩ : THit)).1.1 = (insF d ((put0 l rt fu).1) ((put0 l rt fu).2) (⟨k, v⟩ : THit)).1 := by
     have hth_ : (insF d (put0 l rt fu).1 (put0 l rt fu).2 (⟨k, v⟩ : THit)).2.1.2 = false := by simpa using h62
     unfold putT putU; simp only [ho_]
     try simp [hth_]
    replace M := M.rechunk 0 (c' := arenaC 107 112 S59 ab ((putT d l rt fu ln (⟨k, v⟩ : THit)).1.1)) rfl (congrArg (fun z => arenaC 107 112 S59 ab z) e65.symm)
    refine ⟨S59, ?_, M.close [1, 0] rfl (by decide) trivial⟩
    have hth_ : (insF d (put0 l rt fu).1 (put0 l rt fu).2 (⟨k, v⟩ : THit)).2.1.2 = false := by simpa using h62
    unfold putT putU; simp only [ho_]
    try simp [hth_]
   ·
    refine W.skip (wR (wM (vI ((insF d ((put0 l rt fu).1) ((put0 l rt fu).2) (⟨k, v⟩ : THit)).2.1.1)) (wS (vB true) rfl (Step.cast (congrArg Value.bool (show ((insF d ((put0 l rt fu).1) ((put0 l rt fu).2) (⟨k, v⟩ : THit)).2.1.2) = true by simpa using h62)) (Step.move rfl)) (wA (vI ((insF d ((put0 l rt fu).1) ((put0 l rt fu).2) (⟨k, v⟩ : THit)).2.1.1)) (wA (vB true) ?_)))))
    refine WL.nil ?_
    refine W.ret ?_
    refine ⟨.inl rfl, (Value.tuple #[(vI ((insF d ((put0 l rt fu).1) ((put0 l rt fu).2) (⟨k, v⟩ : THit)).2.1.1)), (vB true)]), ?_, ?_⟩
    · exact ⟨rfl, (Res.r2 (show RV _ _ _ (.tmp 6) (vI ((insF d ((put0 l rt fu).1) ((put0 l rt fu).2) (⟨k, v⟩ : THit)).2.1.1)) from by exact rfl) (show RV _ _ _ (.tmp 7) (vB true) from by exact rfl))⟩
    have e66 : (bk tb #[(vP ab), (vI (((putT d l rt fu ln (⟨k, v⟩ : THit)).1.2).at_)), (vI (((putT d l rt fu ln (⟨k, v⟩ : THit)).1.2).turn)), (vB true), (vI ((putT d l rt fu ln (⟨k, v⟩ : THit)).2.1))] 70 : Chunk) = (bk tb #[(vP ab), (vI ((put0 l rt fu).2.at_)), (vI ((put0 l rt fu).2.turn)), (vB true), (vI ln)] 70 : Chunk) := by
     have hth_ : (insF d (put0 l rt fu).1 (put0 l rt fu).2 (⟨k, v⟩ : THit)).2.1.2 = true := by simpa using h62
     unfold putT putU; simp only [ho_]
     try simp [hth_]
    replace M := M.rechunk 1 (c' := bk tb #[(vP ab), (vI (((putT d l rt fu ln (⟨k, v⟩ : THit)).1.2).at_)), (vI (((putT d l rt fu ln (⟨k, v⟩ : THit)).1.2).turn)), (vB true), (vI ((putT d l rt fu ln (⟨k, v⟩ : THit)).2.1))] 70) rfl e66.symm
    have e67 : (putT d l rt fu ln (⟨k, v⟩ : THit)).1.1 = (insF d ((put0 l rt fu).1) ((put0 l rt fu).2) (⟨k, v⟩ : THit)).1 := by
     have hth_ : (insF d (put0 l rt fu).1 (put0 l rt fu).2 (⟨k, v⟩ : THit)).2.1.2 = true := by simpa using h62
     unfold putT putU; simp only [ho_]
     try simp [hth_]
    replace M := M.rechunk 0 (c' := arenaC 107 112 S59 ab ((putT d l rt fu ln (⟨k, v⟩ : THit)).1.1)) rfl (congrArg (fun z => arenaC 107 112 S59 ab z) e67.symm)
    refine ⟨S59, ?_, M.close [1, 0] rfl (by decide) trivial⟩
    have hth_ : (insF d (put0 l rt fu).1 (put0 l rt fu).2 (⟨k, v⟩ : THit)).2.1.2 = true := by simpa using h62
    unfold putT putU; simp only [ho_]
    try simp [hth_]
  ·
   rw [ho_] at M
   obtain ⟨b61, rfl, M⟩ := M.upSome 1 rfl
   refine W.region rfl (wM (vP b61) (wP (vB true) (WL.nil ?_)))
   refine W.cond (t := true) rfl (fun _ => ?_) (fun h => by cases h)
   refine W.drawn2 M [0, 1, 2, 3, 4, 5, 6, 7, 8, 9, 11, 12, 13, 14, 15, 17, 18, 19, 20, 21, 22, 23, 24, 10, 16, 25, 26, 27] [28, 29, 30] [27, 30] [10, 16, 25] _ _ (sN (sY (sY sE))) (fun _ h => h) Tryz.mixed (by kernel_rfl) ?_
   refine tP (vP tb) rfl (fun w => (Step.move rfl)) ?_
   refine tP (vP tb) rfl (fun w => (Step.move rfl)) ?_
   refine tP (vP tb) rfl (fun w => sP) ?_
   refine tP (vP tb) rfl (fun w => sP) ?_
   refine tR (vP ab) rfl (fun A w M => (Step.load1 Tryz.sc65 rfl ((M.cell 2 rfl 0).trans rfl))) ?_
   refine tP (vP b61) rfl (fun w => (Step.move rfl)) ?_
   refine tP (vP b61) rfl (fun w => sP) ?_
   refine tP (vP b61) rfl (fun w => sP) ?_
   refine tP (vP b61) rfl (fun w => sP) ?_
   refine tR (vS u_.1.key) rfl (fun A w M => (Step.load1 Tryz.sc9 rfl ((M.cell 1 rfl 0).trans rfl))) ?_
   refine tP (vP b61) rfl (fun w => (Step.move rfl)) ?_
   refine tP (vP b61) rfl (fun w => sP) ?_
   refine tP (vP b61) rfl (fun w => sP) ?_
   refine tP (Value.pointer (some ⟨b61, 1, none⟩)) rfl (fun w => sP) ?_
   refine tR (vI u_.1.val) rfl (fun A w M => (Step.load1 Tryz.sc3 rfl ((M.cell 1 rfl 1).trans rfl))) ?_
   refine tP (vP tb) rfl (fun w => (Step.move rfl)) ?_
   refine tP (vP tb) rfl (fun w => sP) ?_
   refine tP (Value.pointer (some ⟨tb, 1, none⟩)) rfl (fun w => sP) ?_
   refine tR (Value.agg #[(vI ((put0 l rt fu).2.at_)), (vI ((put0 l rt fu).2.turn))]) rfl (fun A w M => (Step.loadN Tryz.ag68 rfl (M.blk 2 rfl) (Nat.le_of_ble_eq_true rfl) rfl)) ?_
   refine tP (vP b61) rfl (fun w => (Step.move rfl)) ?_
   refine tP (vP b61) rfl (fun w => sP) ?_
   refine tP (Value.pointer (some ⟨b61, 2, none⟩)) rfl (fun w => sP) ?_
   refine tR (Value.agg #[(vI u_.2.at_), (vI u_.2.turn)]) rfl (fun A w M => (Step.loadN Tryz.ag68 rfl (M.blk 1 rfl) (Nat.le_of_ble_eq_true rfl) rfl)) ?_
   refine TW.new (obj := .cells #[(vS u_.1.key)] 9) (fun b => .slice (some ⟨b, 0, none⟩) 1 1) rfl (by decide) (by decide) rfl (fun w => Step.make (by kernel_rfl)) (fun b98 => ?_)
   refine TW.new (obj := .cells #[(vI u_.1.val)] 3) (fun b => .slice (some ⟨b, 0, none⟩) 1 1) rfl (by decide) (by decide) rfl (fun w => Step.make (by kernel_rfl)) (fun b99 => ?_)
   refine TW.new (obj := .cells #[(vI ((put0 l rt fu).2.at_)), (vI ((put0 l rt fu).2.turn)), (vI u_.2.at_), (vI u_.2.turn)] 68) (fun b => .slice (some ⟨b, 0, none⟩) 2 2) rfl (by decide) (by decide) rfl (fun w => Step.make (by kernel_rfl)) (fun b100 => ?_)
   refine tP (Value.agg #[(vB false), (Value.slice (some ⟨b98, 0, none⟩) 1 1), (Value.slice (some ⟨b100, 0, none⟩) 2 2), (Value.slice (some ⟨b99, 0, none⟩) 1 1)]) rfl (fun w => sP) ?_
   let Q : List Chunk := [bk b100 #[(vI ((put0 l rt fu).2.at_)), (vI ((put0 l rt fu).2.turn)), (vI u_.2.at_), (vI u_.2.turn)] 68, bk b99 #[(vI u_.1.val)] 3, bk b98 #[(vS u_.1.key)] 9, bk b61 #[(vS u_.1.key), (vI u_.1.val), (vI u_.2.at_), (vI u_.2.turn)] 98, bk tb #[(vP ab), (vI ((put0 l rt fu).2.at_)), (vI ((put0 l rt fu).2.turn)), (vB true), (vI ln)] 70]
   refine TW.callX (ι := (Nat → Prop)) (fun jx v_ => v_ = (Value.agg #[(vI (((rmake ((insF d ((put0 l rt fu).1) ((put0 l rt fu).2) (⟨k, v⟩ : THit)).1) (⟨false, ([u_.1.key] : List ByteArray), ([(put0 l rt fu).2, u_.2] : List Handle), ([u_.1.val] : List Int)⟩ : Nd)).2).at_)), (vI (((rmake ((insF d ((put0 l rt fu).1) ((put0 l rt fu).2) (⟨k, v⟩ : THit)).1) (⟨false, ([u_.1.key] : List ByteArray), ([(put0 l rt fu).2, u_.2] : List Handle), ([u_.1.val] : List Int)⟩ : Nd)).2).turn))])) (fun jx => arenaC 107 112 jx ab ((rmake ((insF d ((put0 l rt fu).1) ((put0 l rt fu).2) (⟨k, v⟩ : THit)).1) (⟨false, ([u_.1.key] : List ByteArray), ([(put0 l rt fu).2, u_.2] : List Handle), ([u_.1.val] : List Int)⟩ : Nd)).1) :: Q) (fun jx => []) rfl (by decide) rfl (fun jx => (sN (sN (sN (sN (sY (sY sE))))))) (fun jx r h => h) (fun A w M => have fq := M.frm [arenaC 107 112 S59 ab ((insF d ((put0 l rt fu).1) ((put0 l rt fu).2) (⟨k, v⟩ : THit)).1)] (fl A :: Q) [4, 0, 1, 2, 3, 5, 6] rfl; Rets.mono (ar_make ab ((insF d ((put0 l rt fu).1) ((put0 l rt fu).2) (⟨k, v⟩ : THit)).1) S59 (Value.slice (some ⟨b98, 0, none⟩) 1 1) (Value.slice (some ⟨b100, 0, none⟩) 2 2) (Value.slice (some ⟨b99, 0, none⟩) 1 1) (⟨false, ([u_.1.key] : List ByteArray), ([(put0 l rt fu).2, u_.2] : List Handle), ([u_.1.val] : List Int)⟩ : Nd) (by first | assumption | exact smallA_of rfl) (by simp [insL] <;> omega) (by simp [insL] <;> omega) (by simp [insL] <;> omega) (M.eF fq ⟨((M.cF fq 3 rfl).imp fun _ h => SlAt.of_blk (n := 1) (size := 1) h rfl (by decide)), ((M.cF fq 1 rfl).imp fun _ h => SlAt.of_blk (n := 2) (size := 2) h rfl (by decide)), ((M.cF fq 2 rfl).imp fun _ h => SlAt.of_blk (n := 1) (size := 1) h rfl (by decide)), trivial⟩)) (fun v_ w_ ⟨S101, e_, m⟩ => ⟨S101, e_, (M.lF fq m).sel [1, 0, 2, 3, 4, 5, 6] rfl (by decide), fun b hb => M.kF fq m b hb⟩)) (fun w => CallsF.func Tryz.en49 rfl) (fun S101 v hp hin => ?_)
   replace hp := hp.symm; subst hp
   obtain ⟨_, _, hin⟩ := hin
   clear hin
   refine TW.turn _ _ (sY (sY (sY (sY (sY (sN sE)))))) (fun _ h => h) ?_
   refine tP (vP tb) rfl (fun w => sP) ?_
   refine tP (Value.pointer (some ⟨tb, 1, none⟩)) rfl (fun w => sP) ?_
   refine TW.store (v := (Value.agg #[(vI (((rmake ((insF d ((put0 l rt fu).1) ((put0 l rt fu).2) (⟨k, v⟩ : THit)).1) (⟨false, ([u_.1.key] : List ByteArray), ([(put0 l rt fu).2, u_.2] : List Handle), ([u_.1.val] : List Int)⟩ : Nd)).2).at_)), (vI (((rmake ((insF d ((put0 l rt fu).1) ((put0 l rt fu).2) (⟨k, v⟩ : THit)).1) (⟨false, ([u_.1.key] : List ByteArray), ([(put0 l rt fu).2, u_.2] : List Handle), ([u_.1.val] : List Int)⟩ : Nd)).2).turn))])) (cs := [(vI (((rmake ((insF d ((put0 l rt fu).1) ((put0 l rt fu).2) (⟨k, v⟩ : THit)).1) (⟨false, ([u_.1.key] : List ByteArray), ([(put0 l rt fu).2, u_.2] : List Handle), ([u_.1.val] : List Int)⟩ : Nd)).2).at_)), (vI (((rmake ((insF d ((put0 l rt fu).1) ((put0 l rt fu).2) (⟨k, v⟩ : THit)).1) (⟨false, ([u_.1.key] : List ByteArray), ([(put0 l rt fu).2, u_.2] : List Handle), ([u_.1.val] : List Int)⟩ : Nd)).2).turn))]) (c' := #[(vP ab), (vI (((rmake ((insF d ((put0 l rt fu).1) ((put0 l rt fu).2) (⟨k, v⟩ : THit)).1) (⟨false, ([u_.1.key] : List ByteArray), ([(put0 l rt fu).2, u_.2] : List Handle), ([u_.1.val] : List Int)⟩ : Nd)).2).at_)), (vI (((rmake ((insF d ((put0 l rt fu).1) ((put0 l rt fu).2) (⟨k, v⟩ : THit)).1) (⟨false, ([u_.1.key] : List ByteArray), ([(put0 l rt fu).2, u_.2] : List Handle), ([u_.1.val] : List Int)⟩ : Nd)).2).turn)), (vB true), (vI ln)]) 5 rfl rfl (by decide) rfl Tryz.el68.sized rfl rfl rfl rfl (Nat.le_of_ble_eq_true rfl) (cel_cons rfl (cel_cons rfl cel_nil)) rfl rfl (sY (sY (sY (sY (sY (sN sE)))))) (fun r h => h) ?_
   refine TW.done (fun w103 M => ?_)
   refine W.seq' (wR (wM (vB ((insF d ((put0 l rt fu).1) ((put0 l rt fu).2) (⟨k, v⟩ : THit)).2.1.2)) (wP (vB (!((insF d ((put0 l rt fu).1) ((put0 l rt fu).2) (⟨k, v⟩ : THit)).2.1.2))) (WL.nil ?_))))
   refine W.cond (t := !((insF d ((put0 l rt fu).1) ((put0 l rt fu).2) (⟨k, v⟩ : THit)).2.1.2)) rfl (fun h104 => ?_) (fun h104 => ?_)
   ·
    refine W.region rfl (wM (vP tb) (wP (vP tb) (wP (Value.pointer (some ⟨tb, 4, none⟩)) (wS (vI ln) rfl (Step.load1 Tryz.sc3 rfl ((M.cell 5 rfl 4).trans rfl)) (wS (vI (ln + 1)) rfl (Step.add rfl rfl (wrap_i64 (by omega))) ?_)))))
    refine wP (vP tb) (wP (Value.pointer (some ⟨tb, 4, none⟩)) ?_)
    refine WL.store (v := (vI (ln + 1))) (cs := [(vI (ln + 1))]) (c' := #[(vP ab), (vI (((rmake ((insF d ((put0 l rt fu).1) ((put0 l rt fu).2) (⟨k, v⟩ : THit)).1) (⟨false, ([u_.1.key] : List ByteArray), ([(put0 l rt fu).2, u_.2] : List Handle), ([u_.1.val] : List Int)⟩ : Nd)).2).at_)), (vI (((rmake ((insF d ((put0 l rt fu).1) ((put0 l rt fu).2) (⟨k, v⟩ : THit)).1) (⟨false, ([u_.1.key] : List ByteArray), ([(put0 l rt fu).2, u_.2] : List Handle), ([u_.1.val] : List Int)⟩ : Nd)).2).turn)), (vB true), (vI (ln + 1))]) M 5 rfl rfl Tryz.el3.sized rfl rfl rfl rfl (Nat.le_of_ble_eq_true rfl) (cel_cons rfl cel_nil) rfl rfl (fun w105 M => ?_)
    refine WL.nil (wR (wM (vI ((insF d ((put0 l rt fu).1) ((put0 l rt fu).2) (⟨k, v⟩ : THit)).2.1.1)) (wS (vB false) rfl (Step.cast (congrArg Value.bool (show ((insF d ((put0 l rt fu).1) ((put0 l rt fu).2) (⟨k, v⟩ : THit)).2.1.2) = false by simpa using h104)) (Step.move rfl)) (wA (vI ((insF d ((put0 l rt fu).1) ((put0 l rt fu).2) (⟨k, v⟩ : THit)).2.1.1)) (wA (vB false) ?_)))))
    refine WL.nil ?_
    refine W.ret ?_
    refine ⟨.inl rfl, (Value.tuple #[(vI ((insF d ((put0 l rt fu).1) ((put0 l rt fu).2) (⟨k, v⟩ : THit)).2.1.1)), (vB false)]), ?_, ?_⟩
    · exact ⟨rfl, (Res.r2 (show RV _ _ _ (.tmp 6) (vI ((insF d ((put0 l rt fu).1) ((put0 l rt fu).2) (⟨k, v⟩ : THit)).2.1.1)) from by exact rfl) (show RV _ _ _ (.tmp 7) (vB false) from by exact rfl))⟩
    have e106 : (bk tb #[(vP ab), (vI (((putT d l rt fu ln (⟨k, v⟩ : THit)).1.2).at_)), (vI (((putT d l rt fu ln (⟨k, v⟩ : THit)).1.2).turn)), (vB true), (vI ((putT d l rt fu ln (⟨k, v⟩ : THit)).2.1))] 70 : Chunk) = (bk tb #[(vP ab), (vI (((rmake ((insF d ((put0 l rt fu).1) ((put0 l rt fu).2) (⟨k, v⟩ : THit)).1) (⟨false, ([u_.1.key] : List ByteArray), ([(put0 l rt fu).2, u_.2] : List Handle), ([u_.1.val] : List Int)⟩ : Nd)).2).at_)), (vI (((rmake ((insF d ((put0 l rt fu).1) ((put0 l rt fu).2) (⟨k, v⟩ : THit)).1) (⟨false, ([u_.1.key] : List ByteArray), ([(put0 l rt fu).2, u_.2] : List Handle), ([u_.1.val] : List Int)⟩ : Nd)).2).turn)), (vB true), (vI (ln + 1))] 70 : Chunk) := by
     have hth_ : (insF d (put0 l rt fu).1 (put0 l rt fu).2 (⟨k, v⟩ : THit)).2.1.2 = false := by simpa using h104
     unfold putT putU; simp only [ho_]
     try simp [hth_]
    replace M := M.rechunk 5 (c' := bk tb #[(vP ab), (vI (((putT d l rt fu ln (⟨k, v⟩ : THit)).1.2).at_)), (vI (((putT d l rt fu ln (⟨k, v⟩ : THit)).1.2).turn)), (vB true), (vI ((putT d l rt fu ln (⟨k, v⟩ : THit)).2.1))] 70) rfl e106.symm
    have e107 : (putT d l rt fu ln (⟨k, v⟩ : THit)).1.1 = (rmake ((insF d ((put0 l rt fu).1) ((put0 l rt fu).2) (⟨k, v⟩ : THit)).1) (⟨false, ([u_.1.key] : List ByteArray), ([(put0 l rt fu).2, u_.2] : List Handle), ([u_.1.val] : List Int)⟩ : Nd)).1 := by
     have hth_ : (insF d (put0 l rt fu).1 (put0 l rt fu).2 (⟨k, v⟩ : THit)).2.1.2 = false := by simpa using h104
     unfold putT putU; simp only [ho_]
     try simp [hth_]
    replace M := M.rechunk 0 (c' := arenaC 107 112 S101 ab ((putT d l rt fu ln (⟨k, v⟩ : THit)).1.1)) rfl (congrArg (fun z => arenaC 107 112 S101 ab z) e107.symm)
    refine ⟨S101, ?_, M.close [5, 0] rfl (by decide) trivial⟩
    have hth_ : (insF d (put0 l rt fu).1 (put0 l rt fu).2 (⟨k, v⟩ : THit)).2.1.2 = false := by simpa using h104
    unfold putT putU; simp only [ho_]
    try simp [hth_]
   ·
    refine W.skip (wR (wM (vI ((insF d ((put0 l rt fu).1) ((put0 l rt fu).2) (⟨k, v⟩ : THit)).2.1.1)) (wS (vB true) rfl (Step.cast (congrArg Value.bool (show ((insF d ((put0 l rt fu).1) ((put0 l rt fu).2) (⟨k, v⟩ : THit)).2.1.2) = true by simpa using h104)) (Step.move rfl)) (wA (vI ((insF d ((put0 l rt fu).1) ((put0 l rt fu).2) (⟨k, v⟩ : THit)).2.1.1)) (wA (vB true) ?_)))))
    refine WL.nil ?_
    refine W.ret ?_
    refine ⟨.inl rfl, (Value.tuple #[(vI ((insF d ((put0 l rt fu).1) ((put0 l rt fu).2) (⟨k, v⟩ : THit)).2.1.1)), (vB true)]), ?_, ?_⟩
    · exact ⟨rfl, (Res.r2 (show RV _ _ _ (.tmp 6) (vI ((insF d ((put0 l rt fu).1) ((put0 l rt fu).2) (⟨k, v⟩ : THit)).2.1.1)) from by exact rfl) (show RV _ _ _ (.tmp 7) (vB true) from by exact rfl))⟩
    have e108 : (bk tb #[(vP ab), (vI (((putT d l rt fu ln (⟨k, v⟩ : THit)).1.2).at_)), (vI (((putT d l rt fu ln (⟨k, v⟩ : THit)).1.2).turn)), (vB true), (vI ((putT d l rt fu ln (⟨k, v⟩ : THit)).2.1))] 70 : Chunk) = (bk tb #[(vP ab), (vI (((rmake ((insF d ((put0 l rt fu).1) ((put0 l rt fu).2) (⟨k, v⟩ : THit)).1) (⟨false, ([u_.1.key] : List ByteArray), ([(put0 l rt fu).2, u_.2] : List Handle), ([u_.1.val] : List Int)⟩ : Nd)).2).at_)), (vI (((rmake ((insF d ((put0 l rt fu).1) ((put0 l rt fu).2) (⟨k, v⟩ : THit)).1) (⟨false, ([u_.1.key] : List ByteArray), ([(put0 l rt fu).2, u_.2] : List Handle), ([u_.1.val] : List Int)⟩ : Nd)).2).turn)), (vB true), (vI ln)] 70 : Chunk) := by
     have hth_ : (insF d (put0 l rt fu).1 (put0 l rt fu).2 (⟨k, v⟩ : THit)).2.1.2 = true := by simpa using h104
     unfold putT putU; simp only [ho_]
     try simp [hth_]
    replace M := M.rechunk 5 (c' := bk tb #[(vP ab), (vI (((putT d l rt fu ln (⟨k, v⟩ : THit)).1.2).at_)), (vI (((putT d l rt fu ln (⟨k, v⟩ : THit)).1.2).turn)), (vB true), (vI ((putT d l rt fu ln (⟨k, v⟩ : THit)).2.1))] 70) rfl e108.symm
    have e109 : (putT d l rt fu ln (⟨k, v⟩ : THit)).1.1 = (rmake ((insF d ((put0 l rt fu).1) ((put0 l rt fu).2) (⟨k, v⟩ : THit)).1) (⟨false, ([u_.1.key] : List ByteArray), ([(put0 l rt fu).2, u_.2] : List Handle), ([u_.1.val] : List Int)⟩ : Nd)).1 := by
     have hth_ : (insF d (put0 l rt fu).1 (put0 l rt fu).2 (⟨k, v⟩ : THit)).2.1.2 = true := by simpa using h104
     unfold putT putU; simp only [ho_]
     try simp [hth_]
    replace M := M.rechunk 0 (c' := arenaC 107 112 S101 ab ((putT d l rt fu ln (⟨k, v⟩ : THit)).1.1)) rfl (congrArg (fun z => arenaC 107 112 S101 ab z) e109.symm)
    refine ⟨S101, ?_, M.close [5, 0] rfl (by decide) trivial⟩
    have hth_ : (insF d (put0 l rt fu).1 (put0 l rt fu).2 (⟨k, v⟩ : THit)).2.1.2 = true := by simpa using h104
    unfold putT putU; simp only [ho_]
    try simp [hth_]
end Go.Proofs
namespace Tp
open Go
def FnS (P : Program) (f : Value) (p : ByteArray → Bool) (w : World) : Prop := ∀ x : ByteArray, RetsV P f #[.string x] w fun r w' => r = .bool (p x) ∧ Old w w'
def lookOk : Nat → List RPlace → Handle → Prop
  | 0, l, h => NodeMay l (rget l h).1 ∧ (rget l h).1.leaf = true
  | d + 1, l, h => NodeMay l (rget l h).1 ∧ (rget l h).1.leaf = false ∧ (rget l h).1.kids.length = (rget l h).1.keys.length + 1 ∧ ∀ c, c ∈ (rget l h).1.kids → lookOk d l c
section
variable {l : List RPlace} {h : Handle} {n : Nd} {d lo K : Nat} {p : ByteArray → Bool} {b : THit × Bool} {c : Handle}
theorem lookOk_node (hO : lookOk d l h) (hn : (rget l h).1 = n) : tinyN n ∧ n.vals.length = n.keys.length := by
  subst hn
  cases d with
  | zero => exact ⟨hO.1.1, hO.1.2⟩
  | succ d => exact ⟨hO.1.1, hO.1.2⟩
theorem lookOk_kid (hO : lookOk d l h) (hn : (rget l h).1 = n) (hl : n.leaf = false) : ∃ e, d = e + 1 ∧ n.kids.length = n.keys.length + 1 ∧ ∀ c, c ∈ n.kids → lookOk e l c := by
  subst hn
  cases d with
  | zero => rw [hO.2] at hl; cases hl
  | succ d => exact ⟨d, rfl, hO.2.2⟩
theorem look_okW : ∀ {d lo : Nat} {t : BT}, HoldsB l d t → okB lo d t → BigA l K → lookOk d l t.h := by
  intro d
  induction d with
  | zero =>
    intro lo t H ho hB
    obtain ⟨h, ks, ts⟩ := t
    have e := (holds_mk.1 H).1
    unfold lookOk
    rw [show (BT.mk h ks ts).h = h from rfl, atA_get e]
    exact ⟨⟨hB.at e, by simp [nodeB]⟩, rfl⟩
  | succ d ih =>
    intro lo t H ho hB
    obtain ⟨h, ks, ts⟩ := t
    have e := (holds_mk.1 H).1
    obtain ⟨o1, o2, o3⟩ := ok_mk.1 ho
    unfold lookOk
    rw [show (BT.mk h ks ts).h = h from rfl, atA_get e]
    refine ⟨⟨hB.at e, by simp [nodeB]⟩, rfl, kids_len o3, fun c hc => ?_⟩
    rw [nodeB_kids, if_neg (by simp)] at hc
    obtain ⟨s, hs, rfl⟩ := List.mem_map.1 hc
    exact ih ((holds_mk.1 H).2 s hs) (o3.2 s hs) hB
theorem leastT_leaf (hn : (rget l h).1 = n) (hl : n.leaf = true) : leastT d l h p b = if n.keys.findIdx p < n.keys.length then (hitOf n (n.keys.findIdx p), true) else b := by
  subst hn; cases d <;> (unfold leastT; simp [hl])
theorem leastT_kid (hn : (rget l h).1 = n) (hl : n.leaf = false) : leastT (d + 1) l h p b = leastT d l (n.kids.getD (n.keys.findIdx p) hdZero) p (if n.keys.findIdx p < n.keys.length then (hitOf n (n.keys.findIdx p), true) else b) := by
  subst hn
  conv => lhs; unfold leastT
  simp only [hl, Bool.false_eq_true, if_false]
theorem greatT_leaf (hn : (rget l h).1 = n) (hl : n.leaf = true) : greatT d l h p b = if 0 < endI n.keys p then (hitOf n (endI n.keys p - 1), true) else b := by
  subst hn; cases d <;> (unfold greatT; simp [hl])
theorem greatT_kid (hn : (rget l h).1 = n) (hl : n.leaf = false) : greatT (d + 1) l h p b = greatT d l (n.kids.getD (endI n.keys p) hdZero) p (if 0 < endI n.keys p then (hitOf n (endI n.keys p - 1), true) else b) := by
  subst hn
  conv => lhs; unfold greatT
  simp only [hl, Bool.false_eq_true, if_false]
def noHit : THit × Bool := (⟨⟨#[]⟩, 0⟩, false)
def lookT (fu : Bool) (d : Nat) (l : List RPlace) (h : Handle) (p : ByteArray → Bool) : THit × Bool := if fu then leastT d l h p noHit else noHit
def lookG (fu : Bool) (d : Nat) (l : List RPlace) (h : Handle) (p : ByteArray → Bool) : THit × Bool := if fu then greatT d l h p noHit else noHit
theorem find_at {ks : List ByteArray} {i : Nat} {x : ByteArray} (hx : ks[i]? = some x) (hp : p x = true) (hb : ∀ j u, j < i → ks[j]? = some u → p u = false) : ks.findIdx p = i := by
  obtain ⟨h1, rfl⟩ := List.getElem?_eq_some_iff.1 hx
  exact (List.findIdx_eq h1).2 ⟨hp, fun j hj => by simpa using hb j _ hj (List.getElem?_eq_getElem (by omega))⟩
theorem find_end {ks : List ByteArray} {i : Nat} (hi : ks.length ≤ i) (hb : ∀ j u, j < i → ks[j]? = some u → p u = false) : ks.findIdx p = ks.length := by
  refine List.findIdx_eq_length.2 fun x hx => ?_
  obtain ⟨j, hj, rfl⟩ := List.mem_iff_getElem.1 hx
  simpa using hb j _ (by omega) (List.getElem?_eq_getElem hj)
theorem endI_eq {ks : List ByteArray} {i : Nat} (hi : i ≤ ks.length) (hb : ∀ j u, i ≤ j → ks[j]? = some u → p u = false) (h0 : 0 < i → ∃ u, ks[i - 1]? = some u ∧ p u = true) : endI ks p = i := by
  unfold endI
  have hb' : ∀ j u, j < ks.length - i → ks.reverse[j]? = some u → p u = false := fun j u hj hu => by
    rw [List.getElem?_reverse (by omega)] at hu
    exact hb _ u (by omega) hu
  rcases Nat.eq_zero_or_pos i with h | h
  · rw [find_end (i := ks.length - i) (by simp; omega) hb', List.length_reverse]; omega
  · obtain ⟨u, h1, h2⟩ := h0 h
    rw [find_at (i := ks.length - i) (x := u) (by rw [List.getElem?_reverse (by omega)]; rw [← h1]; congr 1; omega) h2 hb']; omega
theorem above_step {ks : List ByteArray} {i : Nat} {u : ByteArray} (hb : ∀ j u, i ≤ j → ks[j]? = some u → p u = false) (hx : ks[i - 1]? = some u) (hp : p u = false) : ∀ j u, i - 1 ≤ j → ks[j]? = some u → p u = false := by
  intro j v hj hv
  rcases Nat.lt_or_ge j i with h | h
  · have : j = i - 1 := by omega
    subst this
    rw [hx] at hv; cases hv; exact hp
  · exact hb j v h hv
theorem sLe (x k : ByteArray) : (sLt x k || x.toList == k.toList) = !(sLt k x) := by
  rw [sEq_dec]
  cases h1 : sLt x k with
  | true => rw [sLt_asymm h1]; rfl
  | false =>
    cases h2 : sLt k x with
    | true => simp; exact (sLt_ne h2).symm
    | false => simp; exact sLt_total h1 h2
theorem sGt (x k : ByteArray) : (!(sLt x k || x.toList == k.toList)) = sLt k x := by rw [sLe, Bool.not_not]
def getT (fu : Bool) (d : Nat) (l : List RPlace) (h : Handle) (k : ByteArray) : Int × Bool :=
  if (lookT fu d l h (fun (x : ByteArray) => !(sLt x k))).2 = true ∧ (lookT fu d l h (fun (x : ByteArray) => !(sLt x k))).1.key = k then ((lookT fu d l h (fun (x : ByteArray) => !(sLt x k))).1.val, true) else (0, false)
end
end Tp
set_option maxRecDepth 100000
namespace Go.Proofs
open Go Tp
set_option maxHeartbeats 1000000 in
theorem tr_least {G X : Nat → Prop} {w : World} (tb ab : Nat) (rt : Handle) (fu : Bool) (ln : Int) (l : List RPlace) (S : Nat → Prop) (f : Value) (p : ByteArray → Bool)  (hA : SmallA l) (d : Nat) (hLk : fu = true → lookOk d l rt) (M : Mem G X w [arenaC 107 112 S ab l] [bF tb #[(vP ab), (vI rt.at_), (vI rt.turn), (vB fu), (vI ln)] 70, FnS Tryz.prog f p] w) : Rets Tryz.prog 54 #[(vP tb), f] w fun r w' => r = (Value.tuple #[(Value.agg #[(vS (((lookT fu d l rt p).1).key)), (vI (((lookT fu d l rt p).1).val))]), (vB ((lookT fu d l rt p).2))]) ∧ Mem G X w [arenaC 107 112 S ab l] [] w' := by
 refine Rets.enter 69 _ Tryz.func54 rfl Tryz.ntmps54 Tryz.results54 (by simp) ?_
 refine wR ?_
 refine WL.alloc (c := #[(vS sZ), (vI 0)]) M rfl Tryz.el55.zero rfl (fun b1 w2 hb1 M => ?_)
 refine wA (vB false) (WL.nil (W.seq' (wR (wM (vP tb) (wP (vB false) ?_)))))
 refine wM (vB false) (wM (vP tb) (wP (vP tb) (wP (Value.pointer (some ⟨tb, 3, none⟩)) (wS (vB fu) rfl (Step.load1 Tryz.sc4 rfl ((cell_blk (M.rep 0 rfl) 3).trans rfl)) (wP (vB !fu) ?_)))))
 refine wS (vB !fu) rfl (Step.pick (t := false) rfl rfl) (WL.nil ?_)
 refine W.cond (t := !fu) rfl (fun h3 => ?_) (fun h3 => ?_)
 ·
  refine wR (wP (Value.agg #[(vS sZ), (vI 0)]) ?_)
  refine WL.store (v := (Value.agg #[(vS sZ), (vI 0)])) (cs := [(vS sZ), (vI 0)]) (c' := #[(vS sZ), (vI 0)]) M 0 rfl rfl Tryz.el55.sized rfl rfl rfl rfl (Nat.le_of_ble_eq_true rfl) (cel_cons rfl (cel_cons rfl cel_nil)) rfl rfl (fun w4 M => ?_)
  refine wA (vB false) (WL.nil ?_)
  refine W.ret ?_
  refine ⟨.inl rfl, (Value.tuple #[(Value.agg #[(vS sZ), (vI 0)]), (vB false)]), ?_, ?_⟩
  · exact ⟨rfl, (Res.r2 (RV.cellN Tryz.ag55 rfl (M.blk 0 rfl) rfl) (show RV _ _ _ (.tmp 5) (vB false) from by exact rfl))⟩
  refine ⟨?_, M.close [1] rfl (by decide) trivial⟩
  have hfu_ : fu = false := (by simpa using h3)
  simp [lookT, noHit, hfu_]
 ·
  refine W.skip (wR (wM (vP tb) (wP (vP tb) (wP (Value.pointer (some ⟨tb, 1, none⟩)) (wS (Value.agg #[(vI rt.at_), (vI rt.turn)]) rfl (Step.loadN Tryz.ag68 rfl (M.rep 0 rfl) (Nat.le_of_ble_eq_true rfl) rfl) ?_)))))
  refine WL.alloc (c := #[(vI 0), (vI 0)]) M rfl Tryz.el68.zero rfl (fun b5 w6 hb5 M => ?_)
  refine WL.store (v := (Value.agg #[(vI rt.at_), (vI rt.turn)])) (cs := [(vI rt.at_), (vI rt.turn)]) (c' := #[(vI rt.at_), (vI rt.turn)]) M 0 rfl rfl Tryz.el68.sized rfl rfl rfl rfl (Nat.le_of_ble_eq_true rfl) (cel_cons rfl (cel_cons rfl cel_nil)) rfl rfl (fun w7 M => ?_)
  refine WL.nil (W.block ?_)
  replace M := M.sel (L' := [bk b5 #[(vI rt.at_), (vI rt.turn)] 68, bk b1 #[(vS sZ), (vI 0)] 55, arenaC 107 112 S ab l]) [0, 1, 2] rfl (by decide)
  refine W.loop (fun kk ρ w' => ∃ (hb_ : Nat) (h_ : Handle) (d_ : Nat) (b_ : THit × Bool), ((lookOk d_ l h_) ∧ (leastT d_ l h_ p b_ = leastT d l rt p noHit) ∧ kk = d_ + 1) ∧ ρ.has [(0, (vP tb)), (1, f), (4, (vP b1)), (5, (vB b_.2)), (6, (vP hb_))] ∧ Mem G X w [bk hb_ #[(vI h_.at_), (vI h_.turn)] 68, bk b1 #[(vS b_.1.key), (vI b_.1.val)] 55, arenaC 107 112 S ab l] [bF tb #[(vP ab), (vI rt.at_), (vI rt.turn), (vB fu), (vI ln)] 70, FnS Tryz.prog f p]  w') _ ⟨b5, rt, d, noHit, ⟨(hLk (by simpa using h3)), rfl, rfl⟩, ⟨rfl, rfl, rfl, rfl, rfl, rfl, rfl⟩, M⟩ ?_
  rintro _ ρ9 w8 ⟨hb_, h_, d_, b_, ⟨hi10, hi11, rfl⟩, hρ, M⟩
  obtain ⟨ρ9, rfl⟩ := hρ.know
  clear hρ
  have hLk_ : lookOk d_ l h_ := hi10
  have hEq_ : leastT d_ l h_ p b_ = leastT d l rt p noHit := hi11
  obtain ⟨n, hn⟩ : ∃ n, (rget l h_).1 = n := ⟨_, rfl⟩
  obtain ⟨⟨ht1, ht2, ht3⟩, hvl⟩ := lookOk_node hLk_ hn
  refine W.seq' (W.block (wR (wM (vP tb) (wS (Value.agg #[(vI h_.at_), (vI h_.turn)]) rfl (Step.loadN Tryz.ag68 rfl (M.blk 0 rfl) (Nat.le_of_ble_eq_true rfl) rfl) ?_))))
  have fq := M.frm [arenaC 107 112 S ab l] [bk hb_ #[(vI h_.at_), (vI h_.turn)] 68, bk b1 #[(vS b_.1.key), (vI b_.1.val)] 55] [2, 0, 1] rfl
  refine WL.callX rfl (tr_node tb ab rt fu ln l S h_ (by assumption) n hn (M.eF fq ⟨(M.rF fq 0 rfl), trivial⟩)) (CallsF.func Tryz.en52 rfl) ?_
  rintro _ w15 ⟨kv12, dv13, vv14, rfl, m⟩
  replace M := M.lF fq m
  clear m
  have sl16 : IsSl kv12 := SlAt.isSl (own_slAt (Mem.chunk M 1 rfl).inv)
  have hle17 := SlAt.le' (own_slAt (Mem.chunk M 1 rfl).inv)
  have sl18 : IsSl dv13 := SlAt.isSl (own_slAt (Mem.chunk M 2 rfl).inv)
  have hle19 := SlAt.le' (own_slAt (Mem.chunk M 2 rfl).inv)
  have sl20 : IsSl vv14 := SlAt.isSl (own_slAt (Mem.chunk M 3 rfl).inv)
  have hle21 := SlAt.le' (own_slAt (Mem.chunk M 3 rfl).inv)
  refine WL.alloc (c := #[(vB false), vZ, vZ, vZ]) M rfl Tryz.el93.zero rfl (fun b22 w23 hb22 M => ?_)
  refine WL.store (v := (Value.agg #[(vB n.leaf), kv12, dv13, vv14])) (cs := [(vB n.leaf), kv12, dv13, vv14]) (c' := #[(vB n.leaf), kv12, dv13, vv14]) M 0 rfl rfl Tryz.el93.sized rfl rfl rfl rfl (Nat.le_of_ble_eq_true rfl) (cel_cons rfl (cel_cons (IsSl.cel sl16) (cel_cons (IsSl.cel sl18) (cel_cons (IsSl.cel sl20) cel_nil)))) rfl rfl (fun w24 M => ?_)
  refine WL.nil (wR (wA (vI 0) (WL.nil (W.seq' (W.block ?_)))))
  refine W.loop (fun kk ρ w' => ∃ (i_ : Nat), ((i_ ≤ n.keys.length) ∧ (∀ j u, j < i_ → n.keys[j]? = some u → p u = false) ∧ kk = n.keys.length - i_) ∧ ρ.has [(0, (vP tb)), (1, f), (4, (vP b1)), (5, (vB b_.2)), (6, (vP hb_)), (7, (vP b22)), (8, (vI ↑i_)), (23, (vP tb)), (24, (Value.agg #[(vI h_.at_), (vI h_.turn)])), (25, (Value.agg #[(vB n.leaf), kv12, dv13, vv14]))] ∧ Mem G X w [bk b22 #[(vB n.leaf), kv12, dv13, vv14] 93, arenaC 107 112 S ab l, oS kv12 n.keys, oH dv13 n.kids, oI vv14 n.vals, bk hb_ #[(vI h_.at_), (vI h_.turn)] 68, bk b1 #[(vS b_.1.key), (vI b_.1.val)] 55] [bF tb #[(vP ab), (vI rt.at_), (vI rt.turn), (vB fu), (vI ln)] 70, FnS Tryz.prog f p]  w') _ ⟨0, ⟨(Nat.zero_le _), (fun _ _ h => absurd h (Nat.not_lt_zero _)), rfl⟩, ⟨rfl, rfl, rfl, rfl, rfl, rfl, rfl, rfl, rfl, rfl, rfl, rfl⟩, M⟩ ?_
  rintro _ ρ26 w25 ⟨i_, ⟨hi27, hi28, rfl⟩, hρ, M⟩
  obtain ⟨ρ26, rfl⟩ := hρ.know
  clear hρ
  refine W.seq' (wR (wM (vI ↑i_) (wP (Value.pointer (some ⟨b22, 1, none⟩)) (wS kv12 rfl (Step.load1 Tryz.sc23 rfl ((M.cell 0 rfl 1).trans rfl)) (wS (vI ↑n.keys.length) rfl (Step.lenSl Tryz.un23 rfl (own_slAt (M.chunk 2 rfl).inv)) ?_)))))
  refine wP (vB (decide ((↑i_ : Int) < (↑n.keys.length : Int)))) (wM (vB (decide ((↑i_ : Int) < (↑n.keys.length : Int)))) ?_)
  rcases Bool.eq_false_or_eq_true (decide ((↑i_ : Int) < (↑n.keys.length : Int))) with h29 | h29
  ·
   have h29p := of_decide_eq_true h29
   rw [h29]
   refine wM f (wP (Value.pointer (some ⟨b22, 1, none⟩)) (wS kv12 rfl (Step.load1 Tryz.sc23 rfl ((M.cell 0 rfl 1).trans rfl)) (wM (vI ↑i_) ?_)))
   obtain ⟨cap31, hb30⟩ := SlAt.base (own_slAt (M.chunk 2 rfl).inv) (by omega)
   obtain ⟨x32, hx32⟩ := elem_of_lt (xs := n.keys) (i := i_) (by omega)
   refine wS (vQ kv12 i_ 1) rfl (sX i_ Tryz.un23 Tryz.el9 rfl rfl hb30) (wS (vS x32) rfl (Step.loadE (k := 0) Tryz.sc9 (flat_ec (own_slAt (M.chunk 2 rfl).inv) hx32 strE_len) (by decide) rfl rfl) ?_)
   refine WL.callV rfl rfl rfl ((M.rep 1 rfl : FnS _ _ _ _) x32) ?_
   rintro _ w33 ⟨rfl, ho⟩
   replace M := M.old ho
   refine wP (vB (!(p x32))) (wS (vB (!(p x32))) rfl (Step.pick (t := true) rfl rfl) (WL.nil ?_))
   refine W.cond (t := !(p x32)) rfl (fun h34 => ?_) (fun h34 => ?_)
   ·
    refine W.skip (W.block (W.region rfl (wM (vI ↑i_) (wS (vI (↑i_ + 1)) rfl (Step.add rfl rfl (wrap_i64 (by omega))) (wA (vI (↑i_ + 1)) ?_)))))
    refine WL.nil ?_
    exact ⟨_, (by omega), i_ + 1, ⟨(by omega), (below_stepG hi28 hx32 (by simpa using h34)), rfl⟩, ⟨rfl, rfl, rfl, rfl, rfl, rfl, rfl, rfl, rfl, rfl, rfl, rfl⟩, M⟩
   ·
    have hfi_ : n.keys.findIdx p = i_ := find_at hx32 (by simpa using h34) hi28
    have hil_ : i_ < n.keys.length := (List.getElem?_eq_some_iff.1 hx32).1
    refine W.exit ?_
    refine thn_exit ?_
    refine thn_exit ?_
    refine inBlk_hit ?_
    refine W.seq' (wR (wM (vI ↑i_) (wP (Value.pointer (some ⟨b22, 1, none⟩)) (wS kv12 rfl (Step.load1 Tryz.sc23 rfl ((M.cell 0 rfl 1).trans rfl)) (wS (vI ↑n.keys.length) rfl (Step.lenSl Tryz.un23 rfl (own_slAt (M.chunk 2 rfl).inv)) ?_)))))
    refine wS (vB true) rfl (Step.cast (congrArg Value.bool h29) sP) (WL.nil ?_)
    refine W.cond (t := true) rfl (fun _ => ?_) (fun h => by cases h)
    obtain ⟨cap36, hb35⟩ := SlAt.base (own_slAt (M.chunk 4 rfl).inv) (by omega)
    obtain ⟨x37, hx37⟩ := elem_of_lt (xs := n.vals) (i := i_) (by omega)
    refine W.drawn M [0, 1, 2, 3, 4, 5, 6, 7, 8, 9, 10, 11, 12] [11] [] _ _ (sY (sY (sY (sY (sY (sY (sN sE))))))) (fun _ h => h) Tryz.mixed (by kernel_rfl) ?_
    refine tP (Value.pointer (some ⟨b22, 1, none⟩)) rfl (fun w => sP) ?_
    refine tR kv12 rfl (fun A w M => (Step.load1 Tryz.sc23 rfl ((M.cell 1 rfl 1).trans rfl))) ?_
    refine tP (vI ↑i_) rfl (fun w => (Step.move rfl)) ?_
    refine tP (vQ kv12 i_ 1) rfl (fun w => (sX i_ Tryz.un23 Tryz.el9 rfl rfl hb30)) ?_
    refine tR (vS x32) rfl (fun A w M => (Step.loadE (k := 0) Tryz.sc9 (flat_ec (own_slAt (M.chunk 3 rfl).inv) hx32 strE_len) (by decide) rfl rfl)) ?_
    refine tP (Value.pointer (some ⟨b22, 3, none⟩)) rfl (fun w => sP) ?_
    refine tR vv14 rfl (fun A w M => (Step.load1 Tryz.sc91 rfl ((M.cell 1 rfl 3).trans rfl))) ?_
    refine tP (vI ↑i_) rfl (fun w => (Step.move rfl)) ?_
    refine tP (vQ vv14 i_ 1) rfl (fun w => (sX i_ Tryz.un91 Tryz.el3 rfl rfl hb35)) ?_
    refine tR (vI x37) rfl (fun A w M => (Step.loadE (k := 0) Tryz.sc3 (flat_ec (own_slAt (M.chunk 5 rfl).inv) hx37 intE_len) (by decide) rfl rfl)) ?_
    refine tP (Value.agg #[(vS x32), (vI x37)]) rfl (fun w => sP) ?_
    refine TW.store (v := (Value.agg #[(vS x32), (vI x37)])) (cs := [(vS x32), (vI x37)]) (c' := #[(vS x32), (vI x37)]) 6 rfl rfl (by decide) rfl Tryz.el55.sized rfl rfl rfl rfl (Nat.le_of_ble_eq_true rfl) (cel_cons rfl (cel_cons rfl cel_nil)) rfl rfl (sY (sY (sY (sY (sY (sY (sN sE))))))) (fun r h => h) ?_
    refine tP (vB true) rfl (fun w => (Step.assign rfl)) ?_
    refine TW.done (fun w40 M => ?_)
    refine W.seq' (wR (wP (vP b22) (wS (vB n.leaf) rfl (Step.load1 Tryz.sc4 rfl ((M.cell 0 rfl 0).trans rfl)) (WL.nil ?_))))
    refine W.cond (t := n.leaf) rfl (fun h41 => ?_) (fun h41 => ?_)
    ·
     have hlf_ : n.leaf = true := h41
     refine wR (wS (Value.agg #[(vS x32), (vI x37)]) rfl (Step.loadN Tryz.ag55 rfl (M.blk 6 rfl) (Nat.le_of_ble_eq_true rfl) rfl) (wM (vB true) ?_))
     refine WL.store (v := (Value.agg #[(vS x32), (vI x37)])) (cs := [(vS x32), (vI x37)]) (c' := #[(vS x32), (vI x37)]) M 6 rfl rfl Tryz.el55.sized rfl rfl rfl rfl (Nat.le_of_ble_eq_true rfl) (cel_cons rfl (cel_cons rfl cel_nil)) rfl rfl (fun w42 M => ?_)
     refine wA (vB true) (WL.nil ?_)
     refine W.ret ?_
     refine ⟨.inl rfl, (Value.tuple #[(Value.agg #[(vS x32), (vI x37)]), (vB true)]), ?_, ?_⟩
     · exact ⟨rfl, (Res.r2 (RV.cellN Tryz.ag55 rfl (M.blk 6 rfl) rfl) (show RV _ _ _ (.tmp 5) (vB true) from by exact rfl))⟩
     refine ⟨?_, M.close [1] rfl (by decide) trivial⟩
     unfold lookT; rw [if_pos (by simpa using h3), ← hEq_, leastT_leaf hn hlf_, hfi_, if_pos hil_]; try simp [hitOf, List.getD, h3, h29p, hx32, h34, hx37, h41]
    ·
     have hlf_ : n.leaf = false := h41
     obtain ⟨e, rfl, hkl_, hLk2_⟩ := lookOk_kid hLk_ hn hlf_
     refine W.skip (W.region rfl (wP (Value.pointer (some ⟨b22, 2, none⟩)) (wS dv13 rfl (Step.load1 Tryz.sc90 rfl ((M.cell 0 rfl 2).trans rfl)) (wM (vI ↑i_) ?_))))
     obtain ⟨cap44, hb43⟩ := SlAt.base (own_slAt (M.chunk 3 rfl).inv) (by omega)
     obtain ⟨x45, hx45⟩ := elem_of_lt (xs := n.kids) (i := i_) (by omega)
     have hgd_ : n.kids.getD i_ hdZero = x45 := by rw [List.getD_eq_getElem?_getD, hx45]; rfl
     refine wS (vQ dv13 i_ 2) rfl (sX i_ Tryz.un90 Tryz.el68 rfl rfl hb43) (wS (Value.agg #[(vI x45.at_), (vI x45.turn)]) rfl (Step.loadEN (k := 0) (cs' := [(vI x45.at_), (vI x45.turn)]) Tryz.ag68 (flat_ec (own_slAt (M.chunk 3 rfl).inv) hx45 handleE_len) (by decide) rfl rfl rfl) ?_)
     refine WL.store (v := (Value.agg #[(vI x45.at_), (vI x45.turn)])) (cs := [(vI x45.at_), (vI x45.turn)]) (c' := #[(vI x45.at_), (vI x45.turn)]) M 5 rfl rfl Tryz.el68.sized rfl rfl rfl rfl (Nat.le_of_ble_eq_true rfl) (cel_cons rfl (cel_cons rfl cel_nil)) rfl rfl (fun w46 M => ?_)
     refine WL.nil (wR (wS (Value.agg #[(vI x45.at_), (vI x45.turn)]) rfl (Step.loadN Tryz.ag68 rfl (M.blk 5 rfl) (Nat.le_of_ble_eq_true rfl) rfl) (WL.nil (W.region rfl ?_))))
     refine WL.alloc (c := #[(vI 0), (vI 0)]) M rfl Tryz.el68.zero rfl (fun b47 w48 hb47 M => ?_)
     refine WL.store (v := (Value.agg #[(vI x45.at_), (vI x45.turn)])) (cs := [(vI x45.at_), (vI x45.turn)]) (c' := #[(vI x45.at_), (vI x45.turn)]) M 0 rfl rfl Tryz.el68.sized rfl rfl rfl rfl (Nat.le_of_ble_eq_true rfl) (cel_cons rfl (cel_cons rfl cel_nil)) rfl rfl (fun w49 M => ?_)
     refine WL.nil ?_
     replace M := M.sel (L' := [bk b47 #[(vI x45.at_), (vI x45.turn)] 68, bk b1 #[(vS x32), (vI x37)] 55, arenaC 107 112 S ab l]) [0, 7, 2] rfl (by decide)
     exact ⟨_, (by omega), b47, x45, e, ((⟨x32, x37⟩ : THit), true), ⟨(hLk2_ _ (List.mem_of_getElem? hx45)), (by rw [← hEq_, leastT_kid hn hlf_, hfi_, hgd_, if_pos hil_]; try simp [hitOf, List.getD, h3, h29p, hx32, h34, hx37, h41, hx45]), rfl⟩, ⟨rfl, rfl, rfl, rfl, rfl, rfl, rfl⟩, M⟩
  ·
   have h29p := of_decide_eq_false h29
   have hfi_ : n.keys.findIdx p = i_ := (find_end (by omega) hi28).trans (by omega)
   have hil_ : ¬ i_ < n.keys.length := by omega
   rw [h29]
   refine WL.pass rfl ?_
   refine WL.pass rfl ?_
   refine WL.pass rfl ?_
   refine WL.pass rfl ?_
   refine WL.pass rfl ?_
   refine WL.pass rfl ?_
   refine WL.pass rfl ?_
   refine WL.pass rfl ?_
   refine wS (vB false) rfl (Step.pick (t := false) rfl rfl) (WL.nil ?_)
   refine W.cond (t := false) rfl (fun h => by cases h) (fun _ => ?_)
   refine W.exit ?_
   refine thn_exit ?_
   refine thn_exit ?_
   refine inBlk_hit ?_
   refine W.seq' (wR (wM (vI ↑i_) (wP (Value.pointer (some ⟨b22, 1, none⟩)) (wS kv12 rfl (Step.load1 Tryz.sc23 rfl ((M.cell 0 rfl 1).trans rfl)) (wS (vI ↑n.keys.length) rfl (Step.lenSl Tryz.un23 rfl (own_slAt (M.chunk 2 rfl).inv)) ?_)))))
   refine wS (vB false) rfl (Step.cast (congrArg Value.bool h29) sP) (WL.nil ?_)
   refine W.cond (t := false) rfl (fun h => by cases h) (fun _ => ?_)
   refine W.skip (W.seq' (wR (wP (vP b22) (wS (vB n.leaf) rfl (Step.load1 Tryz.sc4 rfl ((M.cell 0 rfl 0).trans rfl)) (WL.nil ?_)))))
   refine W.cond (t := n.leaf) rfl (fun h50 => ?_) (fun h50 => ?_)
   ·
    have hlf_ : n.leaf = true := h50
    refine wR (wS (Value.agg #[(vS b_.1.key), (vI b_.1.val)]) rfl (Step.loadN Tryz.ag55 rfl (M.blk 6 rfl) (Nat.le_of_ble_eq_true rfl) rfl) (wM (vB b_.2) ?_))
    refine WL.store (v := (Value.agg #[(vS b_.1.key), (vI b_.1.val)])) (cs := [(vS b_.1.key), (vI b_.1.val)]) (c' := #[(vS b_.1.key), (vI b_.1.val)]) M 6 rfl rfl Tryz.el55.sized rfl rfl rfl rfl (Nat.le_of_ble_eq_true rfl) (cel_cons rfl (cel_cons rfl cel_nil)) rfl rfl (fun w51 M => ?_)
    refine wA (vB b_.2) (WL.nil ?_)
    refine W.ret ?_
    refine ⟨.inl rfl, (Value.tuple #[(Value.agg #[(vS b_.1.key), (vI b_.1.val)]), (vB b_.2)]), ?_, ?_⟩
    · exact ⟨rfl, (Res.r2 (RV.cellN Tryz.ag55 rfl (M.blk 6 rfl) rfl) (show RV _ _ _ (.tmp 5) (vB b_.2) from by exact rfl))⟩
    refine ⟨?_, M.close [1] rfl (by decide) trivial⟩
    unfold lookT; rw [if_pos (by simpa using h3), ← hEq_, leastT_leaf hn hlf_, hfi_, if_neg hil_]; try simp [hitOf, List.getD, h3, h29p, h50]
   ·
    have hlf_ : n.leaf = false := h50
    obtain ⟨e, rfl, hkl_, hLk2_⟩ := lookOk_kid hLk_ hn hlf_
    refine W.skip (W.region rfl (wP (Value.pointer (some ⟨b22, 2, none⟩)) (wS dv13 rfl (Step.load1 Tryz.sc90 rfl ((M.cell 0 rfl 2).trans rfl)) (wM (vI ↑i_) ?_))))
    obtain ⟨cap53, hb52⟩ := SlAt.base (own_slAt (M.chunk 3 rfl).inv) (by omega)
    obtain ⟨x54, hx54⟩ := elem_of_lt (xs := n.kids) (i := i_) (by omega)
    have hgd_ : n.kids.getD i_ hdZero = x54 := by rw [List.getD_eq_getElem?_getD, hx54]; rfl
    refine wS (vQ dv13 i_ 2) rfl (sX i_ Tryz.un90 Tryz.el68 rfl rfl hb52) (wS (Value.agg #[(vI x54.at_), (vI x54.turn)]) rfl (Step.loadEN (k := 0) (cs' := [(vI x54.at_), (vI x54.turn)]) Tryz.ag68 (flat_ec (own_slAt (M.chunk 3 rfl).inv) hx54 handleE_len) (by decide) rfl rfl rfl) ?_)
    refine WL.store (v := (Value.agg #[(vI x54.at_), (vI x54.turn)])) (cs := [(vI x54.at_), (vI x54.turn)]) (c' := #[(vI x54.at_), (vI x54.turn)]) M 5 rfl rfl Tryz.el68.sized rfl rfl rfl rfl (Nat.le_of_ble_eq_true rfl) (cel_cons rfl (cel_cons rfl cel_nil)) rfl rfl (fun w55 M => ?_)
    refine WL.nil (wR (wS (Value.agg #[(vI x54.at_), (vI x54.turn)]) rfl (Step.loadN Tryz.ag68 rfl (M.blk 5 rfl) (Nat.le_of_ble_eq_true rfl) rfl) (WL.nil (W.region rfl ?_))))
    refine WL.alloc (c := #[(vI 0), (vI 0)]) M rfl Tryz.el68.zero rfl (fun b56 w57 hb56 M => ?_)
    refine WL.store (v := (Value.agg #[(vI x54.at_), (vI x54.turn)])) (cs := [(vI x54.at_), (vI x54.turn)]) (c' := #[(vI x54.at_), (vI x54.turn)]) M 0 rfl rfl Tryz.el68.sized rfl rfl rfl rfl (Nat.le_of_ble_eq_true rfl) (cel_cons rfl (cel_cons rfl cel_nil)) rfl rfl (fun w58 M => ?_)
    refine WL.nil ?_
    replace M := M.sel (L' := [bk b56 #[(vI x54.at_), (vI x54.turn)] 68, bk b1 #[(vS b_.1.key), (vI b_.1.val)] 55, arenaC 107 112 S ab l]) [0, 7, 2] rfl (by decide)
    exact ⟨_, (by omega), b56, x54, e, b_, ⟨(hLk2_ _ (List.mem_of_getElem? hx54)), (by rw [← hEq_, leastT_kid hn hlf_, hfi_, hgd_, if_neg hil_]; try simp [hitOf, List.getD, h3, h29p, h50, hx54]), rfl⟩, ⟨rfl, rfl, rfl, rfl, rfl, rfl, rfl⟩, M⟩
end Go.Proofs
set_option maxRecDepth 100000
namespace Go.Proofs
open Go Tp
set_option maxHeartbeats 1000000 in
theorem tr_greatest {G X : Nat → Prop} {w : World} (tb ab : Nat) (rt : Handle) (fu : Bool) (ln : Int) (l : List RPlace) (S : Nat → Prop) (f : Value) (p : ByteArray → Bool)  (hA : SmallA l) (d : Nat) (hLk : fu = true → lookOk d l rt) (M : Mem G X w [arenaC 107 112 S ab l] [bF tb #[(vP ab), (vI rt.at_), (vI rt.turn), (vB fu), (vI ln)] 70, FnS Tryz.prog f p] w) : Rets Tryz.prog 56 #[(vP tb), f] w fun r w' => r = (Value.tuple #[(Value.agg #[(vS (((lookG fu d l rt p).1).key)), (vI (((lookG fu d l rt p).1).val))]), (vB ((lookG fu d l rt p).2))]) ∧ Mem G X w [arenaC 107 112 S ab l] [] w' := by
 refine Rets.enter 69 _ Tryz.func56 rfl Tryz.ntmps56 Tryz.results56 (by simp) ?_
 refine wR ?_
 refine WL.alloc (c := #[(vS sZ), (vI 0)]) M rfl Tryz.el55.zero rfl (fun b1 w2 hb1 M => ?_)
 refine wA (vB false) (WL.nil (W.seq' (wR (wM (vP tb) (wP (vB false) ?_)))))
 refine wM (vB false) (wM (vP tb) (wP (vP tb) (wP (Value.pointer (some ⟨tb, 3, none⟩)) (wS (vB fu) rfl (Step.load1 Tryz.sc4 rfl ((cell_blk (M.rep 0 rfl) 3).trans rfl)) (wP (vB !fu) ?_)))))
 refine wS (vB !fu) rfl (Step.pick (t := false) rfl rfl) (WL.nil ?_)
 refine W.cond (t := !fu) rfl (fun h3 => ?_) (fun h3 => ?_)
 ·
  refine wR (wP (Value.agg #[(vS sZ), (vI 0)]) ?_)
  refine WL.store (v := (Value.agg #[(vS sZ), (vI 0)])) (cs := [(vS sZ), (vI 0)]) (c' := #[(vS sZ), (vI 0)]) M 0 rfl rfl Tryz.el55.sized rfl rfl rfl rfl (Nat.le_of_ble_eq_true rfl) (cel_cons rfl (cel_cons rfl cel_nil)) rfl rfl (fun w4 M => ?_)
  refine wA (vB false) (WL.nil ?_)
  refine W.ret ?_
  refine ⟨.inl rfl, (Value.tuple #[(Value.agg #[(vS sZ), (vI 0)]), (vB false)]), ?_, ?_⟩
  · exact ⟨rfl, (Res.r2 (RV.cellN Tryz.ag55 rfl (M.blk 0 rfl) rfl) (show RV _ _ _ (.tmp 5) (vB false) from by exact rfl))⟩
  refine ⟨?_, M.close [1] rfl (by decide) trivial⟩
  have hfu_ : fu = false := (by simpa using h3)
  simp [lookG, noHit, hfu_]
 ·
  refine W.skip (wR (wM (vP tb) (wP (vP tb) (wP (Value.pointer (some ⟨tb, 1, none⟩)) (wS (Value.agg #[(vI rt.at_), (vI rt.turn)]) rfl (Step.loadN Tryz.ag68 rfl (M.rep 0 rfl) (Nat.le_of_ble_eq_true rfl) rfl) ?_)))))
  refine WL.alloc (c := #[(vI 0), (vI 0)]) M rfl Tryz.el68.zero rfl (fun b5 w6 hb5 M => ?_)
  refine WL.store (v := (Value.agg #[(vI rt.at_), (vI rt.turn)])) (cs := [(vI rt.at_), (vI rt.turn)]) (c' := #[(vI rt.at_), (vI rt.turn)]) M 0 rfl rfl Tryz.el68.sized rfl rfl rfl rfl (Nat.le_of_ble_eq_true rfl) (cel_cons rfl (cel_cons rfl cel_nil)) rfl rfl (fun w7 M => ?_)
  refine WL.nil (W.block ?_)
  replace M := M.sel (L' := [bk b5 #[(vI rt.at_), (vI rt.turn)] 68, bk b1 #[(vS sZ), (vI 0)] 55, arenaC 107 112 S ab l]) [0, 1, 2] rfl (by decide)
  refine W.loop (fun kk ρ w' => ∃ (hb_ : Nat) (h_ : Handle) (d_ : Nat) (b_ : THit × Bool), ((lookOk d_ l h_) ∧ (greatT d_ l h_ p b_ = greatT d l rt p noHit) ∧ kk = d_ + 1) ∧ ρ.has [(0, (vP tb)), (1, f), (4, (vP b1)), (5, (vB b_.2)), (6, (vP hb_))] ∧ Mem G X w [bk hb_ #[(vI h_.at_), (vI h_.turn)] 68, bk b1 #[(vS b_.1.key), (vI b_.1.val)] 55, arenaC 107 112 S ab l] [bF tb #[(vP ab), (vI rt.at_), (vI rt.turn), (vB fu), (vI ln)] 70, FnS Tryz.prog f p]  w') _ ⟨b5, rt, d, noHit, ⟨(hLk (by simpa using h3)), rfl, rfl⟩, ⟨rfl, rfl, rfl, rfl, rfl, rfl, rfl⟩, M⟩ ?_
  rintro _ ρ9 w8 ⟨hb_, h_, d_, b_, ⟨hi10, hi11, rfl⟩, hρ, M⟩
  obtain ⟨ρ9, rfl⟩ := hρ.know
  clear hρ
  have hLk_ : lookOk d_ l h_ := hi10
  have hEq_ : greatT d_ l h_ p b_ = greatT d l rt p noHit := hi11
  obtain ⟨n, hn⟩ : ∃ n, (rget l h_).1 = n := ⟨_, rfl⟩
  obtain ⟨⟨ht1, ht2, ht3⟩, hvl⟩ := lookOk_node hLk_ hn
  refine W.seq' (W.block (wR (wM (vP tb) (wS (Value.agg #[(vI h_.at_), (vI h_.turn)]) rfl (Step.loadN Tryz.ag68 rfl (M.blk 0 rfl) (Nat.le_of_ble_eq_true rfl) rfl) ?_))))
  have fq := M.frm [arenaC 107 112 S ab l] [bk hb_ #[(vI h_.at_), (vI h_.turn)] 68, bk b1 #[(vS b_.1.key), (vI b_.1.val)] 55] [2, 0, 1] rfl
  refine WL.callX rfl (tr_node tb ab rt fu ln l S h_ (by assumption) n hn (M.eF fq ⟨(M.rF fq 0 rfl), trivial⟩)) (CallsF.func Tryz.en52 rfl) ?_
  rintro _ w15 ⟨kv12, dv13, vv14, rfl, m⟩
  replace M := M.lF fq m
  clear m
  have sl16 : IsSl kv12 := SlAt.isSl (own_slAt (Mem.chunk M 1 rfl).inv)
  have hle17 := SlAt.le' (own_slAt (Mem.chunk M 1 rfl).inv)
  have sl18 : IsSl dv13 := SlAt.isSl (own_slAt (Mem.chunk M 2 rfl).inv)
  have hle19 := SlAt.le' (own_slAt (Mem.chunk M 2 rfl).inv)
  have sl20 : IsSl vv14 := SlAt.isSl (own_slAt (Mem.chunk M 3 rfl).inv)
  have hle21 := SlAt.le' (own_slAt (Mem.chunk M 3 rfl).inv)
  refine WL.alloc (c := #[(vB false), vZ, vZ, vZ]) M rfl Tryz.el93.zero rfl (fun b22 w23 hb22 M => ?_)
  refine WL.store (v := (Value.agg #[(vB n.leaf), kv12, dv13, vv14])) (cs := [(vB n.leaf), kv12, dv13, vv14]) (c' := #[(vB n.leaf), kv12, dv13, vv14]) M 0 rfl rfl Tryz.el93.sized rfl rfl rfl rfl (Nat.le_of_ble_eq_true rfl) (cel_cons rfl (cel_cons (IsSl.cel sl16) (cel_cons (IsSl.cel sl18) (cel_cons (IsSl.cel sl20) cel_nil)))) rfl rfl (fun w24 M => ?_)
  refine WL.nil (wR (wP (Value.pointer (some ⟨b22, 1, none⟩)) (wS kv12 rfl (Step.load1 Tryz.sc23 rfl ((M.cell 0 rfl 1).trans rfl)) (wS (vI ↑n.keys.length) rfl (Step.lenSl Tryz.un23 rfl (own_slAt (M.chunk 2 rfl).inv)) (wA (vI ↑n.keys.length) ?_)))))
  refine WL.nil (W.seq' (W.block ?_))
  refine W.loop (fun kk ρ w' => ∃ (i_ : Nat), ((i_ ≤ n.keys.length) ∧ (∀ j u, i_ ≤ j → n.keys[j]? = some u → p u = false) ∧ kk = i_ + 1) ∧ ρ.has [(0, (vP tb)), (1, f), (4, (vP b1)), (5, (vB b_.2)), (6, (vP hb_)), (7, (vP b22)), (8, (vI ↑i_)), (23, (vP tb)), (24, (Value.agg #[(vI h_.at_), (vI h_.turn)])), (25, (Value.agg #[(vB n.leaf), kv12, dv13, vv14])), (26, (Value.pointer (some ⟨b22, 1, none⟩))), (27, kv12), (28, (vI ↑n.keys.length))] ∧ Mem G X w [bk b22 #[(vB n.leaf), kv12, dv13, vv14] 93, arenaC 107 112 S ab l, oS kv12 n.keys, oH dv13 n.kids, oI vv14 n.vals, bk hb_ #[(vI h_.at_), (vI h_.turn)] 68, bk b1 #[(vS b_.1.key), (vI b_.1.val)] 55] [bF tb #[(vP ab), (vI rt.at_), (vI rt.turn), (vB fu), (vI ln)] 70, FnS Tryz.prog f p]  w') _ ⟨n.keys.length, ⟨(Nat.le_refl _), (fun j u h hu => absurd (List.getElem?_eq_some_iff.1 hu).1 (by omega)), rfl⟩, ⟨rfl, rfl, rfl, rfl, rfl, rfl, rfl, rfl, rfl, rfl, rfl, rfl, rfl, rfl, rfl⟩, M⟩ ?_
  rintro _ ρ26 w25 ⟨i_, ⟨hi27, hi28, rfl⟩, hρ, M⟩
  obtain ⟨ρ26, rfl⟩ := hρ.know
  clear hρ
  refine W.seq' (wR (wM (vI ↑i_) (wP (vB (decide ((↑i_ : Int) > (0 : Int)))) (wM (vB (decide ((↑i_ : Int) > (0 : Int)))) ?_))))
  rcases Bool.eq_false_or_eq_true (decide ((↑i_ : Int) > (0 : Int))) with h29 | h29
  ·
   have h29p := of_decide_eq_true h29
   rw [h29]
   refine wM f (wP (Value.pointer (some ⟨b22, 1, none⟩)) (wS kv12 rfl (Step.load1 Tryz.sc23 rfl ((M.cell 0 rfl 1).trans rfl)) (wM (vI ↑i_) (wS (vI (↑(i_ - 1))) rfl (Step.cast (congrArg (Value.int .i64) (show ((↑i_ : Int) - 1 : Int) = ↑(i_ - 1) by omega)) (Step.sub rfl rfl (wrap_i64 (by omega)))) ?_))))
   obtain ⟨cap31, hb30⟩ := SlAt.base (own_slAt (M.chunk 2 rfl).inv) (by omega)
   obtain ⟨x32, hx32⟩ := elem_of_lt (xs := n.keys) (i := i_ - 1) (by omega)
   refine wS (vQ kv12 (i_ - 1) 1) rfl (sX (i_ - 1) Tryz.un23 Tryz.el9 rfl rfl hb30) (wS (vS x32) rfl (Step.loadE (k := 0) Tryz.sc9 (flat_ec (own_slAt (M.chunk 2 rfl).inv) hx32 strE_len) (by decide) rfl rfl) ?_)
   refine WL.callV rfl rfl rfl ((M.rep 1 rfl : FnS _ _ _ _) x32) ?_
   rintro _ w33 ⟨rfl, ho⟩
   replace M := M.old ho
   refine wP (vB (!(p x32))) (wS (vB (!(p x32))) rfl (Step.pick (t := true) rfl rfl) (WL.nil ?_))
   refine W.cond (t := !(p x32)) rfl (fun h34 => ?_) (fun h34 => ?_)
   ·
    refine W.skip (W.block (W.region rfl (wM (vI ↑i_) (wS (vI (↑(i_ - 1))) rfl (Step.cast (congrArg (Value.int .i64) (show ((↑i_ : Int) - 1 : Int) = ↑(i_ - 1) by omega)) (Step.sub rfl rfl (wrap_i64 (by omega)))) (wA (vI (↑(i_ - 1))) ?_)))))
    refine WL.nil ?_
    exact ⟨_, (by omega), i_ - 1, ⟨(by omega), (above_step hi28 hx32 (by simpa using h34)), rfl⟩, ⟨rfl, rfl, rfl, rfl, rfl, rfl, rfl, rfl, rfl, rfl, rfl, rfl, rfl, rfl, rfl⟩, M⟩
   ·
    have hfi_ : endI n.keys p = i_ := endI_eq (by omega) hi28 (fun _ => ⟨_, hx32, by simpa using h34⟩)
    have hil_ : 0 < i_ := by omega
    refine W.exit ?_
    refine thn_exit ?_
    refine thn_exit ?_
    refine inBlk_hit ?_
    refine W.seq' (wR (wM (vI ↑i_) (wS (vB true) rfl (Step.cast (congrArg Value.bool h29) sP) (WL.nil ?_))))
    refine W.cond (t := true) rfl (fun _ => ?_) (fun h => by cases h)
    obtain ⟨cap36, hb35⟩ := SlAt.base (own_slAt (M.chunk 4 rfl).inv) (by omega)
    obtain ⟨x37, hx37⟩ := elem_of_lt (xs := n.vals) (i := i_ - 1) (by omega)
    refine W.drawn M [0, 1, 2, 3, 4, 5, 6, 7, 8, 9, 10, 11, 12, 13, 14] [13] [] _ _ (sY (sY (sY (sY (sY (sY (sN sE))))))) (fun _ h => h) Tryz.mixed (by kernel_rfl) ?_
    refine tP (Value.pointer (some ⟨b22, 1, none⟩)) rfl (fun w => sP) ?_
    refine tR kv12 rfl (fun A w M => (Step.load1 Tryz.sc23 rfl ((M.cell 1 rfl 1).trans rfl))) ?_
    refine tP (vI ↑i_) rfl (fun w => (Step.move rfl)) ?_
    refine tP (vI (↑(i_ - 1))) rfl (fun w => (Step.cast (congrArg (Value.int .i64) (show ((↑i_ : Int) - 1 : Int) = ↑(i_ - 1) by omega)) (Step.sub rfl rfl (wrap_i64 (by omega))))) ?_
    refine tP (vQ kv12 (i_ - 1) 1) rfl (fun w => (sX (i_ - 1) Tryz.un23 Tryz.el9 rfl rfl hb30)) ?_
    refine tR (vS x32) rfl (fun A w M => (Step.loadE (k := 0) Tryz.sc9 (flat_ec (own_slAt (M.chunk 3 rfl).inv) hx32 strE_len) (by decide) rfl rfl)) ?_
    refine tP (Value.pointer (some ⟨b22, 3, none⟩)) rfl (fun w => sP) ?_
    refine tR vv14 rfl (fun A w M => (Step.load1 Tryz.sc91 rfl ((M.cell 1 rfl 3).trans rfl))) ?_
    refine tP (vI ↑i_) rfl (fun w => (Step.move rfl)) ?_
    refine tP (vI (↑(i_ - 1))) rfl (fun w => (Step.cast (congrArg (Value.int .i64) (show ((↑i_ : Int) - 1 : Int) = ↑(i_ - 1) by omega)) (Step.sub rfl rfl (wrap_i64 (by omega))))) ?_
    refine tP (vQ vv14 (i_ - 1) 1) rfl (fun w => (sX (i_ - 1) Tryz.un91 Tryz.el3 rfl rfl hb35)) ?_
    refine tR (vI x37) rfl (fun A w M => (Step.loadE (k := 0) Tryz.sc3 (flat_ec (own_slAt (M.chunk 5 rfl).inv) hx37 intE_len) (by decide) rfl rfl)) ?_
    refine tP (Value.agg #[(vS x32), (vI x37)]) rfl (fun w => sP) ?_
    refine TW.store (v := (Value.agg #[(vS x32), (vI x37)])) (cs := [(vS x32), (vI x37)]) (c' := #[(vS x32), (vI x37)]) 6 rfl rfl (by decide) rfl Tryz.el55.sized rfl rfl rfl rfl (Nat.le_of_ble_eq_true rfl) (cel_cons rfl (cel_cons rfl cel_nil)) rfl rfl (sY (sY (sY (sY (sY (sY (sN sE))))))) (fun r h => h) ?_
    refine tP (vB true) rfl (fun w => (Step.assign rfl)) ?_
    refine TW.done (fun w40 M => ?_)
    refine W.seq' (wR (wP (vP b22) (wS (vB n.leaf) rfl (Step.load1 Tryz.sc4 rfl ((M.cell 0 rfl 0).trans rfl)) (WL.nil ?_))))
    refine W.cond (t := n.leaf) rfl (fun h41 => ?_) (fun h41 => ?_)
    ·
     have hlf_ : n.leaf = true := h41
     refine wR (wS (Value.agg #[(vS x32), (vI x37)]) rfl (Step.loadN Tryz.ag55 rfl (M.blk 6 rfl) (Nat.le_of_ble_eq_true rfl) rfl) (wM (vB true) ?_))
     refine WL.store (v := (Value.agg #[(vS x32), (vI x37)])) (cs := [(vS x32), (vI x37)]) (c' := #[(vS x32), (vI x37)]) M 6 rfl rfl Tryz.el55.sized rfl rfl rfl rfl (Nat.le_of_ble_eq_true rfl) (cel_cons rfl (cel_cons rfl cel_nil)) rfl rfl (fun w42 M => ?_)
     refine wA (vB true) (WL.nil ?_)
     refine W.ret ?_
     refine ⟨.inl rfl, (Value.tuple #[(Value.agg #[(vS x32), (vI x37)]), (vB true)]), ?_, ?_⟩
     · exact ⟨rfl, (Res.r2 (RV.cellN Tryz.ag55 rfl (M.blk 6 rfl) rfl) (show RV _ _ _ (.tmp 5) (vB true) from by exact rfl))⟩
     refine ⟨?_, M.close [1] rfl (by decide) trivial⟩
     unfold lookG; rw [if_pos (by simpa using h3), ← hEq_, greatT_leaf hn hlf_, hfi_, if_pos hil_]; try simp [hitOf, List.getD, h3, h29p, hx32, h34, hx37, h41]
    ·
     have hlf_ : n.leaf = false := h41
     obtain ⟨e, rfl, hkl_, hLk2_⟩ := lookOk_kid hLk_ hn hlf_
     refine W.skip (W.region rfl (wP (Value.pointer (some ⟨b22, 2, none⟩)) (wS dv13 rfl (Step.load1 Tryz.sc90 rfl ((M.cell 0 rfl 2).trans rfl)) (wM (vI ↑i_) ?_))))
     obtain ⟨cap44, hb43⟩ := SlAt.base (own_slAt (M.chunk 3 rfl).inv) (by omega)
     obtain ⟨x45, hx45⟩ := elem_of_lt (xs := n.kids) (i := i_) (by omega)
     have hgd_ : n.kids.getD i_ hdZero = x45 := by rw [List.getD_eq_getElem?_getD, hx45]; rfl
     refine wS (vQ dv13 i_ 2) rfl (sX i_ Tryz.un90 Tryz.el68 rfl rfl hb43) (wS (Value.agg #[(vI x45.at_), (vI x45.turn)]) rfl (Step.loadEN (k := 0) (cs' := [(vI x45.at_), (vI x45.turn)]) Tryz.ag68 (flat_ec (own_slAt (M.chunk 3 rfl).inv) hx45 handleE_len) (by decide) rfl rfl rfl) ?_)
     refine WL.store (v := (Value.agg #[(vI x45.at_), (vI x45.turn)])) (cs := [(vI x45.at_), (vI x45.turn)]) (c' := #[(vI x45.at_), (vI x45.turn)]) M 5 rfl rfl Tryz.el68.sized rfl rfl rfl rfl (Nat.le_of_ble_eq_true rfl) (cel_cons rfl (cel_cons rfl cel_nil)) rfl rfl (fun w46 M => ?_)
     refine WL.nil (wR (wS (Value.agg #[(vI x45.at_), (vI x45.turn)]) rfl (Step.loadN Tryz.ag68 rfl (M.blk 5 rfl) (Nat.le_of_ble_eq_true rfl) rfl) (WL.nil (W.region rfl ?_))))
     refine WL.alloc (c := #[(vI 0), (vI 0)]) M rfl Tryz.el68.zero rfl (fun b47 w48 hb47 M => ?_)
     refine WL.store (v := (Value.agg #[(vI x45.at_), (vI x45.turn)])) (cs := [(vI x45.at_), (vI x45.turn)]) (c' := #[(vI x45.at_), (vI x45.turn)]) M 0 rfl rfl Tryz.el68.sized rfl rfl rfl rfl (Nat.le_of_ble_eq_true rfl) (cel_cons rfl (cel_cons rfl cel_nil)) rfl rfl (fun w49 M => ?_)
     refine WL.nil ?_
     replace M := M.sel (L' := [bk b47 #[(vI x45.at_), (vI x45.turn)] 68, bk b1 #[(vS x32), (vI x37)] 55, arenaC 107 112 S ab l]) [0, 7, 2] rfl (by decide)
     exact ⟨_, (by omega), b47, x45, e, ((⟨x32, x37⟩ : THit), true), ⟨(hLk2_ _ (List.mem_of_getElem? hx45)), (by rw [← hEq_, greatT_kid hn hlf_, hfi_, hgd_, if_pos hil_]; try simp [hitOf, List.getD, h3, h29p, hx32, h34, hx37, h41, hx45]), rfl⟩, ⟨rfl, rfl, rfl, rfl, rfl, rfl, rfl⟩, M⟩
  ·
   have h29p := of_decide_eq_false h29
   have hfi_ : endI n.keys p = i_ := endI_eq (by omega) hi28 (fun h_ => absurd h_ (by omega))
   have hil_ : ¬ 0 < i_ := by omega
   rw [h29]
   refine WL.pass rfl ?_
   refine WL.pass rfl ?_
   refine WL.pass rfl ?_
   refine WL.pass rfl ?_
   refine WL.pass rfl ?_
   refine WL.pass rfl ?_
   refine WL.pass rfl ?_
   refine WL.pass rfl ?_
   refine WL.pass rfl ?_
   refine wS (vB false) rfl (Step.pick (t := false) rfl rfl) (WL.nil ?_)
   refine W.cond (t := false) rfl (fun h => by cases h) (fun _ => ?_)
   refine W.exit ?_
   refine thn_exit ?_
   refine thn_exit ?_
   refine inBlk_hit ?_
   refine W.seq' (wR (wM (vI ↑i_) (wS (vB false) rfl (Step.cast (congrArg Value.bool h29) sP) (WL.nil ?_))))
   refine W.cond (t := false) rfl (fun h => by cases h) (fun _ => ?_)
   refine W.skip (W.seq' (wR (wP (vP b22) (wS (vB n.leaf) rfl (Step.load1 Tryz.sc4 rfl ((M.cell 0 rfl 0).trans rfl)) (WL.nil ?_)))))
   refine W.cond (t := n.leaf) rfl (fun h50 => ?_) (fun h50 => ?_)
   ·
    have hlf_ : n.leaf = true := h50
    refine wR (wS (Value.agg #[(vS b_.1.key), (vI b_.1.val)]) rfl (Step.loadN Tryz.ag55 rfl (M.blk 6 rfl) (Nat.le_of_ble_eq_true rfl) rfl) (wM (vB b_.2) ?_))
    refine WL.store (v := (Value.agg #[(vS b_.1.key), (vI b_.1.val)])) (cs := [(vS b_.1.key), (vI b_.1.val)]) (c' := #[(vS b_.1.key), (vI b_.1.val)]) M 6 rfl rfl Tryz.el55.sized rfl rfl rfl rfl (Nat.le_of_ble_eq_true rfl) (cel_cons rfl (cel_cons rfl cel_nil)) rfl rfl (fun w51 M => ?_)
    refine wA (vB b_.2) (WL.nil ?_)
    refine W.ret ?_
    refine ⟨.inl rfl, (Value.tuple #[(Value.agg #[(vS b_.1.key), (vI b_.1.val)]), (vB b_.2)]), ?_, ?_⟩
    · exact ⟨rfl, (Res.r2 (RV.cellN Tryz.ag55 rfl (M.blk 6 rfl) rfl) (show RV _ _ _ (.tmp 5) (vB b_.2) from by exact rfl))⟩
    refine ⟨?_, M.close [1] rfl (by decide) trivial⟩
    unfold lookG; rw [if_pos (by simpa using h3), ← hEq_, greatT_leaf hn hlf_, hfi_, if_neg hil_]; try simp [hitOf, List.getD, h3, h29p, h50]
   ·
    have hlf_ : n.leaf = false := h50
    obtain ⟨e, rfl, hkl_, hLk2_⟩ := lookOk_kid hLk_ hn hlf_
    refine W.skip (W.region rfl (wP (Value.pointer (some ⟨b22, 2, none⟩)) (wS dv13 rfl (Step.load1 Tryz.sc90 rfl ((M.cell 0 rfl 2).trans rfl)) (wM (vI ↑i_) ?_))))
    obtain ⟨cap53, hb52⟩ := SlAt.base (own_slAt (M.chunk 3 rfl).inv) (by omega)
    obtain ⟨x54, hx54⟩ := elem_of_lt (xs := n.kids) (i := i_) (by omega)
    have hgd_ : n.kids.getD i_ hdZero = x54 := by rw [List.getD_eq_getElem?_getD, hx54]; rfl
    refine wS (vQ dv13 i_ 2) rfl (sX i_ Tryz.un90 Tryz.el68 rfl rfl hb52) (wS (Value.agg #[(vI x54.at_), (vI x54.turn)]) rfl (Step.loadEN (k := 0) (cs' := [(vI x54.at_), (vI x54.turn)]) Tryz.ag68 (flat_ec (own_slAt (M.chunk 3 rfl).inv) hx54 handleE_len) (by decide) rfl rfl rfl) ?_)
    refine WL.store (v := (Value.agg #[(vI x54.at_), (vI x54.turn)])) (cs := [(vI x54.at_), (vI x54.turn)]) (c' := #[(vI x54.at_), (vI x54.turn)]) M 5 rfl rfl Tryz.el68.sized rfl rfl rfl rfl (Nat.le_of_ble_eq_true rfl) (cel_cons rfl (cel_cons rfl cel_nil)) rfl rfl (fun w55 M => ?_)
    refine WL.nil (wR (wS (Value.agg #[(vI x54.at_), (vI x54.turn)]) rfl (Step.loadN Tryz.ag68 rfl (M.blk 5 rfl) (Nat.le_of_ble_eq_true rfl) rfl) (WL.nil (W.region rfl ?_))))
    refine WL.alloc (c := #[(vI 0), (vI 0)]) M rfl Tryz.el68.zero rfl (fun b56 w57 hb56 M => ?_)
    refine WL.store (v := (Value.agg #[(vI x54.at_), (vI x54.turn)])) (cs := [(vI x54.at_), (vI x54.turn)]) (c' := #[(vI x54.at_), (vI x54.turn)]) M 0 rfl rfl Tryz.el68.sized rfl rfl rfl rfl (Nat.le_of_ble_eq_true rfl) (cel_cons rfl (cel_cons rfl cel_nil)) rfl rfl (fun w58 M => ?_)
    refine WL.nil ?_
    replace M := M.sel (L' := [bk b56 #[(vI x54.at_), (vI x54.turn)] 68, bk b1 #[(vS b_.1.key), (vI b_.1.val)] 55, arenaC 107 112 S ab l]) [0, 7, 2] rfl (by decide)
    exact ⟨_, (by omega), b56, x54, e, b_, ⟨(hLk2_ _ (List.mem_of_getElem? hx54)), (by rw [← hEq_, greatT_kid hn hlf_, hfi_, hgd_, if_neg hil_]; try simp [hitOf, List.getD, h3, h29p, h50, hx54]), rfl⟩, ⟨rfl, rfl, rfl, rfl, rfl, rfl, rfl⟩, M⟩
end Go.Proofs
set_option maxRecDepth 100000
namespace Go.Proofs
open Go Tp
theorem Tryz.en54 : Enters Tryz.prog 54 := fun _ _ => by kernel_rfl
theorem Tryz.en55 : Enters Tryz.prog 55 := fun _ _ => by kernel_rfl
theorem Tryz.en56 : Enters Tryz.prog 56 := fun _ _ => by kernel_rfl
theorem Tryz.en57 : Enters Tryz.prog 57 := fun _ _ => by kernel_rfl
theorem Tryz.en61 : Enters Tryz.prog 61 := fun _ _ => by kernel_rfl
theorem Tryz.en62 : Enters Tryz.prog 62 := fun _ _ => by kernel_rfl
theorem tst_from {G : Nat → Prop} {w : World} (x : ByteArray) (kb : Nat) (k : ByteArray)   (M : Mem G (fun _ => False) w [] [bF kb #[(vS k)] 9] w) : Rets Tryz.prog 55 #[(vS x), (vP kb)] w fun r w' => r = (vB ((fun (x : ByteArray) => !(sLt x k)) x)) ∧ Mem G (fun _ => False) w [] [] w' := by
 refine Rets.enter 7 _ Tryz.func55 rfl Tryz.ntmps55 Tryz.results55 (by simp) ?_
 refine wR (wA (vB false) (WL.nil (wR (wM (vS x) (wS (vS k) rfl (Step.load1 Tryz.sc9 rfl ((cell_blk (M.rep 0 rfl) 0).trans rfl)) ?_)))))
 refine wP (vB (!(sLt x k))) (wA (vB (!(sLt x k))) (WL.nil ?_))
 refine W.ret ?_
 refine ⟨.inl rfl, (vB (!(sLt x k))), ?_, ?_⟩
 · exact ⟨rfl, (Res.r1 (show RV _ _ _ (.tmp 3) (vB (!(sLt x k))) from by exact rfl))⟩
 refine ⟨?_, M.close [] rfl (by decide) trivial⟩
 refine congrArg Value.bool ?_
 first | rfl | exact sGt _ _ | exact sLe _ _
theorem tst_after {G : Nat → Prop} {w : World} (x : ByteArray) (kb : Nat) (k : ByteArray)   (M : Mem G (fun _ => False) w [] [bF kb #[(vS k)] 9] w) : Rets Tryz.prog 61 #[(vS x), (vP kb)] w fun r w' => r = (vB ((fun (x : ByteArray) => sLt k x) x)) ∧ Mem G (fun _ => False) w [] [] w' := by
 refine Rets.enter 7 _ Tryz.func61 rfl Tryz.ntmps61 Tryz.results61 (by simp) ?_
 refine wR (wA (vB false) (WL.nil (wR (wM (vS x) (wS (vS k) rfl (Step.load1 Tryz.sc9 rfl ((cell_blk (M.rep 0 rfl) 0).trans rfl)) ?_)))))
 refine wP (vB (!(sLt x k || x.toList == k.toList))) (wA (vB (!(sLt x k || x.toList == k.toList))) (WL.nil ?_))
 refine W.ret ?_
 refine ⟨.inl rfl, (vB (!(sLt x k || x.toList == k.toList))), ?_, ?_⟩
 · exact ⟨rfl, (Res.r1 (show RV _ _ _ (.tmp 3) (vB (!(sLt x k || x.toList == k.toList))) from by exact rfl))⟩
 refine ⟨?_, M.close [] rfl (by decide) trivial⟩
 refine congrArg Value.bool ?_
 first | rfl | exact sGt _ _ | exact sLe _ _
theorem tst_upto {G : Nat → Prop} {w : World} (x : ByteArray) (kb : Nat) (k : ByteArray)   (M : Mem G (fun _ => False) w [] [bF kb #[(vS k)] 9] w) : Rets Tryz.prog 62 #[(vS x), (vP kb)] w fun r w' => r = (vB ((fun (x : ByteArray) => !(sLt k x)) x)) ∧ Mem G (fun _ => False) w [] [] w' := by
 refine Rets.enter 7 _ Tryz.func62 rfl Tryz.ntmps62 Tryz.results62 (by simp) ?_
 refine wR (wA (vB false) (WL.nil (wR (wM (vS x) (wS (vS k) rfl (Step.load1 Tryz.sc9 rfl ((cell_blk (M.rep 0 rfl) 0).trans rfl)) ?_)))))
 refine wP (vB (sLt x k || x.toList == k.toList)) (wA (vB (sLt x k || x.toList == k.toList)) (WL.nil ?_))
 refine W.ret ?_
 refine ⟨.inl rfl, (vB (sLt x k || x.toList == k.toList)), ?_, ?_⟩
 · exact ⟨rfl, (Res.r1 (show RV _ _ _ (.tmp 3) (vB (sLt x k || x.toList == k.toList)) from by exact rfl))⟩
 refine ⟨?_, M.close [] rfl (by decide) trivial⟩
 refine congrArg Value.bool ?_
 first | rfl | exact sGt _ _ | exact sLe _ _
theorem tst_before {G : Nat → Prop} {w : World} (x : ByteArray) (kb : Nat) (k : ByteArray)   (M : Mem G (fun _ => False) w [] [bF kb #[(vS k)] 9] w) : Rets Tryz.prog 57 #[(vS x), (vP kb)] w fun r w' => r = (vB ((fun (x : ByteArray) => sLt x k) x)) ∧ Mem G (fun _ => False) w [] [] w' := by
 refine Rets.enter 7 _ Tryz.func57 rfl Tryz.ntmps57 Tryz.results57 (by simp) ?_
 refine wR (wA (vB false) (WL.nil (wR (wM (vS x) (wS (vS k) rfl (Step.load1 Tryz.sc9 rfl ((cell_blk (M.rep 0 rfl) 0).trans rfl)) ?_)))))
 refine wP (vB (sLt x k)) (wA (vB (sLt x k)) (WL.nil ?_))
 refine W.ret ?_
 refine ⟨.inl rfl, (vB (sLt x k)), ?_, ?_⟩
 · exact ⟨rfl, (Res.r1 (show RV _ _ _ (.tmp 3) (vB (sLt x k)) from by exact rfl))⟩
 refine ⟨?_, M.close [] rfl (by decide) trivial⟩
 refine congrArg Value.bool ?_
 first | rfl | exact sGt _ _ | exact sLe _ _
theorem tst_first {G : Nat → Prop} {w : World} (x : ByteArray)   (M : Mem G (fun _ => False) w [] [] w) : Rets Tryz.prog 63 #[(vS x)] w fun r w' => r = (vB ((fun (_ : ByteArray) => true) x)) ∧ Mem G (fun _ => False) w [] [] w' := by
 refine Rets.enter 3 _ Tryz.func63 rfl Tryz.ntmps63 Tryz.results63 (by simp) ?_
 refine wR (wA (vB false) (WL.nil (wR (wA (vB true) (WL.nil ?_)))))
 refine W.ret ?_
 refine ⟨.inl rfl, (vB true), ?_, ?_⟩
 · exact ⟨rfl, (Res.r1 (show RV _ _ _ (.tmp 2) (vB true) from by exact rfl))⟩
 refine ⟨?_, M.close [] rfl (by decide) trivial⟩
 refine congrArg Value.bool ?_
 first | rfl | exact sGt _ _ | exact sLe _ _
theorem tst_last1 {G : Nat → Prop} {w : World} (x : ByteArray)   (M : Mem G (fun _ => False) w [] [] w) : Rets Tryz.prog 64 #[(vS x)] w fun r w' => r = (vB ((fun (_ : ByteArray) => true) x)) ∧ Mem G (fun _ => False) w [] [] w' := by
 refine Rets.enter 3 _ Tryz.func64 rfl Tryz.ntmps64 Tryz.results64 (by simp) ?_
 refine wR (wA (vB false) (WL.nil (wR (wA (vB true) (WL.nil ?_)))))
 refine W.ret ?_
 refine ⟨.inl rfl, (vB true), ?_, ?_⟩
 · exact ⟨rfl, (Res.r1 (show RV _ _ _ (.tmp 2) (vB true) from by exact rfl))⟩
 refine ⟨?_, M.close [] rfl (by decide) trivial⟩
 refine congrArg Value.bool ?_
 first | rfl | exact sGt _ _ | exact sLe _ _
theorem tr_From {G X : Nat → Prop} {w : World} (tb ab : Nat) (rt : Handle) (fu : Bool) (ln : Int) (l : List RPlace) (S : Nat → Prop) (k : ByteArray)  (hA : SmallA l) (d : Nat) (hLk : fu = true → lookOk d l rt) (M : Mem G X w [arenaC 107 112 S ab l] [bF tb #[(vP ab), (vI rt.at_), (vI rt.turn), (vB fu), (vI ln)] 70] w) : Rets Tryz.prog 29 #[(vP tb), (vS k)] w fun r w' => r = (Value.tuple #[(Value.agg #[(vS (((lookT fu d l rt (fun (x : ByteArray) => !(sLt x k))).1).key)), (vI (((lookT fu d l rt (fun (x : ByteArray) => !(sLt x k))).1).val))]), (vB ((lookT fu d l rt (fun (x : ByteArray) => !(sLt x k))).2))]) ∧ Mem G X w [arenaC 107 112 S ab l] [] w' := by
 refine Rets.enter 11 _ Tryz.func29 rfl Tryz.ntmps29 Tryz.results29 (by simp) ?_
 refine wR ?_
 refine WL.box (v := (vS k)) (c := #[(vS k)]) M rfl rfl rfl (fun b1 w2 hb1 M => ?_)
 refine WL.alloc (c := #[(vS sZ), (vI 0)]) M rfl Tryz.el55.zero rfl (fun b3 w4 hb3 M => ?_)
 refine wA (vB false) (WL.nil (wR (wM (vP tb) (wP (Value.func (.func 55) #[] #[(vP b1)]) ?_))))
 have fq := M.frm [arenaC 107 112 S ab l] [bk b3 #[(vS sZ), (vI 0)] 55, bk b1 #[(vS k)] 9] [2, 0, 1] rfl
 refine WL.callX rfl (tr_least tb ab rt fu ln l S (Value.func (.func 55) #[] #[(vP b1)]) (fun (x : ByteArray) => !(sLt x k)) (by assumption) d (by assumption) (M.eF fq ⟨(M.rF fq 0 rfl), ((M.cF fq 1 rfl).imp fun w_ hb_ x_ => RetsV.of_rets Tryz.en55 rfl (Rets.mono (tst_from x_ b1 k (Mem.law0 ⟨Sh.blk hb_ trivial, trivial⟩)) (fun r_ w2_ h_ => ⟨h_.1, h_.2.mod⟩))), trivial⟩)) (CallsF.func Tryz.en54 rfl) ?_
 rintro _ w5 ⟨rfl, m⟩
 replace M := M.lF fq m
 clear m
 refine wP (Value.agg #[(vS (((lookT fu d l rt (fun (x : ByteArray) => !(sLt x k))).1).key)), (vI (((lookT fu d l rt (fun (x : ByteArray) => !(sLt x k))).1).val))]) (wP (vB ((lookT fu d l rt (fun (x : ByteArray) => !(sLt x k))).2)) ?_)
 refine WL.store (v := (Value.agg #[(vS (((lookT fu d l rt (fun (x : ByteArray) => !(sLt x k))).1).key)), (vI (((lookT fu d l rt (fun (x : ByteArray) => !(sLt x k))).1).val))])) (cs := [(vS (((lookT fu d l rt (fun (x : ByteArray) => !(sLt x k))).1).key)), (vI (((lookT fu d l rt (fun (x : ByteArray) => !(sLt x k))).1).val))]) (c' := #[(vS (((lookT fu d l rt (fun (x : ByteArray) => !(sLt x k))).1).key)), (vI (((lookT fu d l rt (fun (x : ByteArray) => !(sLt x k))).1).val))]) M 1 rfl rfl Tryz.el55.sized rfl rfl rfl rfl (Nat.le_of_ble_eq_true rfl) (cel_cons rfl (cel_cons rfl cel_nil)) rfl rfl (fun w6 M => ?_)
 refine wA (vB ((lookT fu d l rt (fun (x : ByteArray) => !(sLt x k))).2)) (WL.nil ?_)
 refine W.ret ?_
 refine ⟨.inl rfl, (Value.tuple #[(Value.agg #[(vS (((lookT fu d l rt (fun (x : ByteArray) => !(sLt x k))).1).key)), (vI (((lookT fu d l rt (fun (x : ByteArray) => !(sLt x k))).1).val))]), (vB ((lookT fu d l rt (fun (x : ByteArray) => !(sLt x k))).2))]), ?_, ?_⟩
 · exact ⟨rfl, (Res.r2 (RV.cellN Tryz.ag55 rfl (M.blk 1 rfl) rfl) (show RV _ _ _ (.tmp 5) (vB ((lookT fu d l rt (fun (x : ByteArray) => !(sLt x k))).2)) from by exact rfl))⟩
 refine ⟨?_, M.close [0] rfl (by decide) trivial⟩
 rfl
theorem tr_After {G X : Nat → Prop} {w : World} (tb ab : Nat) (rt : Handle) (fu : Bool) (ln : Int) (l : List RPlace) (S : Nat → Prop) (k : ByteArray)  (hA : SmallA l) (d : Nat) (hLk : fu = true → lookOk d l rt) (M : Mem G X w [arenaC 107 112 S ab l] [bF tb #[(vP ab), (vI rt.at_), (vI rt.turn), (vB fu), (vI ln)] 70] w) : Rets Tryz.prog 42 #[(vP tb), (vS k)] w fun r w' => r = (Value.tuple #[(Value.agg #[(vS (((lookT fu d l rt (fun (x : ByteArray) => sLt k x)).1).key)), (vI (((lookT fu d l rt (fun (x : ByteArray) => sLt k x)).1).val))]), (vB ((lookT fu d l rt (fun (x : ByteArray) => sLt k x)).2))]) ∧ Mem G X w [arenaC 107 112 S ab l] [] w' := by
 refine Rets.enter 11 _ Tryz.func42 rfl Tryz.ntmps42 Tryz.results42 (by simp) ?_
 refine wR ?_
 refine WL.box (v := (vS k)) (c := #[(vS k)]) M rfl rfl rfl (fun b1 w2 hb1 M => ?_)
 refine WL.alloc (c := #[(vS sZ), (vI 0)]) M rfl Tryz.el55.zero rfl (fun b3 w4 hb3 M => ?_)
 refine wA (vB false) (WL.nil (wR (wM (vP tb) (wP (Value.func (.func 61) #[] #[(vP b1)]) ?_))))
 have fq := M.frm [arenaC 107 112 S ab l] [bk b3 #[(vS sZ), (vI 0)] 55, bk b1 #[(vS k)] 9] [2, 0, 1] rfl
 refine WL.callX rfl (tr_least tb ab rt fu ln l S (Value.func (.func 61) #[] #[(vP b1)]) (fun (x : ByteArray) => sLt k x) (by assumption) d (by assumption) (M.eF fq ⟨(M.rF fq 0 rfl), ((M.cF fq 1 rfl).imp fun w_ hb_ x_ => RetsV.of_rets Tryz.en61 rfl (Rets.mono (tst_after x_ b1 k (Mem.law0 ⟨Sh.blk hb_ trivial, trivial⟩)) (fun r_ w2_ h_ => ⟨h_.1, h_.2.mod⟩))), trivial⟩)) (CallsF.func Tryz.en54 rfl) ?_
 rintro _ w5 ⟨rfl, m⟩
 replace M := M.lF fq m
 clear m
 refine wP (Value.agg #[(vS (((lookT fu d l rt (fun (x : ByteArray) => sLt k x)).1).key)), (vI (((lookT fu d l rt (fun (x : ByteArray) => sLt k x)).1).val))]) (wP (vB ((lookT fu d l rt (fun (x : ByteArray) => sLt k x)).2)) ?_)
 refine WL.store (v := (Value.agg #[(vS (((lookT fu d l rt (fun (x : ByteArray) => sLt k x)).1).key)), (vI (((lookT fu d l rt (fun (x : ByteArray) => sLt k x)).1).val))])) (cs := [(vS (((lookT fu d l rt (fun (x : ByteArray) => sLt k x)).1).key)), (vI (((lookT fu d l rt (fun (x : ByteArray) => sLt k x)).1).val))]) (c' := #[(vS (((lookT fu d l rt (fun (x : ByteArray) => sLt k x)).1).key)), (vI (((lookT fu d l rt (fun (x : ByteArray) => sLt k x)).1).val))]) M 1 rfl rfl Tryz.el55.sized rfl rfl rfl rfl (Nat.le_of_ble_eq_true rfl) (cel_cons rfl (cel_cons rfl cel_nil)) rfl rfl (fun w6 M => ?_)
 refine wA (vB ((lookT fu d l rt (fun (x : ByteArray) => sLt k x)).2)) (WL.nil ?_)
 refine W.ret ?_
 refine ⟨.inl rfl, (Value.tuple #[(Value.agg #[(vS (((lookT fu d l rt (fun (x : ByteArray) => sLt k x)).1).key)), (vI (((lookT fu d l rt (fun (x : ByteArray) => sLt k x)).1).val))]), (vB ((lookT fu d l rt (fun (x : ByteArray) => sLt k x)).2))]), ?_, ?_⟩
 · exact ⟨rfl, (Res.r2 (RV.cellN Tryz.ag55 rfl (M.blk 1 rfl) rfl) (show RV _ _ _ (.tmp 5) (vB ((lookT fu d l rt (fun (x : ByteArray) => sLt k x)).2)) from by exact rfl))⟩
 refine ⟨?_, M.close [0] rfl (by decide) trivial⟩
 rfl
theorem tr_Upto {G X : Nat → Prop} {w : World} (tb ab : Nat) (rt : Handle) (fu : Bool) (ln : Int) (l : List RPlace) (S : Nat → Prop) (k : ByteArray)  (hA : SmallA l) (d : Nat) (hLk : fu = true → lookOk d l rt) (M : Mem G X w [arenaC 107 112 S ab l] [bF tb #[(vP ab), (vI rt.at_), (vI rt.turn), (vB fu), (vI ln)] 70] w) : Rets Tryz.prog 44 #[(vP tb), (vS k)] w fun r w' => r = (Value.tuple #[(Value.agg #[(vS (((lookG fu d l rt (fun (x : ByteArray) => !(sLt k x))).1).key)), (vI (((lookG fu d l rt (fun (x : ByteArray) => !(sLt k x))).1).val))]), (vB ((lookG fu d l rt (fun (x : ByteArray) => !(sLt k x))).2))]) ∧ Mem G X w [arenaC 107 112 S ab l] [] w' := by
 refine Rets.enter 11 _ Tryz.func44 rfl Tryz.ntmps44 Tryz.results44 (by simp) ?_
 refine wR ?_
 refine WL.box (v := (vS k)) (c := #[(vS k)]) M rfl rfl rfl (fun b1 w2 hb1 M => ?_)
 refine WL.alloc (c := #[(vS sZ), (vI 0)]) M rfl Tryz.el55.zero rfl (fun b3 w4 hb3 M => ?_)
 refine wA (vB false) (WL.nil (wR (wM (vP tb) (wP (Value.func (.func 62) #[] #[(vP b1)]) ?_))))
 have fq := M.frm [arenaC 107 112 S ab l] [bk b3 #[(vS sZ), (vI 0)] 55, bk b1 #[(vS k)] 9] [2, 0, 1] rfl
 refine WL.callX rfl (tr_greatest tb ab rt fu ln l S (Value.func (.func 62) #[] #[(vP b1)]) (fun (x : ByteArray) => !(sLt k x)) (by assumption) d (by assumption) (M.eF fq ⟨(M.rF fq 0 rfl), ((M.cF fq 1 rfl).imp fun w_ hb_ x_ => RetsV.of_rets Tryz.en62 rfl (Rets.mono (tst_upto x_ b1 k (Mem.law0 ⟨Sh.blk hb_ trivial, trivial⟩)) (fun r_ w2_ h_ => ⟨h_.1, h_.2.mod⟩))), trivial⟩)) (CallsF.func Tryz.en56 rfl) ?_
 rintro _ w5 ⟨rfl, m⟩
 replace M := M.lF fq m
 clear m
 refine wP (Value.agg #[(vS (((lookG fu d l rt (fun (x : ByteArray) => !(sLt k x))).1).key)), (vI (((lookG fu d l rt (fun (x : ByteArray) => !(sLt k x))).1).val))]) (wP (vB ((lookG fu d l rt (fun (x : ByteArray) => !(sLt k x))).2)) ?_)
 refine WL.store (v := (Value.agg #[(vS (((lookG fu d l rt (fun (x : ByteArray) => !(sLt k x))).1).key)), (vI (((lookG fu d l rt (fun (x : ByteArray) => !(sLt k x))).1).val))])) (cs := [(vS (((lookG fu d l rt (fun (x : ByteArray) => !(sLt k x))).1).key)), (vI (((lookG fu d l rt (fun (x : ByteArray) => !(sLt k x))).1).val))]) (c' := #[(vS (((lookG fu d l rt (fun (x : ByteArray) => !(sLt k x))).1).key)), (vI (((lookG fu d l rt (fun (x : ByteArray) => !(sLt k x))).1).val))]) M 1 rfl rfl Tryz.el55.sized rfl rfl rfl rfl (Nat.le_of_ble_eq_true rfl) (cel_cons rfl (cel_cons rfl cel_nil)) rfl rfl (fun w6 M => ?_)
 refine wA (vB ((lookG fu d l rt (fun (x : ByteArray) => !(sLt k x))).2)) (WL.nil ?_)
 refine W.ret ?_
 refine ⟨.inl rfl, (Value.tuple #[(Value.agg #[(vS (((lookG fu d l rt (fun (x : ByteArray) => !(sLt k x))).1).key)), (vI (((lookG fu d l rt (fun (x : ByteArray) => !(sLt k x))).1).val))]), (vB ((lookG fu d l rt (fun (x : ByteArray) => !(sLt k x))).2))]), ?_, ?_⟩
 · exact ⟨rfl, (Res.r2 (RV.cellN Tryz.ag55 rfl (M.blk 1 rfl) rfl) (show RV _ _ _ (.tmp 5) (vB ((lookG fu d l rt (fun (x : ByteArray) => !(sLt k x))).2)) from by exact rfl))⟩
 refine ⟨?_, M.close [0] rfl (by decide) trivial⟩
 rfl
theorem tr_Before {G X : Nat → Prop} {w : World} (tb ab : Nat) (rt : Handle) (fu : Bool) (ln : Int) (l : List RPlace) (S : Nat → Prop) (k : ByteArray)  (hA : SmallA l) (d : Nat) (hLk : fu = true → lookOk d l rt) (M : Mem G X w [arenaC 107 112 S ab l] [bF tb #[(vP ab), (vI rt.at_), (vI rt.turn), (vB fu), (vI ln)] 70] w) : Rets Tryz.prog 30 #[(vP tb), (vS k)] w fun r w' => r = (Value.tuple #[(Value.agg #[(vS (((lookG fu d l rt (fun (x : ByteArray) => sLt x k)).1).key)), (vI (((lookG fu d l rt (fun (x : ByteArray) => sLt x k)).1).val))]), (vB ((lookG fu d l rt (fun (x : ByteArray) => sLt x k)).2))]) ∧ Mem G X w [arenaC 107 112 S ab l] [] w' := by
 refine Rets.enter 11 _ Tryz.func30 rfl Tryz.ntmps30 Tryz.results30 (by simp) ?_
 refine wR ?_
 refine WL.box (v := (vS k)) (c := #[(vS k)]) M rfl rfl rfl (fun b1 w2 hb1 M => ?_)
 refine WL.alloc (c := #[(vS sZ), (vI 0)]) M rfl Tryz.el55.zero rfl (fun b3 w4 hb3 M => ?_)
 refine wA (vB false) (WL.nil (wR (wM (vP tb) (wP (Value.func (.func 57) #[] #[(vP b1)]) ?_))))
 have fq := M.frm [arenaC 107 112 S ab l] [bk b3 #[(vS sZ), (vI 0)] 55, bk b1 #[(vS k)] 9] [2, 0, 1] rfl
 refine WL.callX rfl (tr_greatest tb ab rt fu ln l S (Value.func (.func 57) #[] #[(vP b1)]) (fun (x : ByteArray) => sLt x k) (by assumption) d (by assumption) (M.eF fq ⟨(M.rF fq 0 rfl), ((M.cF fq 1 rfl).imp fun w_ hb_ x_ => RetsV.of_rets Tryz.en57 rfl (Rets.mono (tst_before x_ b1 k (Mem.law0 ⟨Sh.blk hb_ trivial, trivial⟩)) (fun r_ w2_ h_ => ⟨h_.1, h_.2.mod⟩))), trivial⟩)) (CallsF.func Tryz.en56 rfl) ?_
 rintro _ w5 ⟨rfl, m⟩
 replace M := M.lF fq m
 clear m
 refine wP (Value.agg #[(vS (((lookG fu d l rt (fun (x : ByteArray) => sLt x k)).1).key)), (vI (((lookG fu d l rt (fun (x : ByteArray) => sLt x k)).1).val))]) (wP (vB ((lookG fu d l rt (fun (x : ByteArray) => sLt x k)).2)) ?_)
 refine WL.store (v := (Value.agg #[(vS (((lookG fu d l rt (fun (x : ByteArray) => sLt x k)).1).key)), (vI (((lookG fu d l rt (fun (x : ByteArray) => sLt x k)).1).val))])) (cs := [(vS (((lookG fu d l rt (fun (x : ByteArray) => sLt x k)).1).key)), (vI (((lookG fu d l rt (fun (x : ByteArray) => sLt x k)).1).val))]) (c' := #[(vS (((lookG fu d l rt (fun (x : ByteArray) => sLt x k)).1).key)), (vI (((lookG fu d l rt (fun (x : ByteArray) => sLt x k)).1).val))]) M 1 rfl rfl Tryz.el55.sized rfl rfl rfl rfl (Nat.le_of_ble_eq_true rfl) (cel_cons rfl (cel_cons rfl cel_nil)) rfl rfl (fun w6 M => ?_)
 refine wA (vB ((lookG fu d l rt (fun (x : ByteArray) => sLt x k)).2)) (WL.nil ?_)
 refine W.ret ?_
 refine ⟨.inl rfl, (Value.tuple #[(Value.agg #[(vS (((lookG fu d l rt (fun (x : ByteArray) => sLt x k)).1).key)), (vI (((lookG fu d l rt (fun (x : ByteArray) => sLt x k)).1).val))]), (vB ((lookG fu d l rt (fun (x : ByteArray) => sLt x k)).2))]), ?_, ?_⟩
 · exact ⟨rfl, (Res.r2 (RV.cellN Tryz.ag55 rfl (M.blk 1 rfl) rfl) (show RV _ _ _ (.tmp 5) (vB ((lookG fu d l rt (fun (x : ByteArray) => sLt x k)).2)) from by exact rfl))⟩
 refine ⟨?_, M.close [0] rfl (by decide) trivial⟩
 rfl
end Go.Proofs
set_option maxRecDepth 100000
namespace Go.Proofs
open Go Tp
theorem Tryz.en29 : Enters Tryz.prog 29 := fun _ _ => by kernel_rfl
theorem Tryz.en63 : Enters Tryz.prog 63 := fun _ _ => by kernel_rfl
theorem Tryz.en64 : Enters Tryz.prog 64 := fun _ _ => by kernel_rfl
theorem tr_First {G X : Nat → Prop} {w : World} (tb ab : Nat) (rt : Handle) (fu : Bool) (ln : Int) (l : List RPlace) (S : Nat → Prop)  (hA : SmallA l) (d : Nat) (hLk : fu = true → lookOk d l rt) (M : Mem G X w [arenaC 107 112 S ab l] [bF tb #[(vP ab), (vI rt.at_), (vI rt.turn), (vB fu), (vI ln)] 70] w) : Rets Tryz.prog 47 #[(vP tb)] w fun r w' => r = (Value.tuple #[(Value.agg #[(vS (((lookT fu d l rt (fun (_ : ByteArray) => true)).1).key)), (vI (((lookT fu d l rt (fun (_ : ByteArray) => true)).1).val))]), (vB ((lookT fu d l rt (fun (_ : ByteArray) => true)).2))]) ∧ Mem G X w [arenaC 107 112 S ab l] [] w' := by
 refine Rets.enter 8 _ Tryz.func47 rfl Tryz.ntmps47 Tryz.results47 (by simp) ?_
 refine wR ?_
 refine WL.alloc (c := #[(vS sZ), (vI 0)]) M rfl Tryz.el55.zero rfl (fun b1 w2 hb1 M => ?_)
 refine wA (vB false) (WL.nil (wR (wM (vP tb) ?_)))
 have fq := M.frm [arenaC 107 112 S ab l] [bk b1 #[(vS sZ), (vI 0)] 55] [1, 0] rfl
 refine WL.callX rfl (tr_least tb ab rt fu ln l S (Value.func (.func 63) #[] #[]) (fun (_ : ByteArray) => true) (by assumption) d (by assumption) (M.eF fq ⟨(M.rF fq 0 rfl), (Sh.pure fun w_ x_ => RetsV.of_rets Tryz.en63 rfl (Rets.mono (tst_first x_ (Mem.law0 trivial)) (fun r_ w2_ h_ => ⟨h_.1, h_.2.mod⟩))), trivial⟩)) (CallsF.func Tryz.en54 rfl) ?_
 rintro _ w3 ⟨rfl, m⟩
 replace M := M.lF fq m
 clear m
 refine wP (Value.agg #[(vS (((lookT fu d l rt (fun (_ : ByteArray) => true)).1).key)), (vI (((lookT fu d l rt (fun (_ : ByteArray) => true)).1).val))]) (wP (vB ((lookT fu d l rt (fun (_ : ByteArray) => true)).2)) ?_)
 refine WL.store (v := (Value.agg #[(vS (((lookT fu d l rt (fun (_ : ByteArray) => true)).1).key)), (vI (((lookT fu d l rt (fun (_ : ByteArray) => true)).1).val))])) (cs := [(vS (((lookT fu d l rt (fun (_ : ByteArray) => true)).1).key)), (vI (((lookT fu d l rt (fun (_ : ByteArray) => true)).1).val))]) (c' := #[(vS (((lookT fu d l rt (fun (_ : ByteArray) => true)).1).key)), (vI (((lookT fu d l rt (fun (_ : ByteArray) => true)).1).val))]) M 1 rfl rfl Tryz.el55.sized rfl rfl rfl rfl (Nat.le_of_ble_eq_true rfl) (cel_cons rfl (cel_cons rfl cel_nil)) rfl rfl (fun w4 M => ?_)
 refine wA (vB ((lookT fu d l rt (fun (_ : ByteArray) => true)).2)) (WL.nil ?_)
 refine W.ret ?_
 refine ⟨.inl rfl, (Value.tuple #[(Value.agg #[(vS (((lookT fu d l rt (fun (_ : ByteArray) => true)).1).key)), (vI (((lookT fu d l rt (fun (_ : ByteArray) => true)).1).val))]), (vB ((lookT fu d l rt (fun (_ : ByteArray) => true)).2))]), ?_, ?_⟩
 · exact ⟨rfl, (Res.r2 (RV.cellN Tryz.ag55 rfl (M.blk 1 rfl) rfl) (show RV _ _ _ (.tmp 3) (vB ((lookT fu d l rt (fun (_ : ByteArray) => true)).2)) from by exact rfl))⟩
 refine ⟨?_, M.close [0] rfl (by decide) trivial⟩
 rfl
theorem tr_Last {G X : Nat → Prop} {w : World} (tb ab : Nat) (rt : Handle) (fu : Bool) (ln : Int) (l : List RPlace) (S : Nat → Prop)  (hA : SmallA l) (d : Nat) (hLk : fu = true → lookOk d l rt) (M : Mem G X w [arenaC 107 112 S ab l] [bF tb #[(vP ab), (vI rt.at_), (vI rt.turn), (vB fu), (vI ln)] 70] w) : Rets Tryz.prog 48 #[(vP tb)] w fun r w' => r = (Value.tuple #[(Value.agg #[(vS (((lookG fu d l rt (fun (_ : ByteArray) => true)).1).key)), (vI (((lookG fu d l rt (fun (_ : ByteArray) => true)).1).val))]), (vB ((lookG fu d l rt (fun (_ : ByteArray) => true)).2))]) ∧ Mem G X w [arenaC 107 112 S ab l] [] w' := by
 refine Rets.enter 8 _ Tryz.func48 rfl Tryz.ntmps48 Tryz.results48 (by simp) ?_
 refine wR ?_
 refine WL.alloc (c := #[(vS sZ), (vI 0)]) M rfl Tryz.el55.zero rfl (fun b1 w2 hb1 M => ?_)
 refine wA (vB false) (WL.nil (wR (wM (vP tb) ?_)))
 have fq := M.frm [arenaC 107 112 S ab l] [bk b1 #[(vS sZ), (vI 0)] 55] [1, 0] rfl
 refine WL.callX rfl (tr_greatest tb ab rt fu ln l S (Value.func (.func 64) #[] #[]) (fun (_ : ByteArray) => true) (by assumption) d (by assumption) (M.eF fq ⟨(M.rF fq 0 rfl), (Sh.pure fun w_ x_ => RetsV.of_rets Tryz.en64 rfl (Rets.mono (tst_last1 x_ (Mem.law0 trivial)) (fun r_ w2_ h_ => ⟨h_.1, h_.2.mod⟩))), trivial⟩)) (CallsF.func Tryz.en56 rfl) ?_
 rintro _ w3 ⟨rfl, m⟩
 replace M := M.lF fq m
 clear m
 refine wP (Value.agg #[(vS (((lookG fu d l rt (fun (_ : ByteArray) => true)).1).key)), (vI (((lookG fu d l rt (fun (_ : ByteArray) => true)).1).val))]) (wP (vB ((lookG fu d l rt (fun (_ : ByteArray) => true)).2)) ?_)
 refine WL.store (v := (Value.agg #[(vS (((lookG fu d l rt (fun (_ : ByteArray) => true)).1).key)), (vI (((lookG fu d l rt (fun (_ : ByteArray) => true)).1).val))])) (cs := [(vS (((lookG fu d l rt (fun (_ : ByteArray) => true)).1).key)), (vI (((lookG fu d l rt (fun (_ : ByteArray) => true)).1).val))]) (c' := #[(vS (((lookG fu d l rt (fun (_ : ByteArray) => true)).1).key)), (vI (((lookG fu d l rt (fun (_ : ByteArray) => true)).1).val))]) M 1 rfl rfl Tryz.el55.sized rfl rfl rfl rfl (Nat.le_of_ble_eq_true rfl) (cel_cons rfl (cel_cons rfl cel_nil)) rfl rfl (fun w4 M => ?_)
 refine wA (vB ((lookG fu d l rt (fun (_ : ByteArray) => true)).2)) (WL.nil ?_)
 refine W.ret ?_
 refine ⟨.inl rfl, (Value.tuple #[(Value.agg #[(vS (((lookG fu d l rt (fun (_ : ByteArray) => true)).1).key)), (vI (((lookG fu d l rt (fun (_ : ByteArray) => true)).1).val))]), (vB ((lookG fu d l rt (fun (_ : ByteArray) => true)).2))]), ?_, ?_⟩
 · exact ⟨rfl, (Res.r2 (RV.cellN Tryz.ag55 rfl (M.blk 1 rfl) rfl) (show RV _ _ _ (.tmp 3) (vB ((lookG fu d l rt (fun (_ : ByteArray) => true)).2)) from by exact rfl))⟩
 refine ⟨?_, M.close [0] rfl (by decide) trivial⟩
 rfl
theorem tr_Get {G X : Nat → Prop} {w : World} (tb ab : Nat) (rt : Handle) (fu : Bool) (ln : Int) (l : List RPlace) (S : Nat → Prop) (k : ByteArray)  (hA : SmallA l) (d : Nat) (hLk : fu = true → lookOk d l rt) (M : Mem G X w [arenaC 107 112 S ab l] [bF tb #[(vP ab), (vI rt.at_), (vI rt.turn), (vB fu), (vI ln)] 70] w) : Rets Tryz.prog 28 #[(vP tb), (vS k)] w fun r w' => r = (Value.tuple #[(vI ((getT fu d l rt k).1)), (vB ((getT fu d l rt k).2))]) ∧ Mem G X w [arenaC 107 112 S ab l] [] w' := by
 refine Rets.enter 24 _ Tryz.func28 rfl Tryz.ntmps28 Tryz.results28 (by simp) ?_
 refine wR (wA (vI 0) (wA (vB false) (WL.nil (wR (wM (vP tb) ?_)))))
 refine wM (vS k) ?_
 have fq := M.frm [arenaC 107 112 S ab l] [] [0] rfl
 refine WL.callX rfl (tr_From tb ab rt fu ln l S k (by assumption) d (by assumption) (M.eF fq ⟨(M.rF fq 0 rfl), trivial⟩)) (CallsF.func Tryz.en29 rfl) ?_
 rintro _ w1 ⟨rfl, m⟩
 replace M := M.lF fq m
 clear m
 refine wM (Value.tuple #[(Value.agg #[(vS (((lookT fu d l rt (fun (x : ByteArray) => !(sLt x k))).1).key)), (vI (((lookT fu d l rt (fun (x : ByteArray) => !(sLt x k))).1).val))]), (vB ((lookT fu d l rt (fun (x : ByteArray) => !(sLt x k))).2))]) (wP (Value.agg #[(vS (((lookT fu d l rt (fun (x : ByteArray) => !(sLt x k))).1).key)), (vI (((lookT fu d l rt (fun (x : ByteArray) => !(sLt x k))).1).val))]) (wP (vB ((lookT fu d l rt (fun (x : ByteArray) => !(sLt x k))).2)) ?_))
 refine WL.alloc (c := #[(vS sZ), (vI 0)]) M rfl Tryz.el55.zero rfl (fun b2 w3 hb2 M => ?_)
 refine WL.store (v := (Value.agg #[(vS (((lookT fu d l rt (fun (x : ByteArray) => !(sLt x k))).1).key)), (vI (((lookT fu d l rt (fun (x : ByteArray) => !(sLt x k))).1).val))])) (cs := [(vS (((lookT fu d l rt (fun (x : ByteArray) => !(sLt x k))).1).key)), (vI (((lookT fu d l rt (fun (x : ByteArray) => !(sLt x k))).1).val))]) (c' := #[(vS (((lookT fu d l rt (fun (x : ByteArray) => !(sLt x k))).1).key)), (vI (((lookT fu d l rt (fun (x : ByteArray) => !(sLt x k))).1).val))]) M 0 rfl rfl Tryz.el55.sized rfl rfl rfl rfl (Nat.le_of_ble_eq_true rfl) (cel_cons rfl (cel_cons rfl cel_nil)) rfl rfl (fun w4 M => ?_)
 refine wA (vB ((lookT fu d l rt (fun (x : ByteArray) => !(sLt x k))).2)) (WL.nil (W.seq' (wR (wM (vB ((lookT fu d l rt (fun (x : ByteArray) => !(sLt x k))).2)) (wP (vB (!((lookT fu d l rt (fun (x : ByteArray) => !(sLt x k))).2))) ?_)))))
 refine wM (vB (!((lookT fu d l rt (fun (x : ByteArray) => !(sLt x k))).2))) ?_
 rcases Bool.eq_false_or_eq_true (!((lookT fu d l rt (fun (x : ByteArray) => !(sLt x k))).2)) with h5 | h5
 ·
  rw [h5]
  refine WL.pass rfl ?_
  refine WL.pass rfl ?_
  refine WL.pass rfl ?_
  refine WL.pass rfl ?_
  refine wS (vB true) rfl (Step.pick (t := true) rfl rfl) (WL.nil ?_)
  refine W.cond (t := true) rfl (fun _ => ?_) (fun h => by cases h)
  refine wR (wA (vI 0) (wA (vB false) (WL.nil ?_)))
  refine W.ret ?_
  refine ⟨.inl rfl, (Value.tuple #[(vI 0), (vB false)]), ?_, ?_⟩
  · exact ⟨rfl, (Res.r2 (show RV _ _ _ (.tmp 4) (vI 0) from by exact rfl) (show RV _ _ _ (.tmp 5) (vB false) from by exact rfl))⟩
  refine ⟨?_, M.close [1] rfl (by decide) trivial⟩
  unfold getT
  simp only [sEq_dec] at *
  simp_all
 ·
  rw [h5]
  refine wP (vP b2) (wS (vS (((lookT fu d l rt (fun (x : ByteArray) => !(sLt x k))).1).key)) rfl (Step.load1 Tryz.sc9 rfl ((M.cell 0 rfl 0).trans rfl)) (wM (vS k) (wP (vB (!((((lookT fu d l rt (fun (x : ByteArray) => !(sLt x k))).1).key).toList == k.toList))) (wS (vB (!((((lookT fu d l rt (fun (x : ByteArray) => !(sLt x k))).1).key).toList == k.toList))) rfl (Step.pick (t := false) rfl rfl) (WL.nil ?_)))))
  refine W.cond (t := !((((lookT fu d l rt (fun (x : ByteArray) => !(sLt x k))).1).key).toList == k.toList)) rfl (fun h6 => ?_) (fun h6 => ?_)
  ·
   refine wR (wA (vI 0) (wA (vB false) (WL.nil ?_)))
   refine W.ret ?_
   refine ⟨.inl rfl, (Value.tuple #[(vI 0), (vB false)]), ?_, ?_⟩
   · exact ⟨rfl, (Res.r2 (show RV _ _ _ (.tmp 4) (vI 0) from by exact rfl) (show RV _ _ _ (.tmp 5) (vB false) from by exact rfl))⟩
   refine ⟨?_, M.close [1] rfl (by decide) trivial⟩
   unfold getT
   simp only [sEq_dec] at *
   simp_all
  ·
   refine W.skip (wR (wP (Value.pointer (some ⟨b2, 1, none⟩)) (wS (vI (((lookT fu d l rt (fun (x : ByteArray) => !(sLt x k))).1).val)) rfl (Step.load1 Tryz.sc3 rfl ((M.cell 0 rfl 1).trans rfl)) (wA (vI (((lookT fu d l rt (fun (x : ByteArray) => !(sLt x k))).1).val)) (wA (vB true) ?_)))))
   refine WL.nil ?_
   refine W.ret ?_
   refine ⟨.inl rfl, (Value.tuple #[(vI (((lookT fu d l rt (fun (x : ByteArray) => !(sLt x k))).1).val)), (vB true)]), ?_, ?_⟩
   · exact ⟨rfl, (Res.r2 (show RV _ _ _ (.tmp 4) (vI (((lookT fu d l rt (fun (x : ByteArray) => !(sLt x k))).1).val)) from by exact rfl) (show RV _ _ _ (.tmp 5) (vB true) from by exact rfl))⟩
   refine ⟨?_, M.close [1] rfl (by decide) trivial⟩
   unfold getT
   simp only [sEq_dec] at *
   simp_all
end Go.Proofs
namespace Tp
open Go
def delR (d : Nat) (l : List RPlace) (r : Handle) (fu : Bool) (ln : Int) (k : ByteArray) : (List RPlace × Handle) × Bool × Int := if (getT fu d l r k).2 then delT d l r fu ln k else ((l, r), fu, ln)
structure DelOk (d : Nat) (l : List RPlace) (r : Handle) (k : ByteArray) : Prop where
  rem : remOk d l r k
  small : SmallA (remF d l r k)
  kids : (rget (remF d l r k) r).1.leaf = false → 1 ≤ (rget (remF d l r k) r).1.kids.length
section
variable {l l1 : List RPlace} {d : Nat} {r c : Handle} {fu : Bool} {ln : Int} {k : ByteArray} {n : Nd}
theorem getT_no (h : (getT fu d l r k).2 = false) : (getT fu d l r k).1 = 0 := by
  unfold getT at *
  split at h
  · cases h
  · rename_i h2; rw [if_neg h2]
theorem delR_no (h : (getT fu d l r k).2 = false) : delR d l r fu ln k = ((l, r), fu, ln) := by unfold delR; simp [h]
theorem delR_keep (h : (getT fu d l r k).2 = true) (h1 : remF d l r k = l1) (hn : (rget l1 r).1 = n) (h0 : ¬ n.keys.length = 0) : delR d l r fu ln k = ((l1, r), fu, ln - 1) := by
  subst h1; subst hn; unfold delR delT; rw [if_pos h]; simp only; rw [if_neg h0]
theorem delR_leaf (h : (getT fu d l r k).2 = true) (h1 : remF d l r k = l1) (hn : (rget l1 r).1 = n) (h0 : n.keys.length = 0) (hl : n.leaf = true) : delR d l r fu ln k = (((rfree l1 [r]).1, r), false, ln - 1) := by
  subst h1; subst hn; unfold delR delT; rw [if_pos h]; simp only; rw [if_pos h0, hl]; simp
theorem delR_kid (h : (getT fu d l r k).2 = true) (h1 : remF d l r k = l1) (hn : (rget l1 r).1 = n) (h0 : n.keys.length = 0) (hl : n.leaf = false) (hc : n.kids.getD 0 hdZero = c) : delR d l r fu ln k = (((rfree l1 [r]).1, c), true, ln - 1) := by
  subst h1; subst hn; subst hc; unfold delR delT; rw [if_pos h]; simp only; rw [if_pos h0, hl]; simp
end
end Tp
set_option maxRecDepth 100000
namespace Go.Proofs
open Go Tp
theorem Tryz.en28 : Enters Tryz.prog 28 := fun _ _ => by kernel_rfl
set_option maxHeartbeats 1000000 in
theorem tab_delete {G X : Nat → Prop} {w : World} (tb ab : Nat) (rt : Handle) (fu : Bool) (ln : Int) (l : List RPlace) (S : Nat → Prop) (k : ByteArray)  (hA : SmallA l) (d : Nat) (hLk : fu = true → lookOk d l rt) (hDel : (getT fu d l rt k).2 = true → DelOk d l rt k) (hln : 0 ≤ ln ∧ ln ≤ 1000000) (M : Mem G X w [bk tb #[(vP ab), (vI rt.at_), (vI rt.turn), (vB fu), (vI ln)] 70, arenaC 107 112 S ab l] [] w) : Rets Tryz.prog 25 #[(vP tb), (vS k)] w fun r w' => ∃ (S' : Nat → Prop), r = (Value.tuple #[(vI ((getT fu d l rt k).1)), (vB ((getT fu d l rt k).2))]) ∧ Mem G X w [bk tb #[(vP ab), (vI (((delR d l rt fu ln k).1.2).at_)), (vI (((delR d l rt fu ln k).1.2).turn)), (vB ((delR d l rt fu ln k).2.1)), (vI ((delR d l rt fu ln k).2.2))] 70, arenaC 107 112 S' ab ((delR d l rt fu ln k).1.1)] [] w' := by
 refine Rets.enter 71 _ Tryz.func25 rfl Tryz.ntmps25 Tryz.results25 (by simp) ?_
 refine wR (wA (vI 0) (wA (vB false) (WL.nil (wR (wM (vP tb) ?_)))))
 refine wM (vS k) ?_
 have fq := M.frm [arenaC 107 112 S ab l] [bk tb #[(vP ab), (vI rt.at_), (vI rt.turn), (vB fu), (vI ln)] 70] [1, 0] rfl
 refine WL.callX rfl (tr_Get tb ab rt fu ln l S k (by assumption) d (by assumption) (M.eF fq ⟨(M.cF fq 0 rfl), trivial⟩)) (CallsF.func Tryz.en28 rfl) ?_
 rintro _ w1 ⟨rfl, m⟩
 replace M := M.lF fq m
 clear m
 refine wM (Value.tuple #[(vI ((getT fu d l rt k).1)), (vB ((getT fu d l rt k).2))]) (wP (vI ((getT fu d l rt k).1)) (wP (vB ((getT fu d l rt k).2)) (wA (vI ((getT fu d l rt k).1)) (wA (vB ((getT fu d l rt k).2)) (WL.nil ?_)))))
 refine W.seq' (wR (wM (vB ((getT fu d l rt k).2)) (wP (vB (!((getT fu d l rt k).2))) (WL.nil ?_))))
 refine W.cond (t := !((getT fu d l rt k).2)) rfl (fun h2 => ?_) (fun h2 => ?_)
 ·
  have hth_ : (getT fu d l rt k).2 = false := by simpa using h2
  refine wR (wA (vI 0) (wA (vB false) (WL.nil ?_)))
  refine W.ret ?_
  refine ⟨.inl rfl, (Value.tuple #[(vI 0), (vB false)]), ?_, ?_⟩
  · exact ⟨rfl, (Res.r2 (show RV _ _ _ (.tmp 4) (vI 0) from by exact rfl) (show RV _ _ _ (.tmp 5) (vB false) from by exact rfl))⟩
  have hg0_ : (getT fu d l rt k).1 = 0 := getT_no hth_
  have e3 : (bk tb #[(vP ab), (vI (((delR d l rt fu ln k).1.2).at_)), (vI (((delR d l rt fu ln k).1.2).turn)), (vB ((delR d l rt fu ln k).2.1)), (vI ((delR d l rt fu ln k).2.2))] 70 : Chunk) = (bk tb #[(vP ab), (vI rt.at_), (vI rt.turn), (vB fu), (vI ln)] 70 : Chunk) := by
   rw [delR_no hth_]
  replace M := M.rechunk 1 (c' := bk tb #[(vP ab), (vI (((delR d l rt fu ln k).1.2).at_)), (vI (((delR d l rt fu ln k).1.2).turn)), (vB ((delR d l rt fu ln k).2.1)), (vI ((delR d l rt fu ln k).2.2))] 70) rfl e3.symm
  have e4 : (delR d l rt fu ln k).1.1 = l := by
   rw [delR_no hth_]
  replace M := M.rechunk 0 (c' := arenaC 107 112 S ab ((delR d l rt fu ln k).1.1)) rfl (congrArg (fun z => arenaC 107 112 S ab z) e4.symm)
  refine ⟨S, ?_, M.close [1, 0] rfl (by decide) trivial⟩
  simp [hg0_, hth_]
 ·
  have hth_ : (getT fu d l rt k).2 = true := by simpa using h2
  obtain ⟨hO, hS, hKd⟩ := hDel hth_
  refine W.skip (wR (wM (vP tb) (wM (vP tb) (wP (vP tb) (wP (Value.pointer (some ⟨tb, 1, none⟩)) ?_)))))
  refine wS (Value.agg #[(vI rt.at_), (vI rt.turn)]) rfl (Step.loadN Tryz.ag68 rfl (M.blk 1 rfl) (Nat.le_of_ble_eq_true rfl) rfl) (wM (vS k) ?_)
  have fq := M.frm [arenaC 107 112 S ab l] [bk tb #[(vP ab), (vI rt.at_), (vI rt.turn), (vB fu), (vI ln)] 70] [0, 1] rfl
  refine WL.callX rfl (tr_remove d tb ab rt fu ln l S rt k (by assumption) (M.eF fq ⟨(M.cF fq 0 rfl), trivial⟩)) (CallsF.func Tryz.en51 rfl) ?_
  rintro _ w6 ⟨S5, rfl, m⟩
  replace M := M.lF fq m
  clear m
  refine WL.nil (W.seq' ?_)
  obtain ⟨l1_, hl1_⟩ : ∃ q, (remF d l rt k) = q := ⟨_, rfl⟩
  rw [hl1_] at hS hKd
  replace M := M.rechunk 0 (c' := arenaC 107 112 S5 ab l1_) rfl (by rw [hl1_])
  refine W.region rfl (wM (vP tb) (wP (vP tb) (wP (Value.pointer (some ⟨tb, 4, none⟩)) (wS (vI ln) rfl (Step.load1 Tryz.sc3 rfl ((M.cell 1 rfl 4).trans rfl)) (wS (vI ((ln : Int) - 1)) rfl (Step.sub rfl rfl (wrap_i64 (by omega))) ?_)))))
  refine wP (vP tb) (wP (Value.pointer (some ⟨tb, 4, none⟩)) ?_)
  refine WL.store (v := (vI ((ln : Int) - 1))) (cs := [(vI ((ln : Int) - 1))]) (c' := #[(vP ab), (vI rt.at_), (vI rt.turn), (vB fu), (vI ((ln : Int) - 1))]) M 1 rfl rfl Tryz.el3.sized rfl rfl rfl rfl (Nat.le_of_ble_eq_true rfl) (cel_cons rfl cel_nil) rfl rfl (fun w7 M => ?_)
  refine WL.nil (W.seq' (wR (wM (vP tb) (wM (vP tb) (wP (vP tb) ?_)))))
  refine wP (Value.pointer (some ⟨tb, 1, none⟩)) (wS (Value.agg #[(vI rt.at_), (vI rt.turn)]) rfl (Step.loadN Tryz.ag68 rfl (M.blk 1 rfl) (Nat.le_of_ble_eq_true rfl) rfl) ?_)
  obtain ⟨n, hn⟩ : ∃ n, (rget l1_ rt).1 = n := ⟨_, rfl⟩
  rw [hn] at hKd
  have fq := M.frm [arenaC 107 112 S5 ab l1_] [bk tb #[(vP ab), (vI rt.at_), (vI rt.turn), (vB fu), (vI ((ln : Int) - 1))] 70] [0, 1] rfl
  refine WL.callX rfl (tr_node tb ab rt fu ((ln : Int) - 1) l1_ S5 rt (by assumption) n hn (M.eF fq ⟨(M.cF fq 0 rfl), trivial⟩)) (CallsF.func Tryz.en52 rfl) ?_
  rintro _ w11 ⟨kv8, dv9, vv10, rfl, m⟩
  replace M := M.lF fq m
  clear m
  have sl12 : IsSl kv8 := SlAt.isSl (own_slAt (Mem.chunk M 1 rfl).inv)
  have hle13 := SlAt.le' (own_slAt (Mem.chunk M 1 rfl).inv)
  have sl14 : IsSl dv9 := SlAt.isSl (own_slAt (Mem.chunk M 2 rfl).inv)
  have hle15 := SlAt.le' (own_slAt (Mem.chunk M 2 rfl).inv)
  have sl16 : IsSl vv10 := SlAt.isSl (own_slAt (Mem.chunk M 3 rfl).inv)
  have hle17 := SlAt.le' (own_slAt (Mem.chunk M 3 rfl).inv)
  refine WL.alloc (c := #[(vB false), vZ, vZ, vZ]) M rfl Tryz.el93.zero rfl (fun b18 w19 hb18 M => ?_)
  refine WL.store (v := (Value.agg #[(vB n.leaf), kv8, dv9, vv10])) (cs := [(vB n.leaf), kv8, dv9, vv10]) (c' := #[(vB n.leaf), kv8, dv9, vv10]) M 0 rfl rfl Tryz.el93.sized rfl rfl rfl rfl (Nat.le_of_ble_eq_true rfl) (cel_cons rfl (cel_cons (IsSl.cel sl12) (cel_cons (IsSl.cel sl14) (cel_cons (IsSl.cel sl16) cel_nil)))) rfl rfl (fun w20 M => ?_)
  refine WL.nil (wR (wP (Value.pointer (some ⟨b18, 1, none⟩)) (wS kv8 rfl (Step.load1 Tryz.sc23 rfl ((M.cell 0 rfl 1).trans rfl)) (wS (vI ↑n.keys.length) rfl (Step.lenSl Tryz.un23 rfl (own_slAt (M.chunk 2 rfl).inv)) (wP (vB ((↑n.keys.length : Int) == (0 : Int))) ?_)))))
  refine WL.nil ?_
  refine W.cond (t := (↑n.keys.length : Int) == (0 : Int)) rfl (fun h21 => ?_) (fun h21 => ?_)
  ·
   have h21p : (↑n.keys.length : Int) = (0 : Int) := by simpa using h21
   refine wR (wM (vP tb) (wP (vP tb) (wP (Value.pointer (some ⟨tb, 1, none⟩)) (wS (Value.agg #[(vI rt.at_), (vI rt.turn)]) rfl (Step.loadN Tryz.ag68 rfl (M.blk 5 rfl) (Nat.le_of_ble_eq_true rfl) rfl) ?_))))
   refine WL.alloc (c := #[(vI 0), (vI 0)]) M rfl Tryz.el68.zero rfl (fun b22 w23 hb22 M => ?_)
   refine WL.store (v := (Value.agg #[(vI rt.at_), (vI rt.turn)])) (cs := [(vI rt.at_), (vI rt.turn)]) (c' := #[(vI rt.at_), (vI rt.turn)]) M 0 rfl rfl Tryz.el68.sized rfl rfl rfl rfl (Nat.le_of_ble_eq_true rfl) (cel_cons rfl (cel_cons rfl cel_nil)) rfl rfl (fun w24 M => ?_)
   refine WL.nil (W.seq' (wR (wM (vP tb) (wP (vP b18) (wS (vB n.leaf) rfl (Step.load1 Tryz.sc4 rfl ((M.cell 1 rfl 0).trans rfl)) ?_)))))
   refine wP (vB !n.leaf) (wP (vP tb) (wP (Value.pointer (some ⟨tb, 3, none⟩)) ?_))
   refine WL.store (v := (vB !n.leaf)) (cs := [(vB !n.leaf)]) (c' := #[(vP ab), (vI rt.at_), (vI rt.turn), (vB !n.leaf), (vI ((ln : Int) - 1))]) M 6 rfl rfl Tryz.el4.sized rfl rfl rfl rfl (Nat.le_of_ble_eq_true rfl) (cel_cons rfl cel_nil) rfl rfl (fun w25 M => ?_)
   refine WL.nil (wR (wM (vP tb) (wP (vP tb) (wP (Value.pointer (some ⟨tb, 3, none⟩)) (wS (vB !n.leaf) rfl (Step.load1 Tryz.sc4 rfl ((M.cell 6 rfl 3).trans rfl)) ?_)))))
   refine WL.nil ?_
   refine W.cond (t := !n.leaf) rfl (fun h26 => ?_) (fun h26 => ?_)
   ·
    have hlf_ : n.leaf = false := by simpa using h26
    have hk1_ := hKd hlf_
    refine W.region rfl (wM (vP tb) (wP (Value.pointer (some ⟨b18, 2, none⟩)) (wS dv9 rfl (Step.load1 Tryz.sc90 rfl ((M.cell 1 rfl 2).trans rfl)) ?_)))
    obtain ⟨cap28, hb27⟩ := SlAt.base (own_slAt (M.chunk 4 rfl).inv) (by omega)
    obtain ⟨x29, hx29⟩ := elem_of_lt (xs := n.kids) (i := 0) (by omega)
    have hgd_ : n.kids.getD 0 hdZero = x29 := by rw [List.getD_eq_getElem?_getD, hx29]; rfl
    refine wS (vQ dv9 0 2) rfl (sX 0 Tryz.un90 Tryz.el68 rfl rfl hb27 rfl) (wS (Value.agg #[(vI x29.at_), (vI x29.turn)]) rfl (Step.loadEN (k := 0) (cs' := [(vI x29.at_), (vI x29.turn)]) Tryz.ag68 (flat_ec (own_slAt (M.chunk 4 rfl).inv) hx29 handleE_len) (by decide) rfl rfl rfl) (wP (vP tb) (wP (Value.pointer (some ⟨tb, 1, none⟩)) ?_)))
    refine WL.store (v := (Value.agg #[(vI x29.at_), (vI x29.turn)])) (cs := [(vI x29.at_), (vI x29.turn)]) (c' := #[(vP ab), (vI x29.at_), (vI x29.turn), (vB !n.leaf), (vI ((ln : Int) - 1))]) M 6 rfl rfl Tryz.el68.sized rfl rfl rfl rfl (Nat.le_of_ble_eq_true rfl) (cel_cons rfl (cel_cons rfl cel_nil)) rfl rfl (fun w30 M => ?_)
    refine WL.nil ?_
    replace M := M.loseI 5
    replace M := M.loseI 4
    replace M := M.loseI 3
    replace M := M.loseI 1
    refine W.drawn M [0, 1, 2, 3, 4, 5, 6] [6] [5] _ _ (sY (sN (sY sE))) (fun _ h => h) Tryz.mixed (by kernel_rfl) ?_
    refine tP (vP tb) rfl (fun w => (Step.move rfl)) ?_
    refine tP (vP tb) rfl (fun w => sP) ?_
    refine tP (vP tb) rfl (fun w => sP) ?_
    refine tR (vP ab) rfl (fun A w M => (Step.load1 Tryz.sc65 rfl ((M.cell 2 rfl 0).trans rfl))) ?_
    refine tR (Value.agg #[(vI rt.at_), (vI rt.turn)]) rfl (fun A w M => (Step.loadN Tryz.ag68 rfl (M.blk 1 rfl) (Nat.le_of_ble_eq_true rfl) rfl)) ?_
    refine TW.new (obj := .cells #[(vI rt.at_), (vI rt.turn)] 68) (fun b => .slice (some ⟨b, 0, none⟩) 1 1) rfl (by decide) (by decide) rfl (fun w => Step.make (by kernel_rfl)) (fun b37 => ?_)
    let Q : List Chunk := [bk b37 #[(vI rt.at_), (vI rt.turn)] 68, bk b22 #[(vI rt.at_), (vI rt.turn)] 68, bk tb #[(vP ab), (vI x29.at_), (vI x29.turn), (vB !n.leaf), (vI ((ln : Int) - 1))] 70]
    refine TW.callX (ι := (Nat → Prop)) (fun jx v_ => v_ = (vI ((rfree l1_ ([rt] : List Handle)).2))) (fun jx => arenaC 107 112 jx ab ((rfree l1_ ([rt] : List Handle)).1) :: Q) (fun jx => []) rfl (by decide) rfl (fun jx => (sN (sN (sY (sY sE))))) (fun jx r h => h) (fun A w M => have fq := M.frm [arenaC 107 112 S5 ab l1_] (fl A :: Q) [3, 0, 1, 2, 4] rfl; Rets.mono (ar_free ab l1_ S5 (Value.slice (some ⟨b37, 0, none⟩) 1 1) ([rt] : List Handle) (by assumption) (M.eF fq ⟨((M.cF fq 1 rfl).imp fun _ h => SlAt.of_blk (n := 1) (size := 2) h rfl (by decide)), trivial⟩)) (fun v_ w_ ⟨S38, e_, m⟩ => ⟨S38, e_, (M.lF fq m).sel [1, 0, 2, 3, 4] rfl (by decide), fun b hb => M.kF fq m b hb⟩)) (fun w => CallsF.func Tryz.en53 rfl) (fun S38 v hp hin => ?_)
    replace hp := hp.symm; subst hp
    obtain ⟨_, _, hin⟩ := hin
    clear hin
    refine TW.done (fun w39 M => ?_)
    refine wR (wM (vI ((getT fu d l rt k).1)) (wA (vI ((getT fu d l rt k).1)) (wA (vB true) (WL.nil ?_))))
    refine W.ret ?_
    refine ⟨.inl rfl, (Value.tuple #[(vI ((getT fu d l rt k).1)), (vB true)]), ?_, ?_⟩
    · exact ⟨rfl, (Res.r2 (show RV _ _ _ (.tmp 4) (vI ((getT fu d l rt k).1)) from by exact rfl) (show RV _ _ _ (.tmp 5) (vB true) from by exact rfl))⟩
    have e40 : (bk tb #[(vP ab), (vI (((delR d l rt fu ln k).1.2).at_)), (vI (((delR d l rt fu ln k).1.2).turn)), (vB ((delR d l rt fu ln k).2.1)), (vI ((delR d l rt fu ln k).2.2))] 70 : Chunk) = (bk tb #[(vP ab), (vI x29.at_), (vI x29.turn), (vB !n.leaf), (vI ((ln : Int) - 1))] 70 : Chunk) := by
     rw [delR_kid hth_ hl1_ hn (by omega) hlf_ hgd_]; simp [hlf_]
    replace M := M.rechunk 3 (c' := bk tb #[(vP ab), (vI (((delR d l rt fu ln k).1.2).at_)), (vI (((delR d l rt fu ln k).1.2).turn)), (vB ((delR d l rt fu ln k).2.1)), (vI ((delR d l rt fu ln k).2.2))] 70) rfl e40.symm
    have e41 : (delR d l rt fu ln k).1.1 = (rfree l1_ ([rt] : List Handle)).1 := by
     rw [delR_kid hth_ hl1_ hn (by omega) hlf_ hgd_]
    replace M := M.rechunk 0 (c' := arenaC 107 112 S38 ab ((delR d l rt fu ln k).1.1)) rfl (congrArg (fun z => arenaC 107 112 S38 ab z) e41.symm)
    refine ⟨S38, ?_, M.close [3, 0] rfl (by decide) trivial⟩
    rw [hth_]
   ·
    have hlf_ : n.leaf = true := by simpa using h26
    refine W.skip ?_
    replace M := M.loseI 5
    replace M := M.loseI 4
    replace M := M.loseI 3
    replace M := M.loseI 1
    refine W.drawn M [0, 1, 2, 3, 4, 5, 6] [6] [5] _ _ (sY (sN (sY sE))) (fun _ h => h) Tryz.mixed (by kernel_rfl) ?_
    refine tP (vP tb) rfl (fun w => (Step.move rfl)) ?_
    refine tP (vP tb) rfl (fun w => sP) ?_
    refine tP (vP tb) rfl (fun w => sP) ?_
    refine tR (vP ab) rfl (fun A w M => (Step.load1 Tryz.sc65 rfl ((M.cell 2 rfl 0).trans rfl))) ?_
    refine tR (Value.agg #[(vI rt.at_), (vI rt.turn)]) rfl (fun A w M => (Step.loadN Tryz.ag68 rfl (M.blk 1 rfl) (Nat.le_of_ble_eq_true rfl) rfl)) ?_
    refine TW.new (obj := .cells #[(vI rt.at_), (vI rt.turn)] 68) (fun b => .slice (some ⟨b, 0, none⟩) 1 1) rfl (by decide) (by decide) rfl (fun w => Step.make (by kernel_rfl)) (fun b48 => ?_)
    let Q : List Chunk := [bk b48 #[(vI rt.at_), (vI rt.turn)] 68, bk b22 #[(vI rt.at_), (vI rt.turn)] 68, bk tb #[(vP ab), (vI rt.at_), (vI rt.turn), (vB !n.leaf), (vI ((ln : Int) - 1))] 70]
    refine TW.callX (ι := (Nat → Prop)) (fun jx v_ => v_ = (vI ((rfree l1_ ([rt] : List Handle)).2))) (fun jx => arenaC 107 112 jx ab ((rfree l1_ ([rt] : List Handle)).1) :: Q) (fun jx => []) rfl (by decide) rfl (fun jx => (sN (sN (sY (sY sE))))) (fun jx r h => h) (fun A w M => have fq := M.frm [arenaC 107 112 S5 ab l1_] (fl A :: Q) [3, 0, 1, 2, 4] rfl; Rets.mono (ar_free ab l1_ S5 (Value.slice (some ⟨b48, 0, none⟩) 1 1) ([rt] : List Handle) (by assumption) (M.eF fq ⟨((M.cF fq 1 rfl).imp fun _ h => SlAt.of_blk (n := 1) (size := 2) h rfl (by decide)), trivial⟩)) (fun v_ w_ ⟨S49, e_, m⟩ => ⟨S49, e_, (M.lF fq m).sel [1, 0, 2, 3, 4] rfl (by decide), fun b hb => M.kF fq m b hb⟩)) (fun w => CallsF.func Tryz.en53 rfl) (fun S49 v hp hin => ?_)
    replace hp := hp.symm; subst hp
    obtain ⟨_, _, hin⟩ := hin
    clear hin
    refine TW.done (fun w50 M => ?_)
    refine wR (wM (vI ((getT fu d l rt k).1)) (wA (vI ((getT fu d l rt k).1)) (wA (vB true) (WL.nil ?_))))
    refine W.ret ?_
    refine ⟨.inl rfl, (Value.tuple #[(vI ((getT fu d l rt k).1)), (vB true)]), ?_, ?_⟩
    · exact ⟨rfl, (Res.r2 (show RV _ _ _ (.tmp 4) (vI ((getT fu d l rt k).1)) from by exact rfl) (show RV _ _ _ (.tmp 5) (vB true) from by exact rfl))⟩
    have e51 : (bk tb #[(vP ab), (vI (((delR d l rt fu ln k).1.2).at_)), (vI (((delR d l rt fu ln k).1.2).turn)), (vB ((delR d l rt fu ln k).2.1)), (vI ((delR d l rt fu ln k).2.2))] 70 : Chunk) = (bk tb #[(vP ab), (vI rt.at_), (vI rt.turn), (vB !n.leaf), (vI ((ln : Int) - 1))] 70 : Chunk) := by
     rw [delR_leaf hth_ hl1_ hn (by omega) hlf_]; simp [hlf_]
    replace M := M.rechunk 3 (c' := bk tb #[(vP ab), (vI (((delR d l rt fu ln k).1.2).at_)), (vI (((delR d l rt fu ln k).1.2).turn)), (vB ((delR d l rt fu ln k).2.1)), (vI ((delR d l rt fu ln k).2.2))] 70) rfl e51.symm
    have e52 : (delR d l rt fu ln k).1.1 = (rfree l1_ ([rt] : List Handle)).1 := by
     rw [delR_leaf hth_ hl1_ hn (by omega) hlf_]
    replace M := M.rechunk 0 (c' := arenaC 107 112 S49 ab ((delR d l rt fu ln k).1.1)) rfl (congrArg (fun z => arenaC 107 112 S49 ab z) e52.symm)
    refine ⟨S49, ?_, M.close [3, 0] rfl (by decide) trivial⟩
    rw [hth_]
  ·
   have h21p : ¬ (↑n.keys.length : Int) = (0 : Int) := by simpa using h21
   refine W.skip (wR (wM (vI ((getT fu d l rt k).1)) (wA (vI ((getT fu d l rt k).1)) (wA (vB true) (WL.nil ?_)))))
   refine W.ret ?_
   refine ⟨.inl rfl, (Value.tuple #[(vI ((getT fu d l rt k).1)), (vB true)]), ?_, ?_⟩
   · exact ⟨rfl, (Res.r2 (show RV _ _ _ (.tmp 4) (vI ((getT fu d l rt k).1)) from by exact rfl) (show RV _ _ _ (.tmp 5) (vB true) from by exact rfl))⟩
   have e53 : (bk tb #[(vP ab), (vI (((delR d l rt fu ln k).1.2).at_)), (vI (((delR d l rt fu ln k).1.2).turn)), (vB ((delR d l rt fu ln k).2.1)), (vI ((delR d l rt fu ln k).2.2))] 70 : Chunk) = (bk tb #[(vP ab), (vI rt.at_), (vI rt.turn), (vB fu), (vI ((ln : Int) - 1))] 70 : Chunk) := by
    rw [delR_keep hth_ hl1_ hn (by omega)]
   replace M := M.rechunk 5 (c' := bk tb #[(vP ab), (vI (((delR d l rt fu ln k).1.2).at_)), (vI (((delR d l rt fu ln k).1.2).turn)), (vB ((delR d l rt fu ln k).2.1)), (vI ((delR d l rt fu ln k).2.2))] 70) rfl e53.symm
   have e54 : (delR d l rt fu ln k).1.1 = l1_ := by
    rw [delR_keep hth_ hl1_ hn (by omega)]
   replace M := M.rechunk 1 (c' := arenaC 107 112 S5 ab ((delR d l rt fu ln k).1.1)) rfl (congrArg (fun z => arenaC 107 112 S5 ab z) e54.symm)
   refine ⟨S5, ?_, M.close [5, 1] rfl (by decide) trivial⟩
   rw [hth_]
end Go.Proofs
namespace Tp
open Go
structure TabJ where
  ab : Nat
  rt : Handle
  fu : Bool
  ln : Int
  l : List RPlace
  S : Nat → Prop
abbrev tabL (t u e : TypeId) (tb : Nat) (i : TabJ) : List Chunk :=
  [blk tb (.cells #[.pointer (some ⟨i.ab, 0, none⟩), .int .i64 i.rt.at_, .int .i64 i.rt.turn, .bool i.fu, .int .i64 i.ln] t), arenaC u e i.S i.ab i.l]
def TabP (row : List THit) (c : Nat) (i : TabJ) : Prop := ∃ K d, TabI i.l i.rt i.fu i.ln row K d ∧ K ≤ c * 1000 ∧ row.length ≤ c
def tabC (t u e : TypeId) (S : Nat → Prop) (tb : Nat) (row : List THit) (c : Nat) : Chunk := Pack S (tabL t u e tb) (TabP row c)
def putR (l : List THit) (x : THit) : List THit := (delL l x.key).takeWhile (fun a => sLt a.key x.key) ++ x :: (delL l x.key).filter fun a => sLt x.key a.key
def allL (fu : Bool) (d : Nat) (l : List RPlace) (h : Handle) : List THit := if fu then allT d l h else []
def plcL (fu : Bool) (d : Nat) (l : List RPlace) (h : Handle) : List TPl := if fu then placesT d l h 1 else []
def PlcP (row : List THit) (ps : List TPl) : Prop := (row = [] ∧ ps = []) ∨ ∃ d t, okB 1 d t ∧ row = flatB d t ∧ ps = placesB d t 1
section
variable {l : List RPlace} {d K c : Nat} {r h : Handle} {fu : Bool} {ln : Int} {row : List THit} {x : THit} {k : ByteArray} {p : ByteArray → Bool} {t u e : TypeId} {S : Nat → Prop} {tb : Nat} {w : World} {b : THit × Bool}
theorem tabC_up (h : (tabC t u e S tb row c).inv w) : upT row ∧ row.length ≤ c := by
  obtain ⟨i, ⟨K, d, H, hK, hr⟩, _⟩ := h
  exact ⟨H.up, hr⟩
theorem upP_ge (k : ByteArray) : upP fun x => !(sLt x k) := fun x y hxy hx => by
  simp only [Bool.not_eq_true'] at *
  cases h : sLt y k with
  | false => rfl
  | true => rw [sLt_trans hxy h] at hx; cases hx
theorem upP_gt (k : ByteArray) : upP fun x => sLt k x := fun x y hxy hx => sLt_trans hx hxy
theorem upP_all : upP fun _ => true := fun _ _ _ _ => rfl
theorem downP_le (k : ByteArray) : downP fun x => !(sLt k x) := fun x y hxy hy => by
  simp only [Bool.not_eq_true'] at *
  cases h : sLt k x with
  | false => rfl
  | true => rw [sLt_trans h hxy] at hy; cases hy
theorem downP_lt (k : ByteArray) : downP fun x => sLt x k := fun x y hxy hy => sLt_trans hxy hy
theorem downP_all : downP fun _ => true := fun _ _ _ _ => rfl
theorem tab_lookT (H : TabI l r fu ln row K d) (hp : upP p) : lookT fu d l r p = firstL row p noHit := by
  rcases H.tree with ⟨rfl, rfl, _⟩ | ⟨rfl, t, rfl, h2, h3, h4, rfl, h6⟩
  · rfl
  · exact least_ok hp h2 h4 H.up
theorem tab_lookG (H : TabI l r fu ln row K d) (hp : downP p) : lookG fu d l r p = lastL row p noHit := by
  rcases H.tree with ⟨rfl, rfl, _⟩ | ⟨rfl, t, rfl, h2, h3, h4, rfl, h6⟩
  · rfl
  · exact great_ok hp h2 h4 H.up
theorem tab_look (H : TabI l r fu ln row K d) : fu = true → lookOk d l r := by
  rcases H.tree with ⟨rfl, _⟩ | ⟨_, t, rfl, h2, h3, h4, rfl, h6⟩
  · intro h; cases h
  · intro _; exact look_okW h2 h4 H.big
theorem getL_first (hu : upT row) : getL row k = if (firstL row (fun x => !(sLt x k)) noHit).2 = true ∧ (firstL row (fun x => !(sLt x k)) noHit).1.key = k then ((firstL row (fun x => !(sLt x k)) noHit).1.val, true) else (0, false) := by
  have low : ∀ {P : List THit}, lowT P k → ∀ a, a ∈ P → (fun x => !(sLt x k)) a.key = false := fun hP a ha => by simp [hP a ha]
  cases hf : bsF (row.map THit.key) k with
  | true =>
    obtain ⟨P, z, Q, rfl, hP, hz, lP, hQ⟩ := bs_hit hu hf
    rw [getL_hit lP hz, firstL_skip (low lP), firstL_hit (by rw [hz]; simp [sLt_irrefl]), if_pos ⟨rfl, hz⟩]
  | false =>
    obtain ⟨P, Q, rfl, hP, lP, hQ⟩ := bs_miss hu hf
    rw [getL_no lP hQ, firstL_skip (low lP)]
    cases Q with
    | nil => rw [firstL_nil, if_neg (by simp [noHit])]
    | cons z R =>
      have hz := hQ z (by simp)
      rw [firstL_hit (by simp [sLt_asymm hz]), if_neg (fun h => sLt_ne hz h.2.symm)]
theorem tab_get (H : TabI l r fu ln row K d) : getT fu d l r k = getL row k := by
  unfold getT
  rw [tab_lookT H (upP_ge k), getL_first H.up]
theorem delL_no (hu : upT row) (hg : (getL row k).2 = false) : delL row k = row := by
  refine delL_self fun a ha e => ?_
  have : getL row k = (a.val, true) ∨ ∃ v, getL row k = (v, true) := by
    unfold getL
    cases hf : row.find? (fun a => decide (a.key = k)) with
    | none => exact absurd (List.find?_eq_none.1 hf a ha) (by simp [e])
    | some z => exact .inr ⟨_, rfl⟩
  rcases this with h | ⟨v, h⟩ <;> rw [h] at hg <;> cases hg
theorem takeWhile_up : ∀ {l : List THit}, upT l → l.takeWhile (fun a => sLt a.key k) = l.filter (fun a => sLt a.key k)
  | [], _ => rfl
  | z :: l, hu => by
    have h2 := upT_cons.1 hu
    cases hz : sLt z.key k with
    | true => simp [hz, takeWhile_up h2.2]
    | false =>
      rw [List.takeWhile_cons, if_neg (by simp [hz]), List.filter_cons, if_neg (by simp [hz])]
      symm
      refine List.filter_eq_nil_iff.2 fun a ha => ?_
      have := h2.1 a ha
      cases ha2 : sLt a.key k with
      | false => simp
      | true => rw [sLt_trans this ha2] at hz; cases hz
theorem putR_eq (hu : upT row) : putR row x = putL row x := by
  unfold putR putL
  rw [takeWhile_up (delL_up hu)]
  unfold delL
  rw [List.filter_filter, List.filter_filter]
  congr 1
  · refine List.filter_congr fun a _ => ?_
    cases h : sLt a.key x.key with
    | false => rfl
    | true => simp [sLt_ne h]
  · congr 1
    refine List.filter_congr fun a _ => ?_
    cases h : sLt x.key a.key with
    | false => rfl
    | true => simp [(sLt_ne h).symm]
theorem put_len (hu : upT row) : (putL row x).length ≤ row.length + 1 := by rw [getL_len hu]; split <;> omega
theorem delL_le : (delL row k).length ≤ row.length := List.length_filter_le _ _
theorem put_small (H : TabI l r fu ln row K d) (hK : K + d + 3 ≤ 1000000) : SmallA (insF d (put0 l r fu).1 (put0 l r fu).2 x).1 := by
  obtain ⟨t, h1, h2, h3, h4, h5, h6, h7⟩ := put0_ok H
  have hI : ∃ K', K' ≤ 1000000 ∧ BigA (insF d (put0 l r fu).1 t.h x).1 K' := by
    rcases h4 with h4 | ⟨rfl, h4⟩
    · exact ⟨_, by omega, (ins_ok d (lo := 1) h2 h3 h4 (.inl (by omega)) (by omega) (h5 ▸ H.up) h7 (x := x)).1.big⟩
    · exact ⟨_, by omega, (ins_ok 0 (lo := 0) h2 h3 h4 (.inr rfl) (by omega) (h5 ▸ H.up) h7 (x := x)).1.big⟩
  obtain ⟨K', hk, hb⟩ := hI
  rw [h1] at hb
  exact hb.small hk
theorem del_small (H : TabI l r fu ln row K d) (hK : K ≤ 1000000) (hg : (getT fu d l r k).2 = true) : DelOk d l r k := by
  rw [tab_get H] at hg
  obtain ⟨_, t, h1, h2, h3, h4, h5, h6⟩ := tab_full H hg
  have R := rem_ok d (k := k) (lo := 1) h2 h3 h4 (by omega) (h5 ▸ H.up) H.big (h5 ▸ getL_mem hg)
  rw [h1] at R
  obtain ⟨t', p1, p2, p3, p4, p5, p6, p7⟩ := R.parts
  refine ⟨del_okW H hg hK, R.big.small hK, fun hl => ?_⟩
  obtain ⟨h', ks, ts⟩ := t'
  have p1 : h' = r := p1
  subst p1
  have e := (holds_mk.1 p2).1
  rw [atA_get e] at hl ⊢
  cases d with
  | zero => cases hl
  | succ d => rw [kids_len (ok_mk.1 p5).2.2]; omega
theorem del_row (H : TabI l r fu ln row K d) : ∃ d', TabI (delR d l r fu ln k).1.1 (delR d l r fu ln k).1.2 (delR d l r fu ln k).2.1 (delR d l r fu ln k).2.2 (delL row k) K d' := by
  cases hg : (getT fu d l r k).2 with
  | false =>
    rw [delR_no hg]
    rw [tab_get H] at hg
    rw [delL_no H.up hg]
    exact ⟨d, H⟩
  | true =>
    unfold delR
    rw [if_pos hg]
    rw [tab_get H] at hg
    exact del_tab H hg
theorem tab_all (H : TabI l r fu ln row K d) : allL fu d l r = row := by
  rcases H.tree with ⟨rfl, rfl, _⟩ | ⟨rfl, t, rfl, h2, h3, h4, rfl, h6⟩
  · rfl
  · exact all_ok h2
theorem tab_plc (H : TabI l r fu ln row K d) : PlcP row (plcL fu d l r) ∧ (plcL fu d l r).length = usedN l := by
  rcases H.tree with ⟨rfl, rfl, h3, _⟩ | ⟨rfl, t, rfl, h2, h3, h4, rfl, h6⟩
  · exact ⟨.inl ⟨rfl, rfl⟩, h3.symm⟩
  · refine ⟨.inr ⟨d, t, h4, rfl, places_ok h2⟩, ?_⟩
    show (placesT d l t.h 1).length = _
    rw [places_ok h2, places_len, h6]
end
end Tp
namespace Tp
open Go
def partW (cs : List (List THit)) (ks : List THit) (i : Nat) : List THit := (List.range i).flatMap fun j => cs.getD j [] ++ (ks.drop j).take 1
section
variable {cs : List (List THit)} {ks : List THit} {c : List THit} {k : THit} {i j : Nat}
theorem partW_succ : partW cs ks (i + 1) = partW cs ks i ++ (cs.getD i [] ++ (ks.drop i).take 1) := by simp [partW, List.range_succ]
theorem partW_cons : partW (c :: cs) (k :: ks) (i + 1) = c ++ k :: partW cs ks i := by
  unfold partW
  rw [List.range_succ_eq_map, List.flatMap_cons, List.flatMap_map]
  simp
theorem partW_leaf : partW [] ks i = ks.take i := by
  induction i with
  | zero => simp [partW]
  | succ i ih =>
    rw [partW_succ, ih]
    simp only [List.getD_nil, List.nil_append]
    rw [List.take_add]
theorem partW_all : ∀ {cs : List (List THit)} {ks : List THit}, cs.length = ks.length + 1 → partW cs ks (ks.length + 1) = weave cs ks
  | [], _, h => by simp at h
  | [c], [], _ => by simp [partW, weave]
  | c :: d :: cs, [], h => by simp at h
  | c :: cs, k :: ks, h => by
    rw [List.length_cons, partW_cons, partW_all (by simpa using h)]; rfl
theorem partW_mono (h : i ≤ j) : (partW cs ks i).length ≤ (partW cs ks j).length := by
  induction j with
  | zero => rw [Nat.le_zero.1 h]; exact Nat.le_refl _
  | succ j ih =>
    rcases Nat.lt_or_ge i (j + 1) with h' | h'
    · have := ih (by omega); rw [partW_succ, List.length_append]; omega
    · rw [show i = j + 1 by omega]; exact Nat.le_refl _
theorem partW_hit (hk : ks[i]? = some k) (hc : cs.getD i [] = c) : partW cs ks (i + 1) = partW cs ks i ++ (c ++ [k]) := by
  obtain ⟨h1, rfl⟩ := List.getElem?_eq_some_iff.1 hk
  rw [partW_succ, hc, List.drop_eq_getElem_cons h1]; rfl
theorem partW_end (hi : ks.length ≤ i) (hc : cs.getD i [] = c) : partW cs ks (i + 1) = partW cs ks i ++ c := by
  rw [partW_succ, hc, List.drop_eq_nil_of_le hi]; simp
end
def walkOk (d : Nat) (l : List TPl) (a : Nat) (t : BT) (q : Int) : Prop := okB 0 d t ∧ ∃ pre post, l = pre ++ placesB d t q ++ post ∧ pre.length = a
def kidsAt (d : Nat) (ts : List BT) (q : Int) (i : Nat) : Nat := ((ts.take i).flatMap fun c => placesB d c (q + 1)).length
section
variable {d i a : Nat} {l : List TPl} {t c : BT} {q : Int} {p : TPl}
theorem walk_root (h : walkOk d l a t q) : ∃ p, l[a]? = some p ∧ p.depth = q ∧ p.leaf = (d == 0) ∧ p.keys = t.ks.map THit.key := by
  obtain ⟨_, pre, post, rfl, rfl⟩ := h
  cases d with
  | zero => exact ⟨⟨q, true, t.ks.map THit.key⟩, by simp [placesB], rfl, rfl, rfl⟩
  | succ d => exact ⟨⟨q, false, t.ks.map THit.key⟩, by simp [placesB], rfl, by simp, rfl⟩
theorem walk_ok (h : walkOk d l a t q) : t.ks.length ≤ 4 ∧ (0 < d → t.ts.length = t.ks.length + 1) := by
  obtain ⟨h, _⟩ := h
  obtain ⟨hh, ks, ts⟩ := t
  obtain ⟨_, h1, h2⟩ := ok_mk.1 h
  refine ⟨h1, fun hd => ?_⟩
  cases d with
  | zero => omega
  | succ d => exact h2.1
theorem walk_kid (h : walkOk (d + 1) l a t q) (hc : t.ts[i]? = some c) : walkOk d l (a + 1 + kidsAt d t.ts q i) c (q + 1) := by
  obtain ⟨ho, pre, post, rfl, rfl⟩ := h
  have hm := List.mem_of_getElem? hc
  obtain ⟨hh, ks, ts⟩ := t
  refine ⟨okB_low ((ok_mk.1 ho).2.2.2 c hm) (by omega), pre ++ ⟨q, false, ks.map THit.key⟩ :: (ts.take i).flatMap (fun c => placesB d c (q + 1)), (ts.drop (i + 1)).flatMap (fun c => placesB d c (q + 1)) ++ post, ?_, ?_⟩
  · obtain ⟨h1, rfl⟩ := List.getElem?_eq_some_iff.1 hc
    have h1 : i < ts.length := h1
    have e : ts = ts.take i ++ ts[i] :: ts.drop (i + 1) := by rw [← List.drop_eq_getElem_cons h1, List.take_append_drop]
    show pre ++ (_ :: ts.flatMap fun c => placesB d c (q + 1)) ++ post = _
    have e2 : ts.flatMap (fun c => placesB d c (q + 1)) = (ts.take i).flatMap (fun c => placesB d c (q + 1)) ++ (placesB d ts[i] (q + 1) ++ (ts.drop (i + 1)).flatMap fun c => placesB d c (q + 1)) := by
      conv => lhs; rw [e]
      rw [List.flatMap_append, List.flatMap_cons]
    rw [e2]
    simp [BT.ts, BT.ks]
  · simp [kidsAt, BT.ts]; omega
theorem kidsAt_succ {ts : List BT} (hc : ts[i]? = some c) : kidsAt d ts q (i + 1) = kidsAt d ts q i + (placesB d c (q + 1)).length := by
  unfold kidsAt; rw [← take_snoc hc]; simp
theorem kidsAt_all : 1 + kidsAt d t.ts q t.ts.length = (placesB (d + 1) t q).length := by
  unfold kidsAt; rw [List.take_length]; simp only [placesB, List.length_cons]; omega
theorem walk_len (h : walkOk d l a t q) : a + (placesB d t q).length ≤ l.length := by
  obtain ⟨_, pre, post, rfl, rfl⟩ := h; simp
theorem flatB_keys (ho : okB 0 (d + 1) t) : (partW (t.ts.map (flatB d)) t.ks (t.ks.length + 1)) = flatB (d + 1) t := by
  obtain ⟨hh, ks, ts⟩ := t
  exact partW_all (by simpa [BT.ts, BT.ks] using (ok_mk.1 ho).2.2.1)
theorem kid_flat {ts : List BT} (hc : ts[i]? = some c) : (ts.map (flatB d)).getD i [] = flatB d c := by
  rw [List.getD_eq_getElem?_getD, List.getElem?_map, hc]; rfl
end
def leastK : Nat → Nat
  | 0 => 0
  | 1 => 1
  | n + 2 => 3 * leastK (n + 1) + 2
def leastM : Nat → Nat
  | 0 => 2
  | n + 1 => 3 * leastM n + 2
theorem leastK_M : ∀ n, leastK (n + 2) = 2 * leastM n + 1
  | 0 => rfl
  | n + 1 => by rw [leastK, leastK_M n, leastM]; omega
theorem leastK_step {n : Nat} (h : 0 < n) : leastK (n + 1) = 3 * leastK n + 2 := by
  cases n with
  | zero => omega
  | succ n => rfl
theorem leastK_mono : ∀ {n m : Nat}, n ≤ m → leastK n ≤ leastK m := by
  intro n m h
  induction m with
  | zero => rw [Nat.le_zero.1 h]; exact Nat.le_refl _
  | succ m ih =>
    rcases Nat.lt_or_ge n (m + 1) with h' | h'
    · have := ih (by omega)
      cases m with
      | zero => rw [show n = 0 by omega]; exact Nat.zero_le _
      | succ m => rw [leastK]; omega
    · rw [show n = m + 1 by omega]; exact Nat.le_refl _
theorem weave_len : ∀ {cs : List (List THit)} {ks : List THit} {m : Nat}, cs.length = ks.length + 1 → (∀ c, c ∈ cs → m ≤ c.length) → ks.length + cs.length * m ≤ (weave cs ks).length
  | [], _, _, h, _ => by simp at h
  | [c], [], m, _, hm => by have := hm c (by simp); simp [weave]; omega
  | c :: d :: cs, [], _, h, _ => by simp at h
  | c :: cs, k :: ks, m, h, hm => by
    have h1 := weave_len (cs := cs) (ks := ks) (by simpa using h) fun c hc => hm c (by simp [hc])
    have h2 := hm c (by simp)
    simp only [weave, List.length_append, List.length_cons, Nat.add_mul, Nat.one_mul]
    omega
theorem flat_least : ∀ {d : Nat} {t : BT}, okB 2 d t → leastM d ≤ (flatB d t).length := by
  intro d
  induction d with
  | zero =>
    intro t ho
    obtain ⟨h, ks, ts⟩ := t
    exact (ok_mk.1 ho).1
  | succ d ih =>
    intro t ho
    obtain ⟨h, ks, ts⟩ := t
    obtain ⟨o1, o2, o3, o4⟩ := ok_mk.1 ho
    have := weave_len (cs := ts.map (flatB d)) (ks := ks) (m := leastM d) (by simpa using o3) fun c hc => by
      obtain ⟨s, hs, rfl⟩ := List.mem_map.1 hc
      exact ih (o4 s hs)
    rw [List.length_map, o3] at this
    have h3 : 3 * leastM d ≤ (ks.length + 1) * leastM d := Nat.mul_le_mul_right _ (by omega)
    show leastM (d + 1) ≤ (weave (ts.map (flatB d)) ks).length
    rw [leastM]; omega
theorem root_least {d : Nat} {t : BT} (ho : okB 1 d t) : leastK (d + 1) ≤ (flatB d t).length := by
  obtain ⟨h, ks, ts⟩ := t
  cases d with
  | zero => exact (ok_mk.1 ho).1
  | succ d =>
    obtain ⟨o1, o2, o3, o4⟩ := ok_mk.1 ho
    have := weave_len (cs := ts.map (flatB d)) (ks := ks) (m := leastM d) (by simpa using o3) fun c hc => by
      obtain ⟨s, hs, rfl⟩ := List.mem_map.1 hc
      exact flat_least (o4 s hs)
    rw [List.length_map, o3] at this
    have h3 : 2 * leastM d ≤ (ks.length + 1) * leastM d := Nat.mul_le_mul_right _ (by omega)
    show leastK (d + 1 + 1) ≤ (weave (ts.map (flatB d)) ks).length
    rw [leastK_M]; omega
structure PlcOk (row : List THit) (ps : List TPl) (D : Nat) : Prop where
  keys : ∀ (i : Nat) (p : TPl), ps[i]? = some p → 1 ≤ p.keys.length ∧ p.keys.length ≤ 4 ∧ (0 < i → 2 ≤ p.keys.length)
  leaf : ∀ p, p ∈ ps → p.leaf = true → p.depth = D
  deep : ∀ p, p ∈ ps → 1 ≤ p.depth ∧ p.depth ≤ D
  least : leastK D ≤ row.length
  both : ps = [] ↔ row = []
  walk : ps ≠ [] → ∃ d t, walkOk d ps 0 t 1 ∧ row = flatB d t ∧ (placesB d t 1).length = ps.length
theorem places_between : ∀ {d : Nat} {t : BT} {q : Int} {p : TPl}, p ∈ placesB d t q → q ≤ p.depth ∧ p.depth ≤ q + d := by
  intro d
  induction d with
  | zero => intro t q p hp; simp only [placesB, List.mem_singleton] at hp; subst hp; simp
  | succ d ih =>
    intro t q p hp
    simp only [placesB, List.mem_cons, List.mem_flatMap] at hp
    rcases hp with rfl | ⟨s, hs, hp⟩
    · simp; omega
    · have := ih hp; omega
theorem plc_ok {row : List THit} {ps : List TPl} (h : PlcP row ps) : ∃ D, PlcOk row ps D := by
  rcases h with ⟨rfl, rfl⟩ | ⟨d, t, ho, rfl, rfl⟩
  · exact ⟨0, by simp, by simp, by simp, by simp [leastK], by simp, by simp⟩
  · obtain ⟨p, R, h1, h2, h3, h4⟩ := places_keys (q := 1) ho
    have hr := root_least ho
    have hd := flat_deep ho (by omega)
    refine ⟨d + 1, ?_, fun p hp hl => ?_, fun p hp => ?_, hr, ?_, fun _ => ⟨d, t, ⟨okB_low ho (by omega), [], [], by simp, rfl⟩, rfl, rfl⟩⟩
    · rw [h1]
      intro i x hx
      cases i with
      | zero => simp at hx; subst hx; exact ⟨h2, h3, fun h => by omega⟩
      | succ i =>
        simp at hx
        have := h4 x (List.mem_of_getElem? hx)
        exact ⟨by omega, this.2, fun _ => this.1⟩
    · have := places_deep hp hl; omega
    · have := places_between hp; omega
    · rw [h1]
      constructor
      · intro h; cases h
      · intro h; rw [h] at hd; simp at hd
end Tp
namespace Tp
open Go
def hitE (x : THit) : List Value := [.string x.key, .int .i64 x.val]
theorem hitE_len (x : THit) : (hitE x).length = 2 := rfl
theorem hitE_cel (x : THit) : Step.Cellish (hitE x) := cel_cons rfl (cel_cons rfl cel_nil)
theorem hit_eqB (a b : THit) : ((a.key.toList == b.key.toList) && (((a.val : Int) == (b.val : Int)) && true)) = decide (a = b) := by
  rw [sEq_dec]
  cases a; cases b
  rw [Bool.eq_iff_iff]; simp
def atL {α : Type} (xs : List α) (k : Nat) (ys : List α) : Prop := ∃ pre post, xs = pre ++ ys ++ post ∧ pre.length = k
def kidsL (d : Nat) (l : List RPlace) (n : Nd) : List (List THit) := if n.leaf then [] else match d with | 0 => [] | d + 1 => n.kids.map (allT d l)
def kidsP (d : Nat) (l : List RPlace) (n : Nd) (q : Int) (i : Nat) : List TPl := match d with | 0 => [] | d + 1 => (n.kids.take i).flatMap fun c => placesT d l c (q + 1)
section
variable {l : List RPlace} {h c : Handle} {n : Nd} {d e i m k0 : Nat} {xs : List THit} {cs : List (List THit)} {hs c0 : List THit} {x : THit} {q : Int}
theorem atL_all {α : Type} (xs : List α) : atL xs 0 xs := ⟨[], [], by simp, rfl⟩
theorem hitsN_len (hv : n.vals.length = n.keys.length) : (hitsN n).length = n.keys.length := by unfold hitsN; simp; omega
theorem hitsN_at {k : ByteArray} {v : Int} (hk : n.keys[i]? = some k) (hv : n.vals[i]? = some v) : (hitsN n)[i]? = some ⟨k, v⟩ := by
  have : (n.keys.zip n.vals)[i]? = some (k, v) := List.getElem?_zip_eq_some.2 ⟨hk, hv⟩
  unfold hitsN; rw [List.getElem?_map, this]; rfl
theorem kidsL_leaf (hl : n.leaf = true) : (kidsL d l n).getD i [] = [] := by unfold kidsL; simp [hl]
theorem kidsL_kid (he : d = e + 1) (hl : n.leaf = false) (hc : n.kids[i]? = some c) : (kidsL d l n).getD i [] = allT e l c := by
  subst he; unfold kidsL; simp [hl, List.getD_eq_getElem?_getD, hc]
theorem allT_part (hO : lookOk d l h) (hn : (rget l h).1 = n) : allT d l h = partW (kidsL d l n) (hitsN n) (n.keys.length + 1) := by
  obtain ⟨_, hv⟩ := lookOk_node hO hn
  have hh := hitsN_len hv
  cases hl : n.leaf with
  | true =>
    have e1 : kidsL d l n = [] := by unfold kidsL; simp [hl]
    rw [e1, partW_leaf, List.take_of_length_le (by omega)]
    subst hn
    cases d <;> (unfold allT; simp [hl])
  | false =>
    obtain ⟨e, rfl, h1, _⟩ := lookOk_kid hO hn hl
    have e1 : kidsL (e + 1) l n = n.kids.map (allT e l) := by unfold kidsL; simp [hl]
    rw [e1, ← hh, partW_all (by rw [List.length_map]; omega)]
    subst hn
    conv => lhs; unfold allT
    simp only [hl, Bool.false_eq_true, if_false]
theorem partW_split (h : i < m) : ∃ rest, partW cs hs m = partW cs hs i ++ ((cs.getD i [] ++ (hs.drop i).take 1) ++ rest) := by
  induction m with
  | zero => omega
  | succ m ih =>
    rcases Nat.lt_or_ge i m with h' | h'
    · obtain ⟨rest, hr⟩ := ih h'
      exact ⟨rest ++ (cs.getD m [] ++ (hs.drop m).take 1), by rw [partW_succ, hr]; simp only [List.append_assoc]⟩
    · have : i = m := by omega
      subst this
      exact ⟨[], by rw [partW_succ, List.append_nil]⟩
theorem below_kid (hA : atL xs k0 (partW cs hs m)) (hi : i < m) (hc : cs.getD i [] = c0) : atL xs (k0 + (partW cs hs i).length) c0 := by
  obtain ⟨pre, post, rfl, rfl⟩ := hA
  obtain ⟨rest, hr⟩ := partW_split (cs := cs) (hs := hs) hi
  refine ⟨pre ++ partW cs hs i, (hs.drop i).take 1 ++ rest ++ post, ?_, by simp⟩
  rw [hr, hc]; simp only [List.append_assoc]
theorem below_hit (hA : atL xs k0 (partW cs hs m)) (hi : i < m) (hc : cs.getD i [] = c0) (hx : hs[i]? = some x) : xs[k0 + (partW cs hs i).length + c0.length]? = some x := by
  obtain ⟨pre, post, rfl, rfl⟩ := hA
  obtain ⟨rest, hr⟩ := partW_split (cs := cs) (hs := hs) hi
  obtain ⟨h1, rfl⟩ := List.getElem?_eq_some_iff.1 hx
  have e : (hs.drop i).take 1 = [hs[i]] := by rw [List.drop_eq_getElem_cons h1]; rfl
  rw [hr, hc, e]
  have : pre ++ (partW cs hs i ++ (c0 ++ [hs[i]] ++ rest)) ++ post = (pre ++ partW cs hs i ++ c0) ++ (hs[i] :: (rest ++ post)) := by simp
  rw [this, List.getElem?_append_right (by simp; omega), show pre.length + (partW cs hs i).length + c0.length - (pre ++ partW cs hs i ++ c0).length = 0 by simp only [List.length_append]; omega]; rfl
theorem len_hit (hx : hs[i]? = some x) (hc : cs.getD i [] = c0) : (partW cs hs (i + 1)).length = (partW cs hs i).length + c0.length + 1 := by
  rw [partW_hit hx hc]; simp [Nat.add_assoc]
theorem len_end (hi : hs.length ≤ i) (hc : cs.getD i [] = c0) : (partW cs hs (i + 1)).length = (partW cs hs i).length + c0.length := by
  rw [partW_end hi hc]; simp
theorem placesT_all (hn : (rget l h).1 = n) : placesT d l h q = ⟨q, n.leaf, n.keys⟩ :: kidsP d l n q n.kids.length := by
  subst hn
  cases d with
  | zero => unfold placesT kidsP; rfl
  | succ d => conv => lhs; unfold placesT
              unfold kidsP; rw [List.take_length]
theorem kidsP_zero : kidsP d l n q 0 = [] := by cases d <;> simp [kidsP]
theorem kidsP_succ (he : d = e + 1) (hc : n.kids[i]? = some c) : kidsP d l n q (i + 1) = kidsP d l n q i ++ placesT e l c (q + 1) := by
  subst he; unfold kidsP; simp only; rw [← take_snoc hc]; simp
theorem kidsP_le : (kidsP d l n q i).length ≤ (kidsP d l n q n.kids.length).length := by
  cases d with
  | zero => simp [kidsP]
  | succ d =>
    unfold kidsP
    simp only
    rw [List.take_length]
    have e2 : n.kids.flatMap (fun c => placesT d l c (q + 1)) = (n.kids.take i).flatMap (fun c => placesT d l c (q + 1)) ++ (n.kids.drop i).flatMap fun c => placesT d l c (q + 1) := by
      rw [← List.flatMap_append, List.take_append_drop]
    rw [e2, List.length_append]; omega
def plOk : Nat → List RPlace → Handle → Prop
  | 0, l, h => NodeMay l (rget l h).1 ∧ (rget l h).1.kids = []
  | d + 1, l, h => NodeMay l (rget l h).1 ∧ ∀ c, c ∈ (rget l h).1.kids → plOk d l c
theorem plOk_node (hO : plOk d l h) (hn : (rget l h).1 = n) : tinyN n := by
  subst hn
  cases d with
  | zero => exact hO.1.1
  | succ d => exact hO.1.1
theorem plOk_kid (hO : plOk d l h) (hn : (rget l h).1 = n) (hc : n.kids[i]? = some c) : ∃ e, d = e + 1 ∧ plOk e l c := by
  subst hn
  cases d with
  | zero => rw [hO.2] at hc; simp at hc
  | succ d => exact ⟨d, rfl, hO.2 c (List.mem_of_getElem? hc)⟩
theorem pl_okW {K : Nat} : ∀ {d lo : Nat} {t : BT}, HoldsB l d t → okB lo d t → BigA l K → plOk d l t.h := by
  intro d
  induction d with
  | zero =>
    intro lo t H ho hB
    obtain ⟨h, ks, ts⟩ := t
    have e := (holds_mk.1 H).1
    unfold plOk
    rw [show (BT.mk h ks ts).h = h from rfl, atA_get e]
    exact ⟨⟨hB.at e, by simp [nodeB]⟩, rfl⟩
  | succ d ih =>
    intro lo t H ho hB
    obtain ⟨h, ks, ts⟩ := t
    have e := (holds_mk.1 H).1
    obtain ⟨o1, o2, o3⟩ := ok_mk.1 ho
    unfold plOk
    rw [show (BT.mk h ks ts).h = h from rfl, atA_get e]
    refine ⟨⟨hB.at e, by simp [nodeB]⟩, fun c hc => ?_⟩
    rw [nodeB_kids, if_neg (by simp)] at hc
    obtain ⟨s, hs, rfl⟩ := List.mem_map.1 hc
    exact ih ((holds_mk.1 H).2 s hs) (o3.2 s hs) hB
end
theorem Does.callV {P : Program} {d : Option Nat} {ty : TypeId} {pos : String} {aft : Array Edge} {g : Option (Nat × Bool)} {c : Array Operand} {ts : Array TypeId} {x : Operand} {y : Value} {ar_ : List Value} {R : Value → World → Prop} {ρ : Env} {w : World}
    (hx : ρ.ev x = y) (ha : c.toList.map ρ.ev = ar_) (h : RetsV P y ar_.toArray w R) : Does P ⟨d, .call { callee := .value x, args := c, argTypes := ts }, ty, pos, aft, g⟩ ρ w R :=
  let ⟨nx, h1, h2, h3⟩ := h; .inr ⟨nx, h1, CallsN.value hx ha h2, h3⟩
theorem TW.callV {P : Program} {ops : Array Oper} {ld mk : List Nat} {Q : Env → World → Prop} {i : Nat} {d : Option Nat} {ty : TypeId} {pos : String} {aft : Array Edge} {g : Option (Nat × Bool)}
  {rest : List Nat} {ρ : Env} {F X : Nat → Prop} {w0 : World} {Lp L : List Chunk} {Rp R : List (World → Prop)} {c : Array Operand} {ts : Array TypeId} {x : Operand} {y : Value} {ar_ : List Value} {ι : Type} (p : ι → Value → Prop) (L' : ι → List Chunk) (R' : ι → List (World → Prop))
    (hi : ops[i]? = some ⟨d, .call { callee := .value x, args := c, argTypes := ts }, ty, pos, aft, g⟩) (hl : i ∈ ld) (hw : ρ.want ops g = true)
    (hx : ρ.ev x = y) (ha : c.toList.map ρ.ev = ar_) (hL : ∀ x, Lp.Sublist (L' x)) (hR : ∀ x r, r ∈ Rp → r ∈ R' x)
    (h : ∀ A w, Mem F X w0 (fl A :: L) R w → RetsV P y ar_.toArray w fun v w' => ∃ x, p x v ∧ Mem F X w0 (fl A :: L' x) (R' x) w' ∧ ∀ b, A b → w'.heap[b]? = w.heap[b]?)
    (k : ∀ x v, p x v → (∃ A w, Mem F X w0 (fl A :: L' x) (R' x) w) → TW P ops ld mk (Dm F X w0 Lp Rp) Q rest (ρ.put d v) (MemA F X w0 (L' x) (R' x))) (hm : i ∉ mk := by decide) : TW P ops ld mk (Dm F X w0 Lp Rp) Q (i :: rest) ρ (MemA F X w0 L R) :=
  .loudx (hm := hm) (fun x v A w => p x v ∧ MemA F X w0 (L' x) (R' x) A w) hi hl hw (fun x v => (good_mem (hL x) (hR x)).and)
    (fun A w M => Does.callV hx ha ((h A w M).mono fun v w' ⟨x, h1, h2, h3⟩ => ⟨⟨x, h1, h2⟩, h3⟩))
    fun x v ⟨A, w, hp, hM⟩ => (k x v hp ⟨A, w, hM⟩).weaken (fun _ _ hs => hs.2) fun _ _ _ h1 h2 _ => ⟨h1.1, h2⟩
end Tp
set_option maxRecDepth 100000
namespace Go.Proofs
open Go Tp
theorem Tryz.en60 : Enters Tryz.prog 60 := fun _ _ => by kernel_rfl
theorem tr_below {ι : Type} (C : Nat → ι → Chunk) (y : Value) (xs : List THit) (rf : World → Prop) (hy : ∀ (k : Nat) (i : ι) (x : THit) (w : World), xs[k]? = some x → Mem (avoid [C k i]) (Foots [C k i]) w [C k i] [rf] w → RetsV Tryz.prog y #[.agg #[.string x.key, .int .i64 x.val]] w fun r w' => (r = .bool true ∧ ∃ i', Mem (avoid [C k i]) (Foots [C k i]) w [C (k + 1) i'] [] w')) : ∀ (d : Nat) {G X : Nat → Prop} {w : World} (tb ab : Nat) (r : Handle) (fu : Bool) (ln : Int) (l : List RPlace) (S : Nat → Prop) (h : Handle) (k0 : Nat) (q0_ : ι)  (hA : SmallA l) (hO : lookOk d l h) (hAt : atL xs k0 (allT d l h)) (M : Mem G X w [arenaC 107 112 S ab l, C k0 q0_] [bF tb #[(vP ab), (vI r.at_), (vI r.turn), (vB fu), (vI ln)] 70, rf] w), Rets Tryz.prog 60 #[(vP tb), (Value.agg #[(vI h.at_), (vI h.turn)]), y] w fun r w' => ∃ (q' : ι), r = (vB true) ∧ Mem G X w [arenaC 107 112 S ab l, C (k0 + (allT d l h).length) q'] [] w' := by
 intro d
 induction d using Nat.strongRecOn
 rename_i d ih
 intro G X w tb ab r fu ln l S h k0 q0_ hA hO hAt M
 refine Rets.enter 55 _ Tryz.func60 rfl Tryz.ntmps60 Tryz.results60 (by simp) ?_
 obtain ⟨n, hn⟩ : ∃ n, (rget l h).1 = n := ⟨_, rfl⟩
 obtain ⟨⟨ht1, ht2, ht3⟩, hvl⟩ := lookOk_node hO hn
 have hhl := hitsN_len hvl
 have hAP := hAt
 rw [allT_part hO hn] at hAP
 refine wR ?_
 refine WL.box (v := (Value.agg #[(vI h.at_), (vI h.turn)])) (c := #[(vI h.at_), (vI h.turn)]) M rfl rfl rfl (fun b1 w2 hb1 M => ?_)
 refine wA (vB false) (WL.nil (wR (wM (vP tb) (wS (Value.agg #[(vI h.at_), (vI h.turn)]) rfl (Step.loadN Tryz.ag68 rfl (M.blk 0 rfl) (Nat.le_of_ble_eq_true rfl) rfl) ?_))))
 have fq := M.frm [arenaC 107 112 S ab l] [bk b1 #[(vI h.at_), (vI h.turn)] 68, C k0 q0_] [1, 0, 2] rfl
 refine WL.callX rfl (tr_node tb ab r fu ln l S h (by assumption) n hn (M.eF fq ⟨(M.rF fq 0 rfl), trivial⟩)) (CallsF.func Tryz.en52 rfl) ?_
 rintro _ w6 ⟨kv3, dv4, vv5, rfl, m⟩
 replace M := M.lF fq m
 clear m
 have sl7 : IsSl kv3 := SlAt.isSl (own_slAt (Mem.chunk M 1 rfl).inv)
 have hle8 := SlAt.le' (own_slAt (Mem.chunk M 1 rfl).inv)
 have sl9 : IsSl dv4 := SlAt.isSl (own_slAt (Mem.chunk M 2 rfl).inv)
 have hle10 := SlAt.le' (own_slAt (Mem.chunk M 2 rfl).inv)
 have sl11 : IsSl vv5 := SlAt.isSl (own_slAt (Mem.chunk M 3 rfl).inv)
 have hle12 := SlAt.le' (own_slAt (Mem.chunk M 3 rfl).inv)
 refine WL.alloc (c := #[(vB false), vZ, vZ, vZ]) M rfl Tryz.el93.zero rfl (fun b13 w14 hb13 M => ?_)
 refine WL.store (v := (Value.agg #[(vB n.leaf), kv3, dv4, vv5])) (cs := [(vB n.leaf), kv3, dv4, vv5]) (c' := #[(vB n.leaf), kv3, dv4, vv5]) M 0 rfl rfl Tryz.el93.sized rfl rfl rfl rfl (Nat.le_of_ble_eq_true rfl) (cel_cons rfl (cel_cons (IsSl.cel sl7) (cel_cons (IsSl.cel sl9) (cel_cons (IsSl.cel sl11) cel_nil)))) rfl rfl (fun w15 M => ?_)
 refine WL.nil (W.seq' (wR (wP (Value.pointer (some ⟨b13, 1, none⟩)) (wS kv3 rfl (Step.load1 Tryz.sc23 rfl ((M.cell 0 rfl 1).trans rfl)) (wS (vI ↑n.keys.length) rfl (Step.lenSl Tryz.un23 rfl (own_slAt (M.chunk 2 rfl).inv)) ?_)))))
 refine wS (vI (↑n.keys.length + 1)) rfl (Step.add rfl rfl (wrap_i64 (by omega))) (wM (vI 0) (WL.nil (W.block ?_)))
 replace M := M.loseI 5
 replace M := M.rechunk 5 (c' := C (k0 + (partW (kidsL d l n) (hitsN n) 0).length) q0_) rfl (congrArg (fun z => C z q0_) (rfl))
 replace M := M.sel (L' := [C (k0 + (partW (kidsL d l n) (hitsN n) 0).length) q0_, bk b13 #[(vB n.leaf), kv3, dv4, vv5] 93, arenaC 107 112 S ab l, oS kv3 n.keys, oH dv4 n.kids, oI vv5 n.vals]) [5, 0, 1, 2, 3, 4] rfl (by decide)
 refine W.loop (fun kk ρ w' => ∃ (i_ : Nat) (q_ : ι), ((i_ ≤ n.keys.length + 1) ∧ kk = n.keys.length + 1 - i_) ∧ ρ.has [(0, (vP tb)), (2, y), (7, (vP b13)), (15, (vI (↑n.keys.length + 1))), (16, (vI ↑i_))] ∧ Mem G X w [C (k0 + (partW (kidsL d l n) (hitsN n) i_).length) q_, bk b13 #[(vB n.leaf), kv3, dv4, vv5] 93, arenaC 107 112 S ab l, oS kv3 n.keys, oH dv4 n.kids, oI vv5 n.vals] [bF tb #[(vP ab), (vI r.at_), (vI r.turn), (vB fu), (vI ln)] 70, rf]  w') _ ⟨0, q0_, ⟨(Nat.zero_le _), rfl⟩, ⟨rfl, rfl, rfl, rfl, rfl, rfl, rfl⟩, M⟩ ?_
 rintro _ ρ17 w16 ⟨i_, q_, ⟨hi18, rfl⟩, hρ, M⟩
 obtain ⟨ρ17, rfl⟩ := hρ.know
 clear hρ
 refine wR (wP (vB (decide ((↑i_ : Int) < (↑n.keys.length + 1 : Int)))) (WL.nil (W.seq' ?_)))
 refine W.cond (t := decide ((↑i_ : Int) < (↑n.keys.length + 1 : Int))) rfl (fun h19 => ?_) (fun h19 => ?_)
 ·
  have h19p := of_decide_eq_true h19
  refine W.skip (W.seq' (W.block (wR (wM (vI ↑i_) (wA (vI ↑i_) ?_)))))
  refine WL.nil (W.seq' (wR (wP (vP b13) (wS (vB n.leaf) rfl (Step.load1 Tryz.sc4 rfl ((M.cell 1 rfl 0).trans rfl)) (wP (vB !n.leaf) ?_)))))
  refine wM (vB !n.leaf) ?_
  rcases Bool.eq_false_or_eq_true (!n.leaf) with h20 | h20
  ·
   have hlf_ : n.leaf = false := by simpa using h20
   obtain ⟨e, he_, hkl_, hLk2_⟩ := lookOk_kid hO hn hlf_
   rw [h20]
   refine wM (vP tb) (wP (Value.pointer (some ⟨b13, 2, none⟩)) (wS dv4 rfl (Step.load1 Tryz.sc90 rfl ((M.cell 1 rfl 2).trans rfl)) (wM (vI ↑i_) ?_)))
   obtain ⟨cap22, hb21⟩ := SlAt.base (own_slAt (M.chunk 4 rfl).inv) (by omega)
   obtain ⟨x23, hx23⟩ := elem_of_lt (xs := n.kids) (i := i_) (by omega)
   refine wS (vQ dv4 i_ 2) rfl (sX i_ Tryz.un90 Tryz.el68 rfl rfl hb21) (wS (Value.agg #[(vI x23.at_), (vI x23.turn)]) rfl (Step.loadEN (k := 0) (cs' := [(vI x23.at_), (vI x23.turn)]) Tryz.ag68 (flat_ec (own_slAt (M.chunk 4 rfl).inv) hx23 handleE_len) (by decide) rfl rfl rfl) (wM y ?_))
   have fq := M.frm [arenaC 107 112 S ab l, C (k0 + (partW (kidsL d l n) (hitsN n) i_).length) q_] [bk b13 #[(vB n.leaf), kv3, dv4, vv5] 93, oS kv3 n.keys, oH dv4 n.kids, oI vv5 n.vals] [2, 0, 1, 3, 4, 5] rfl
   refine WL.callX rfl (ih e (by omega) tb ab r fu ln l S x23 (k0 + (partW (kidsL d l n) (hitsN n) i_).length) q_ (by assumption) (hLk2_ _ (List.mem_of_getElem? hx23)) (below_kid hAP (by omega) (kidsL_kid (l := l) he_ hlf_ hx23)) (M.eF fq ⟨(M.rF fq 0 rfl), (M.rF fq 1 rfl), trivial⟩)) (CallsF.func Tryz.en60 rfl) ?_
   rintro _ w25 ⟨q24, rfl, m⟩
   replace M := M.lF fq m
   clear m
   refine wP (vB false) (wS (vB false) rfl (Step.pick (t := true) rfl rfl) (WL.nil ?_))
   refine W.cond (t := false) rfl (fun h => by cases h) (fun _ => ?_)
   refine W.skip (W.seq' ?_)
   rcases Bool.eq_false_or_eq_true (decide ((↑i_ : Int) < (↑n.keys.length : Int))) with h26 | h26
   ·
    have h26p := of_decide_eq_true h26
    obtain ⟨cap28, hb27⟩ := SlAt.base (own_slAt (M.chunk 3 rfl).inv) (by omega)
    obtain ⟨x29, hx29⟩ := elem_of_lt (xs := n.keys) (i := i_) (by omega)
    obtain ⟨cap31, hb30⟩ := SlAt.base (own_slAt (M.chunk 5 rfl).inv) (by omega)
    obtain ⟨x32, hx32⟩ := elem_of_lt (xs := n.vals) (i := i_) (by omega)
    refine W.drawn M [0, 1, 2, 3, 4, 5, 6, 7, 8, 9, 10, 11, 12, 13, 14, 15, 16, 17, 18, 19, 20] [18] [] _ _ (sY (sN (sY (sY (sY (sY sE)))))) (fun _ h => h) Tryz.mixed (by kernel_rfl) ?_
    refine tP (vI ↑i_) rfl (fun w => (Step.move rfl)) ?_
    refine tP (Value.pointer (some ⟨b13, 1, none⟩)) rfl (fun w => sP) ?_
    refine tR kv3 rfl (fun A w M => (Step.load1 Tryz.sc23 rfl ((M.cell 2 rfl 1).trans rfl))) ?_
    refine tR (vI ↑n.keys.length) rfl (fun A w M => (Step.lenSl Tryz.un23 rfl (own_slAt (M.chunk 3 rfl).inv))) ?_
    refine tP (vB true) rfl (fun w => (Step.cast (congrArg Value.bool h26) sP)) ?_
    refine tP (vB true) rfl (fun w => (Step.move rfl)) ?_
    refine tP y rfl (fun w => (Step.move rfl)) ?_
    refine tP (Value.pointer (some ⟨b13, 1, none⟩)) rfl (fun w => sP) ?_
    refine tR kv3 rfl (fun A w M => (Step.load1 Tryz.sc23 rfl ((M.cell 2 rfl 1).trans rfl))) ?_
    refine tP (vI ↑i_) rfl (fun w => (Step.move rfl)) ?_
    refine tP (vQ kv3 i_ 1) rfl (fun w => (sX i_ Tryz.un23 Tryz.el9 rfl rfl hb27)) ?_
    refine tR (vS x29) rfl (fun A w M => (Step.loadE (k := 0) Tryz.sc9 (flat_ec (own_slAt (M.chunk 3 rfl).inv) hx29 strE_len) (by decide) rfl rfl)) ?_
    refine tP (Value.pointer (some ⟨b13, 3, none⟩)) rfl (fun w => sP) ?_
    refine tR vv5 rfl (fun A w M => (Step.load1 Tryz.sc91 rfl ((M.cell 2 rfl 3).trans rfl))) ?_
    refine tP (vI ↑i_) rfl (fun w => (Step.move rfl)) ?_
    refine tP (vQ vv5 i_ 1) rfl (fun w => (sX i_ Tryz.un91 Tryz.el3 rfl rfl hb30)) ?_
    refine tR (vI x32) rfl (fun A w M => (Step.loadE (k := 0) Tryz.sc3 (flat_ec (own_slAt (M.chunk 5 rfl).inv) hx32 intE_len) (by decide) rfl rfl)) ?_
    refine tP (Value.agg #[(vS x29), (vI x32)]) rfl (fun w => sP) ?_
    refine TW.callV (ι := ι) (fun jx v_ => v_ = vB true) (fun jx => [arenaC 107 112 S ab l, C ((k0 + (partW (kidsL d l n) (hitsN n) i_).length) + (allT e l x23).length + 1) jx, bk b13 #[(vB n.leaf), kv3, dv4, vv5] 93, oS kv3 n.keys, oH dv4 n.kids, oI vv5 n.vals]) (fun jx => [bF tb #[(vP ab), (vI r.at_), (vI r.turn), (vB fu), (vI ln)] 70, rf]) rfl (by decide) rfl rfl rfl (fun jx => (sY (sN (sY (sY (sY (sY sE))))))) (fun jx r h => h) (fun A w M => RetsV.mono (hy ((k0 + (partW (kidsL d l n) (hitsN n) i_).length) + (allT e l x23).length) q24 (⟨x29, x32⟩ : THit) _ (below_hit hAP (by omega) (kidsL_kid (l := l) he_ hlf_ hx23) (hitsN_at hx29 hx32)) (M.enterW (C := [C ((k0 + (partW (kidsL d l n) (hitsN n) i_).length) + (allT e l x23).length) q24]) (D := [fl A, arenaC 107 112 S ab l, bk b13 #[(vB n.leaf), kv3, dv4, vv5] 93, oS kv3 n.keys, oH dv4 n.kids, oI vv5 n.vals]) [2, 0, 1, 3, 4, 5, 6] rfl (by decide) ⟨(M.wideR (C := [C ((k0 + (partW (kidsL d l n) (hitsN n) i_).length) + (allT e l x23).length) q24]) (D := [fl A, arenaC 107 112 S ab l, bk b13 #[(vB n.leaf), kv3, dv4, vv5] 93, oS kv3 n.keys, oH dv4 n.kids, oI vv5 n.vals]) [2, 0, 1, 3, 4, 5, 6] rfl 1 rfl), trivial⟩)) (fun v_ w_ ⟨e_, q33, m⟩ => ⟨q33, e_, (M.leaveW (C := [C ((k0 + (partW (kidsL d l n) (hitsN n) i_).length) + (allT e l x23).length) q24]) (D := [fl A, arenaC 107 112 S ab l, bk b13 #[(vB n.leaf), kv3, dv4, vv5] 93, oS kv3 n.keys, oH dv4 n.kids, oI vv5 n.vals]) [2, 0, 1, 3, 4, 5, 6] rfl (by decide) m).sel (L' := [fl A, arenaC 107 112 S ab l, C ((k0 + (partW (kidsL d l n) (hitsN n) i_).length) + (allT e l x23).length + 1) q33, bk b13 #[(vB n.leaf), kv3, dv4, vv5] 93, oS kv3 n.keys, oH dv4 n.kids, oI vv5 n.vals]) [1, 2, 0, 3, 4, 5, 6] rfl (by decide), fun b hb => M.keptW (C := [C ((k0 + (partW (kidsL d l n) (hitsN n) i_).length) + (allT e l x23).length) q24]) (D := [fl A, arenaC 107 112 S ab l, bk b13 #[(vB n.leaf), kv3, dv4, vv5] 93, oS kv3 n.keys, oH dv4 n.kids, oI vv5 n.vals]) [2, 0, 1, 3, 4, 5, 6] rfl (by decide) m (fl A) (List.mem_cons_self ..) b hb⟩)) (fun q33 v hp _ => ?_)
    subst hp
    refine tP (vB false) rfl (fun w => sP) ?_
    refine tP (vB false) rfl (fun w => (Step.pick (t := true) rfl rfl)) ?_
    refine TW.done (fun w34 M => ?_)
    refine W.cond (t := false) rfl (fun h => by cases h) (fun _ => ?_)
    refine W.skip (W.region rfl (wS (vI (↑i_ + 1)) rfl (Step.add rfl rfl (wrap_i64 (by omega))) (wM (vI (↑i_ + 1)) (WL.nil ?_))))
    have hs_ := len_hit (hitsN_at hx29 hx32) (kidsL_kid (l := l) he_ hlf_ hx23)
    try simp only [List.length_nil] at hs_
    replace M := M.rechunk 1 (c' := C (k0 + (partW (kidsL d l n) (hitsN n) (i_ + 1)).length) q33) rfl (congrArg (fun z => C z q33) (by omega))
    replace M := M.sel (L' := [C (k0 + (partW (kidsL d l n) (hitsN n) (i_ + 1)).length) q33, bk b13 #[(vB n.leaf), kv3, dv4, vv5] 93, arenaC 107 112 S ab l, oS kv3 n.keys, oH dv4 n.kids, oI vv5 n.vals]) [1, 2, 0, 3, 4, 5] rfl (by decide)
    exact ⟨_, (by omega), i_ + 1, q33, ⟨(by omega), rfl⟩, ⟨rfl, rfl, rfl, rfl, rfl, rfl, rfl⟩, M⟩
   ·
    have h26p := of_decide_eq_false h26
    refine W.drawn M [0, 1, 2, 3, 4, 5, 6, 7, 8, 9, 10, 11, 12, 13, 14, 15, 16, 17, 18, 19, 20] [18] [] _ _ (sY (sY (sY (sY (sY (sY sE)))))) (fun _ h => h) Tryz.mixed (by kernel_rfl) ?_
    refine tP (vI ↑i_) rfl (fun w => (Step.move rfl)) ?_
    refine tP (Value.pointer (some ⟨b13, 1, none⟩)) rfl (fun w => sP) ?_
    refine tR kv3 rfl (fun A w M => (Step.load1 Tryz.sc23 rfl ((M.cell 3 rfl 1).trans rfl))) ?_
    refine tR (vI ↑n.keys.length) rfl (fun A w M => (Step.lenSl Tryz.un23 rfl (own_slAt (M.chunk 4 rfl).inv))) ?_
    refine tP (vB false) rfl (fun w => (Step.cast (congrArg Value.bool h26) sP)) ?_
    refine tP (vB false) rfl (fun w => (Step.move rfl)) ?_
    refine TW.skip rfl rfl ?_
    refine TW.skip rfl rfl ?_
    refine TW.skip rfl rfl ?_
    refine TW.skip rfl rfl ?_
    refine TW.skip rfl rfl ?_
    refine TW.skip rfl rfl ?_
    refine TW.skip rfl rfl ?_
    refine TW.skip rfl rfl ?_
    refine TW.skip rfl rfl ?_
    refine TW.skip rfl rfl ?_
    refine TW.skip rfl rfl ?_
    refine TW.skip rfl rfl ?_
    refine TW.skip rfl rfl ?_
    refine TW.skip rfl rfl ?_
    refine tP (vB false) rfl (fun w => (Step.pick (t := false) rfl rfl)) ?_
    refine TW.done (fun w35 M => ?_)
    refine W.cond (t := false) rfl (fun h => by cases h) (fun _ => ?_)
    refine W.skip (W.region rfl (wS (vI (↑i_ + 1)) rfl (Step.add rfl rfl (wrap_i64 (by omega))) (wM (vI (↑i_ + 1)) (WL.nil ?_))))
    have hs_ := len_end (hs := hitsN n) (i := i_) (by omega) (kidsL_kid (l := l) he_ hlf_ hx23)
    try simp only [List.length_nil] at hs_
    replace M := M.rechunk 1 (c' := C (k0 + (partW (kidsL d l n) (hitsN n) (i_ + 1)).length) q24) rfl (congrArg (fun z => C z q24) (by omega))
    replace M := M.sel (L' := [C (k0 + (partW (kidsL d l n) (hitsN n) (i_ + 1)).length) q24, bk b13 #[(vB n.leaf), kv3, dv4, vv5] 93, arenaC 107 112 S ab l, oS kv3 n.keys, oH dv4 n.kids, oI vv5 n.vals]) [1, 2, 0, 3, 4, 5] rfl (by decide)
    exact ⟨_, (by omega), i_ + 1, q24, ⟨(by omega), rfl⟩, ⟨rfl, rfl, rfl, rfl, rfl, rfl, rfl⟩, M⟩
  ·
   have hlf_ : n.leaf = true := by simpa using h20
   rw [h20]
   refine WL.pass rfl ?_
   refine WL.pass rfl ?_
   refine WL.pass rfl ?_
   refine WL.pass rfl ?_
   refine WL.pass rfl ?_
   refine WL.pass rfl ?_
   refine WL.pass rfl ?_
   refine WL.pass rfl ?_
   refine WL.pass rfl ?_
   refine wS (vB false) rfl (Step.pick (t := false) rfl rfl) (WL.nil ?_)
   refine W.cond (t := false) rfl (fun h => by cases h) (fun _ => ?_)
   refine W.skip (W.seq' ?_)
   rcases Bool.eq_false_or_eq_true (decide ((↑i_ : Int) < (↑n.keys.length : Int))) with h36 | h36
   ·
    have h36p := of_decide_eq_true h36
    obtain ⟨cap38, hb37⟩ := SlAt.base (own_slAt (M.chunk 3 rfl).inv) (by omega)
    obtain ⟨x39, hx39⟩ := elem_of_lt (xs := n.keys) (i := i_) (by omega)
    obtain ⟨cap41, hb40⟩ := SlAt.base (own_slAt (M.chunk 5 rfl).inv) (by omega)
    obtain ⟨x42, hx42⟩ := elem_of_lt (xs := n.vals) (i := i_) (by omega)
    refine W.drawn M [0, 1, 2, 3, 4, 5, 6, 7, 8, 9, 10, 11, 12, 13, 14, 15, 16, 17, 18, 19, 20] [18] [] _ _ (sN (sY (sY (sY (sY (sY sE)))))) (fun _ h => h) Tryz.mixed (by kernel_rfl) ?_
    refine tP (vI ↑i_) rfl (fun w => (Step.move rfl)) ?_
    refine tP (Value.pointer (some ⟨b13, 1, none⟩)) rfl (fun w => sP) ?_
    refine tR kv3 rfl (fun A w M => (Step.load1 Tryz.sc23 rfl ((M.cell 1 rfl 1).trans rfl))) ?_
    refine tR (vI ↑n.keys.length) rfl (fun A w M => (Step.lenSl Tryz.un23 rfl (own_slAt (M.chunk 3 rfl).inv))) ?_
    refine tP (vB true) rfl (fun w => (Step.cast (congrArg Value.bool h36) sP)) ?_
    refine tP (vB true) rfl (fun w => (Step.move rfl)) ?_
    refine tP y rfl (fun w => (Step.move rfl)) ?_
    refine tP (Value.pointer (some ⟨b13, 1, none⟩)) rfl (fun w => sP) ?_
    refine tR kv3 rfl (fun A w M => (Step.load1 Tryz.sc23 rfl ((M.cell 1 rfl 1).trans rfl))) ?_
    refine tP (vI ↑i_) rfl (fun w => (Step.move rfl)) ?_
    refine tP (vQ kv3 i_ 1) rfl (fun w => (sX i_ Tryz.un23 Tryz.el9 rfl rfl hb37)) ?_
    refine tR (vS x39) rfl (fun A w M => (Step.loadE (k := 0) Tryz.sc9 (flat_ec (own_slAt (M.chunk 3 rfl).inv) hx39 strE_len) (by decide) rfl rfl)) ?_
    refine tP (Value.pointer (some ⟨b13, 3, none⟩)) rfl (fun w => sP) ?_
    refine tR vv5 rfl (fun A w M => (Step.load1 Tryz.sc91 rfl ((M.cell 1 rfl 3).trans rfl))) ?_
    refine tP (vI ↑i_) rfl (fun w => (Step.move rfl)) ?_
    refine tP (vQ vv5 i_ 1) rfl (fun w => (sX i_ Tryz.un91 Tryz.el3 rfl rfl hb40)) ?_
    refine tR (vI x42) rfl (fun A w M => (Step.loadE (k := 0) Tryz.sc3 (flat_ec (own_slAt (M.chunk 5 rfl).inv) hx42 intE_len) (by decide) rfl rfl)) ?_
    refine tP (Value.agg #[(vS x39), (vI x42)]) rfl (fun w => sP) ?_
    refine TW.callV (ι := ι) (fun jx v_ => v_ = vB true) (fun jx => [C (k0 + (partW (kidsL d l n) (hitsN n) i_).length + 1) jx, bk b13 #[(vB n.leaf), kv3, dv4, vv5] 93, arenaC 107 112 S ab l, oS kv3 n.keys, oH dv4 n.kids, oI vv5 n.vals]) (fun jx => [bF tb #[(vP ab), (vI r.at_), (vI r.turn), (vB fu), (vI ln)] 70, rf]) rfl (by decide) rfl rfl rfl (fun jx => (sN (sY (sY (sY (sY (sY sE))))))) (fun jx r h => h) (fun A w M => RetsV.mono (hy (k0 + (partW (kidsL d l n) (hitsN n) i_).length) q_ (⟨x39, x42⟩ : THit) _ (below_hit hAP (by omega) (kidsL_leaf (l := l) (d := d) hlf_) (hitsN_at hx39 hx42)) (M.enterW (C := [C (k0 + (partW (kidsL d l n) (hitsN n) i_).length) q_]) (D := [fl A, bk b13 #[(vB n.leaf), kv3, dv4, vv5] 93, arenaC 107 112 S ab l, oS kv3 n.keys, oH dv4 n.kids, oI vv5 n.vals]) [1, 0, 2, 3, 4, 5, 6] rfl (by decide) ⟨(M.wideR (C := [C (k0 + (partW (kidsL d l n) (hitsN n) i_).length) q_]) (D := [fl A, bk b13 #[(vB n.leaf), kv3, dv4, vv5] 93, arenaC 107 112 S ab l, oS kv3 n.keys, oH dv4 n.kids, oI vv5 n.vals]) [1, 0, 2, 3, 4, 5, 6] rfl 1 rfl), trivial⟩)) (fun v_ w_ ⟨e_, q43, m⟩ => ⟨q43, e_, (M.leaveW (C := [C (k0 + (partW (kidsL d l n) (hitsN n) i_).length) q_]) (D := [fl A, bk b13 #[(vB n.leaf), kv3, dv4, vv5] 93, arenaC 107 112 S ab l, oS kv3 n.keys, oH dv4 n.kids, oI vv5 n.vals]) [1, 0, 2, 3, 4, 5, 6] rfl (by decide) m).sel (L' := [fl A, C (k0 + (partW (kidsL d l n) (hitsN n) i_).length + 1) q43, bk b13 #[(vB n.leaf), kv3, dv4, vv5] 93, arenaC 107 112 S ab l, oS kv3 n.keys, oH dv4 n.kids, oI vv5 n.vals]) [1, 0, 2, 3, 4, 5, 6] rfl (by decide), fun b hb => M.keptW (C := [C (k0 + (partW (kidsL d l n) (hitsN n) i_).length) q_]) (D := [fl A, bk b13 #[(vB n.leaf), kv3, dv4, vv5] 93, arenaC 107 112 S ab l, oS kv3 n.keys, oH dv4 n.kids, oI vv5 n.vals]) [1, 0, 2, 3, 4, 5, 6] rfl (by decide) m (fl A) (List.mem_cons_self ..) b hb⟩)) (fun q43 v hp _ => ?_)
    subst hp
    refine tP (vB false) rfl (fun w => sP) ?_
    refine tP (vB false) rfl (fun w => (Step.pick (t := true) rfl rfl)) ?_
    refine TW.done (fun w44 M => ?_)
    refine W.cond (t := false) rfl (fun h => by cases h) (fun _ => ?_)
    refine W.skip (W.region rfl (wS (vI (↑i_ + 1)) rfl (Step.add rfl rfl (wrap_i64 (by omega))) (wM (vI (↑i_ + 1)) (WL.nil ?_))))
    have hs_ := len_hit (hitsN_at hx39 hx42) (kidsL_leaf (l := l) (d := d) hlf_)
    try simp only [List.length_nil] at hs_
    replace M := M.rechunk 0 (c' := C (k0 + (partW (kidsL d l n) (hitsN n) (i_ + 1)).length) q43) rfl (congrArg (fun z => C z q43) (by omega))
    exact ⟨_, (by omega), i_ + 1, q43, ⟨(by omega), rfl⟩, ⟨rfl, rfl, rfl, rfl, rfl, rfl, rfl⟩, M⟩
   ·
    have h36p := of_decide_eq_false h36
    refine W.drawn M [0, 1, 2, 3, 4, 5, 6, 7, 8, 9, 10, 11, 12, 13, 14, 15, 16, 17, 18, 19, 20] [18] [] _ _ (sY (sY (sY (sY (sY (sY sE)))))) (fun _ h => h) Tryz.mixed (by kernel_rfl) ?_
    refine tP (vI ↑i_) rfl (fun w => (Step.move rfl)) ?_
    refine tP (Value.pointer (some ⟨b13, 1, none⟩)) rfl (fun w => sP) ?_
    refine tR kv3 rfl (fun A w M => (Step.load1 Tryz.sc23 rfl ((M.cell 2 rfl 1).trans rfl))) ?_
    refine tR (vI ↑n.keys.length) rfl (fun A w M => (Step.lenSl Tryz.un23 rfl (own_slAt (M.chunk 4 rfl).inv))) ?_
    refine tP (vB false) rfl (fun w => (Step.cast (congrArg Value.bool h36) sP)) ?_
    refine tP (vB false) rfl (fun w => (Step.move rfl)) ?_
    refine TW.skip rfl rfl ?_
    refine TW.skip rfl rfl ?_
    refine TW.skip rfl rfl ?_
    refine TW.skip rfl rfl ?_
    refine TW.skip rfl rfl ?_
    refine TW.skip rfl rfl ?_
    refine TW.skip rfl rfl ?_
    refine TW.skip rfl rfl ?_
    refine TW.skip rfl rfl ?_
    refine TW.skip rfl rfl ?_
    refine TW.skip rfl rfl ?_
    refine TW.skip rfl rfl ?_
    refine TW.skip rfl rfl ?_
    refine TW.skip rfl rfl ?_
    refine tP (vB false) rfl (fun w => (Step.pick (t := false) rfl rfl)) ?_
    refine TW.done (fun w45 M => ?_)
    refine W.cond (t := false) rfl (fun h => by cases h) (fun _ => ?_)
    refine W.skip (W.region rfl (wS (vI (↑i_ + 1)) rfl (Step.add rfl rfl (wrap_i64 (by omega))) (wM (vI (↑i_ + 1)) (WL.nil ?_))))
    have hs_ := len_end (hs := hitsN n) (i := i_) (by omega) (kidsL_leaf (l := l) (d := d) hlf_)
    try simp only [List.length_nil] at hs_
    replace M := M.rechunk 0 (c' := C (k0 + (partW (kidsL d l n) (hitsN n) (i_ + 1)).length) q_) rfl (congrArg (fun z => C z q_) (by omega))
    exact ⟨_, (by omega), i_ + 1, q_, ⟨(by omega), rfl⟩, ⟨rfl, rfl, rfl, rfl, rfl, rfl, rfl⟩, M⟩
 ·
  have h19p := of_decide_eq_false h19
  refine W.exit ?_
  refine thn_exit ?_
  refine thn_exit ?_
  refine inBlk_hit ?_
  refine wR (wA (vB true) (WL.nil ?_))
  refine W.ret ?_
  refine ⟨.inl rfl, (vB true), ?_, ?_⟩
  · exact ⟨rfl, (Res.r1 (show RV _ _ _ (.tmp 6) (vB true) from by exact rfl))⟩
  have e46 : (k0 + (allT d l h).length : Nat) = k0 + (partW (kidsL d l n) (hitsN n) i_).length := by
   rw [allT_part hO hn, show n.keys.length + 1 = i_ by omega]
  replace M := M.rechunk 0 (c' := C (k0 + (allT d l h).length) q_) rfl (congrArg (fun z => C z q_) (e46.symm))
  refine ⟨q_, ?_, M.close [2, 0] rfl (by decide) trivial⟩
  rfl
end Go.Proofs
