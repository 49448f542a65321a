/- Proved here: lemmas and walks on which the claim stands (part 6 of 7). No condition. -/
import Derived.Test.YtnlnpfpfggbheaaTs5
set_option linter.all false
set_option maxRecDepth 100000
namespace Go.Proofs
open Go Tp
theorem Try.en101 : Enters Try.prog 101 := fun _ _ => by kernel_rfl
theorem tr_below {ι : Type} (C : Nat → ι → Chunk) (y : Value) (xs : List THit) (rf : World → Prop) (hy : ∀ (k : Nat) (i : ι) (x : THit) (w : World), xs[k]? = some x → Mem (avoid [C k i]) (Foots [C k i]) w [C k i] [rf] w → RetsV Try.prog y #[.agg #[.string x.key, .int .i64 x.val]] w fun r w' => (r = .bool true ∧ ∃ i', Mem (avoid [C k i]) (Foots [C k i]) w [C (k + 1) i'] [] w')) : ∀ (d : Nat) {G X : Nat → Prop} {w : World} (tb ab : Nat) (r : Handle) (fu : Bool) (ln : Int) (l : List RPlace) (S : Nat → Prop) (h : Handle) (k0 : Nat) (q0_ : ι)  (hA : SmallA l) (hO : lookOk d l h) (hAt : atL xs k0 (allT d l h)) (M : Mem G X w [arenaC 143 145 S ab l, C k0 q0_] [bF tb #[(vP ab), (vI r.at_), (vI r.turn), (vB fu), (vI ln)] 94, rf] w), Rets Try.prog 101 #[(vP tb), (Value.agg #[(vI h.at_), (vI h.turn)]), y] w fun r w' => ∃ (q' : ι), r = (vB true) ∧ Mem G X w [arenaC 143 145 S ab l, C (k0 + (allT d l h).length) q'] [] w' := by
 intro d
 induction d using Nat.strongRecOn
 rename_i d ih
 intro G X w tb ab r fu ln l S h k0 q0_ hA hO hAt M
 refine Rets.enter 55 _ Try.func101 rfl Try.ntmps101 Try.results101 (by simp) ?_
 obtain ⟨n, hn⟩ : ∃ n, (rget l h).1 = n := ⟨_, rfl⟩
 obtain ⟨⟨ht1, ht2, ht3⟩, hvl⟩ := lookOk_node hO hn
 have hhl := hitsN_len hvl
 have hAP := hAt
 rw [allT_part hO hn] at hAP
 refine wR ?_
 refine WL.box (v := (Value.agg #[(vI h.at_), (vI h.turn)])) (c := #[(vI h.at_), (vI h.turn)]) M rfl rfl rfl (fun b1 w2 hb1 M => ?_)
 refine wS (vB false) rfl (Step.assign rfl) ?_
 refine WL.nil ?_
 refine wR ?_
 refine wS (vP tb) rfl (Step.move rfl) ?_
 refine wS (Value.agg #[(vI h.at_), (vI h.turn)]) rfl (Step.loadN Try.ag92 rfl (M.blk 0 rfl) (Nat.le_of_ble_eq_true rfl) rfl) ?_
 have fq := M.frm [arenaC 143 145 S ab l] [bk b1 #[(vI h.at_), (vI h.turn)] 92, C k0 q0_] [1, 0, 2] rfl
 refine WL.callX rfl (tr_node tb ab r fu ln l S h (by assumption) n hn (M.eF fq ⟨(M.rF fq 0 rfl), trivial⟩)) (CallsF.func Try.en49 rfl) ?_
 rintro _ w6 ⟨kv3, dv4, vv5, rfl, m⟩
 replace M := M.lF fq m
 clear m
 have sl7 : IsSl kv3 := SlAt.isSl (own_slAt (Mem.chunk M 1 rfl).inv)
 have hle8 := SlAt.le' (own_slAt (Mem.chunk M 1 rfl).inv)
 have sl9 : IsSl dv4 := SlAt.isSl (own_slAt (Mem.chunk M 2 rfl).inv)
 have hle10 := SlAt.le' (own_slAt (Mem.chunk M 2 rfl).inv)
 have sl11 : IsSl vv5 := SlAt.isSl (own_slAt (Mem.chunk M 3 rfl).inv)
 have hle12 := SlAt.le' (own_slAt (Mem.chunk M 3 rfl).inv)
 refine WL.alloc (c := #[(vB false), vZ, vZ, vZ]) M rfl Try.el99.zero rfl (fun b13 w14 hb13 M => ?_)
 refine WL.store (v := (Value.agg #[(vB n.leaf), kv3, dv4, vv5])) (cs := [(vB n.leaf), kv3, dv4, vv5]) (c' := #[(vB n.leaf), kv3, dv4, vv5]) M 0 rfl rfl Try.el99.sized rfl rfl rfl rfl (Nat.le_of_ble_eq_true rfl) (cel_cons rfl (cel_cons (IsSl.cel sl7) (cel_cons (IsSl.cel sl9) (cel_cons (IsSl.cel sl11) cel_nil)))) rfl rfl (fun w15 M => ?_)
 refine WL.nil ?_
 refine W.seq' ?_
 refine wR ?_
 refine wS (Value.pointer (some ⟨b13, 1, none⟩)) rfl sP ?_
 refine wS kv3 rfl (Step.load1 Try.sc22 rfl ((M.cell 0 rfl 1).trans rfl)) ?_
 refine wS (vI ↑n.keys.length) rfl (Step.lenSl Try.un22 rfl (own_slAt (M.chunk 2 rfl).inv)) ?_
 refine wS (vI (↑n.keys.length + 1)) rfl (Step.add rfl rfl (wrap_i64 (by omega))) ?_
 refine wS (vI 0) rfl (Step.move rfl) ?_
 refine WL.nil ?_
 refine W.block ?_
 replace M := M.loseI 5
 replace M := M.rechunk 5 (c' := C (k0 + (partW (kidsL d l n) (hitsN n) 0).length) q0_) rfl (congrArg (fun z => C z q0_) (rfl))
 replace M := M.sel (L' := [C (k0 + (partW (kidsL d l n) (hitsN n) 0).length) q0_, bk b13 #[(vB n.leaf), kv3, dv4, vv5] 99, arenaC 143 145 S ab l, oS kv3 n.keys, oH dv4 n.kids, oI vv5 n.vals]) [5, 0, 1, 2, 3, 4] rfl (by decide)
 refine W.loop (fun kk ρ w' => ∃ (i_ : Nat) (q_ : ι), ((i_ ≤ n.keys.length + 1) ∧ kk = n.keys.length + 1 - i_) ∧ ρ.has [(0, (vP tb)), (2, y), (7, (vP b13)), (15, (vI (↑n.keys.length + 1))), (16, (vI ↑i_))] ∧ Mem G X w [C (k0 + (partW (kidsL d l n) (hitsN n) i_).length) q_, bk b13 #[(vB n.leaf), kv3, dv4, vv5] 99, arenaC 143 145 S ab l, oS kv3 n.keys, oH dv4 n.kids, oI vv5 n.vals] [bF tb #[(vP ab), (vI r.at_), (vI r.turn), (vB fu), (vI ln)] 94, rf]  w') _ ⟨0, q0_, ⟨(Nat.zero_le _), rfl⟩, ⟨rfl, rfl, rfl, rfl, rfl, rfl, rfl⟩, M⟩ ?_
 rintro _ ρ17 w16 ⟨i_, q_, ⟨hi18, rfl⟩, hρ, M⟩
 obtain ⟨ρ17, rfl⟩ := hρ.know
 clear hρ
 refine wR ?_
 refine wS (vB (decide ((↑i_ : Int) < (↑n.keys.length + 1 : Int)))) rfl sP ?_
 refine WL.nil ?_
 refine W.seq' ?_
 refine W.cond (t := decide ((↑i_ : Int) < (↑n.keys.length + 1 : Int))) rfl (fun h19 => ?_) (fun h19 => ?_)
 ·
  have h19p := of_decide_eq_true h19
  refine W.skip ?_
  refine W.seq' ?_
  refine W.block ?_
  refine wR ?_
  refine wS (vI ↑i_) rfl (Step.move rfl) ?_
  refine wS (vI ↑i_) rfl (Step.assign rfl) ?_
  refine WL.nil ?_
  refine W.seq' ?_
  refine wR ?_
  refine wS (vP b13) rfl sP ?_
  refine wS (vB n.leaf) rfl (Step.load1 Try.sc4 rfl ((M.cell 1 rfl 0).trans rfl)) ?_
  refine wS (vB !n.leaf) rfl sP ?_
  refine wS (vB !n.leaf) rfl (Step.move rfl) ?_
  rcases Bool.eq_false_or_eq_true (!n.leaf) with h20 | h20
  ·
   have hlf_ : n.leaf = false := by simpa using h20
   obtain ⟨e, he_, hkl_, hLk2_⟩ := lookOk_kid hO hn hlf_
   rw [h20]
   refine wS (vP tb) rfl (Step.move rfl) ?_
   refine wS (Value.pointer (some ⟨b13, 2, none⟩)) rfl sP ?_
   refine wS dv4 rfl (Step.load1 Try.sc96 rfl ((M.cell 1 rfl 2).trans rfl)) ?_
   refine wS (vI ↑i_) rfl (Step.move rfl) ?_
   obtain ⟨cap22, hb21⟩ := SlAt.base (own_slAt (M.chunk 4 rfl).inv) (by omega)
   obtain ⟨x23, hx23⟩ := elem_of_lt (xs := n.kids) (i := i_) (by omega)
   refine wS (vQ dv4 i_ 2) rfl (sX i_ Try.un96 Try.el92 rfl rfl hb21) ?_
   refine wS (Value.agg #[(vI x23.at_), (vI x23.turn)]) rfl (Step.loadEN (k := 0) (cs' := [(vI x23.at_), (vI x23.turn)]) Try.ag92 (flat_ec (own_slAt (M.chunk 4 rfl).inv) hx23 handleE_len) (by decide) rfl rfl rfl) ?_
   refine wS y rfl (Step.move rfl) ?_
   have fq := M.frm [arenaC 143 145 S ab l, C (k0 + (partW (kidsL d l n) (hitsN n) i_).length) q_] [bk b13 #[(vB n.leaf), kv3, dv4, vv5] 99, oS kv3 n.keys, oH dv4 n.kids, oI vv5 n.vals] [2, 0, 1, 3, 4, 5] rfl
   refine WL.callX rfl (ih e (by omega) tb ab r fu ln l S x23 (k0 + (partW (kidsL d l n) (hitsN n) i_).length) q_ (by assumption) (hLk2_ _ (List.mem_of_getElem? hx23)) (below_kid hAP (by omega) (kidsL_kid (l := l) he_ hlf_ hx23)) (M.eF fq ⟨(M.rF fq 0 rfl), (M.rF fq 1 rfl), trivial⟩)) (CallsF.func Try.en101 rfl) ?_
   rintro _ w25 ⟨q24, rfl, m⟩
   replace M := M.lF fq m
   clear m
   refine wS (vB false) rfl sP ?_
   refine wS (vB false) rfl (Step.pick (t := true) rfl rfl) ?_
   refine WL.nil ?_
   refine W.cond (t := false) rfl (fun h => by cases h) (fun _ => ?_)
   refine W.skip ?_
   refine W.seq' ?_
   rcases Bool.eq_false_or_eq_true (decide ((↑i_ : Int) < (↑n.keys.length : Int))) with h26 | h26
   ·
    have h26p := of_decide_eq_true h26
    obtain ⟨cap28, hb27⟩ := SlAt.base (own_slAt (M.chunk 3 rfl).inv) (by omega)
    obtain ⟨x29, hx29⟩ := elem_of_lt (xs := n.keys) (i := i_) (by omega)
    obtain ⟨cap31, hb30⟩ := SlAt.base (own_slAt (M.chunk 5 rfl).inv) (by omega)
    obtain ⟨x32, hx32⟩ := elem_of_lt (xs := n.vals) (i := i_) (by omega)
    refine W.drawn M [0, 1, 2, 3, 4, 5, 6, 7, 8, 9, 10, 11, 12, 13, 14, 15, 16, 17, 18, 19, 20] [18] [] _ _ (sY (sN (sY (sY (sY (sY sE)))))) (fun _ h => h) Try.mixed (by kernel_rfl) ?_
    refine tP (vI ↑i_) rfl (fun w => (Step.move rfl)) ?_
    refine tP (Value.pointer (some ⟨b13, 1, none⟩)) rfl (fun w => sP) ?_
    refine tR kv3 rfl (fun A w M => (Step.load1 Try.sc22 rfl ((M.cell 2 rfl 1).trans rfl))) ?_
    refine tR (vI ↑n.keys.length) rfl (fun A w M => (Step.lenSl Try.un22 rfl (own_slAt (M.chunk 3 rfl).inv))) ?_
    refine tP (vB true) rfl (fun w => (Step.cast (congrArg Value.bool h26) sP)) ?_
    refine tP (vB true) rfl (fun w => (Step.move rfl)) ?_
    refine tP y rfl (fun w => (Step.move rfl)) ?_
    refine tP (Value.pointer (some ⟨b13, 1, none⟩)) rfl (fun w => sP) ?_
    refine tR kv3 rfl (fun A w M => (Step.load1 Try.sc22 rfl ((M.cell 2 rfl 1).trans rfl))) ?_
    refine tP (vI ↑i_) rfl (fun w => (Step.move rfl)) ?_
    refine tP (vQ kv3 i_ 1) rfl (fun w => (sX i_ Try.un22 Try.el9 rfl rfl hb27)) ?_
    refine tR (vS x29) rfl (fun A w M => (Step.loadE (k := 0) Try.sc9 (flat_ec (own_slAt (M.chunk 3 rfl).inv) hx29 strE_len) (by decide) rfl rfl)) ?_
    refine tP (Value.pointer (some ⟨b13, 3, none⟩)) rfl (fun w => sP) ?_
    refine tR vv5 rfl (fun A w M => (Step.load1 Try.sc97 rfl ((M.cell 2 rfl 3).trans rfl))) ?_
    refine tP (vI ↑i_) rfl (fun w => (Step.move rfl)) ?_
    refine tP (vQ vv5 i_ 1) rfl (fun w => (sX i_ Try.un97 Try.el3 rfl rfl hb30)) ?_
    refine tR (vI x32) rfl (fun A w M => (Step.loadE (k := 0) Try.sc3 (flat_ec (own_slAt (M.chunk 5 rfl).inv) hx32 intE_len) (by decide) rfl rfl)) ?_
    refine tP (Value.agg #[(vS x29), (vI x32)]) rfl (fun w => sP) ?_
    refine TW.callV (ι := ι) (fun jx v_ => v_ = vB true) (fun jx => [arenaC 143 145 S ab l, C ((k0 + (partW (kidsL d l n) (hitsN n) i_).length) + (allT e l x23).length + 1) jx, bk b13 #[(vB n.leaf), kv3, dv4, vv5] 99, oS kv3 n.keys, oH dv4 n.kids, oI vv5 n.vals]) (fun jx => [bF tb #[(vP ab), (vI r.at_), (vI r.turn), (vB fu), (vI ln)] 94, rf]) rfl (by decide) rfl rfl rfl (fun jx => (sY (sN (sY (sY (sY (sY sE))))))) (fun jx r h => h) (fun A w M => RetsV.mono (hy ((k0 + (partW (kidsL d l n) (hitsN n) i_).length) + (allT e l x23).length) q24 (⟨x29, x32⟩ : THit) _ (below_hit hAP (by omega) (kidsL_kid (l := l) he_ hlf_ hx23) (hitsN_at hx29 hx32)) (M.enterW (C := [C ((k0 + (partW (kidsL d l n) (hitsN n) i_).length) + (allT e l x23).length) q24]) (D := [fl A, arenaC 143 145 S ab l, bk b13 #[(vB n.leaf), kv3, dv4, vv5] 99, oS kv3 n.keys, oH dv4 n.kids, oI vv5 n.vals]) [2, 0, 1, 3, 4, 5, 6] rfl (by decide) ⟨(M.wideR (C := [C ((k0 + (partW (kidsL d l n) (hitsN n) i_).length) + (allT e l x23).length) q24]) (D := [fl A, arenaC 143 145 S ab l, bk b13 #[(vB n.leaf), kv3, dv4, vv5] 99, oS kv3 n.keys, oH dv4 n.kids, oI vv5 n.vals]) [2, 0, 1, 3, 4, 5, 6] rfl 1 rfl), trivial⟩)) (fun v_ w_ ⟨e_, q33, m⟩ => ⟨q33, e_, (M.leaveW (C := [C ((k0 + (partW (kidsL d l n) (hitsN n) i_).length) + (allT e l x23).length) q24]) (D := [fl A, arenaC 143 145 S ab l, bk b13 #[(vB n.leaf), kv3, dv4, vv5] 99, oS kv3 n.keys, oH dv4 n.kids, oI vv5 n.vals]) [2, 0, 1, 3, 4, 5, 6] rfl (by decide) m).sel (L' := [fl A, arenaC 143 145 S ab l, C ((k0 + (partW (kidsL d l n) (hitsN n) i_).length) + (allT e l x23).length + 1) q33, bk b13 #[(vB n.leaf), kv3, dv4, vv5] 99, oS kv3 n.keys, oH dv4 n.kids, oI vv5 n.vals]) [1, 2, 0, 3, 4, 5, 6] rfl (by decide), fun b hb => M.keptW (C := [C ((k0 + (partW (kidsL d l n) (hitsN n) i_).length) + (allT e l x23).length) q24]) (D := [fl A, arenaC 143 145 S ab l, bk b13 #[(vB n.leaf), kv3, dv4, vv5] 99, oS kv3 n.keys, oH dv4 n.kids, oI vv5 n.vals]) [2, 0, 1, 3, 4, 5, 6] rfl (by decide) m (fl A) (List.mem_cons_self ..) b hb⟩)) (fun q33 v hp _ => ?_)
    subst hp
    refine tP (vB false) rfl (fun w => sP) ?_
    refine tP (vB false) rfl (fun w => (Step.pick (t := true) rfl rfl)) ?_
    refine TW.done (fun w34 M => ?_)
    refine W.cond (t := false) rfl (fun h => by cases h) (fun _ => ?_)
    refine W.skip ?_
    refine W.region rfl ?_
    refine wS (vI (↑i_ + 1)) rfl (Step.add rfl rfl (wrap_i64 (by omega))) ?_
    refine wS (vI (↑i_ + 1)) rfl (Step.move rfl) ?_
    refine WL.nil ?_
    have hs_ := len_hit (hitsN_at hx29 hx32) (kidsL_kid (l := l) he_ hlf_ hx23)
    try simp only [List.length_nil] at hs_
    replace M := M.rechunk 1 (c' := C (k0 + (partW (kidsL d l n) (hitsN n) (i_ + 1)).length) q33) rfl (congrArg (fun z => C z q33) (by omega))
    replace M := M.sel (L' := [C (k0 + (partW (kidsL d l n) (hitsN n) (i_ + 1)).length) q33, bk b13 #[(vB n.leaf), kv3, dv4, vv5] 99, arenaC 143 145 S ab l, oS kv3 n.keys, oH dv4 n.kids, oI vv5 n.vals]) [1, 2, 0, 3, 4, 5] rfl (by decide)
    exact ⟨_, (by omega), i_ + 1, q33, ⟨(by omega), rfl⟩, ⟨rfl, rfl, rfl, rfl, rfl, rfl, rfl⟩, M⟩
   ·
    have h26p := of_decide_eq_false h26
    refine W.drawn M [0, 1, 2, 3, 4, 5, 6, 7, 8, 9, 10, 11, 12, 13, 14, 15, 16, 17, 18, 19, 20] [18] [] _ _ (sY (sY (sY (sY (sY (sY sE)))))) (fun _ h => h) Try.mixed (by kernel_rfl) ?_
    refine tP (vI ↑i_) rfl (fun w => (Step.move rfl)) ?_
    refine tP (Value.pointer (some ⟨b13, 1, none⟩)) rfl (fun w => sP) ?_
    refine tR kv3 rfl (fun A w M => (Step.load1 Try.sc22 rfl ((M.cell 3 rfl 1).trans rfl))) ?_
    refine tR (vI ↑n.keys.length) rfl (fun A w M => (Step.lenSl Try.un22 rfl (own_slAt (M.chunk 4 rfl).inv))) ?_
    refine tP (vB false) rfl (fun w => (Step.cast (congrArg Value.bool h26) sP)) ?_
    refine tP (vB false) rfl (fun w => (Step.move rfl)) ?_
    refine TW.skip rfl rfl ?_
    refine TW.skip rfl rfl ?_
    refine TW.skip rfl rfl ?_
    refine TW.skip rfl rfl ?_
    refine TW.skip rfl rfl ?_
    refine TW.skip rfl rfl ?_
    refine TW.skip rfl rfl ?_
    refine TW.skip rfl rfl ?_
    refine TW.skip rfl rfl ?_
    refine TW.skip rfl rfl ?_
    refine TW.skip rfl rfl ?_
    refine TW.skip rfl rfl ?_
    refine TW.skip rfl rfl ?_
    refine TW.skip rfl rfl ?_
    refine tP (vB false) rfl (fun w => (Step.pick (t := false) rfl rfl)) ?_
    refine TW.done (fun w35 M => ?_)
    refine W.cond (t := false) rfl (fun h => by cases h) (fun _ => ?_)
    refine W.skip ?_
    refine W.region rfl ?_
    refine wS (vI (↑i_ + 1)) rfl (Step.add rfl rfl (wrap_i64 (by omega))) ?_
    refine wS (vI (↑i_ + 1)) rfl (Step.move rfl) ?_
    refine WL.nil ?_
    have hs_ := len_end (hs := hitsN n) (i := i_) (by omega) (kidsL_kid (l := l) he_ hlf_ hx23)
    try simp only [List.length_nil] at hs_
    replace M := M.rechunk 1 (c' := C (k0 + (partW (kidsL d l n) (hitsN n) (i_ + 1)).length) q24) rfl (congrArg (fun z => C z q24) (by omega))
    replace M := M.sel (L' := [C (k0 + (partW (kidsL d l n) (hitsN n) (i_ + 1)).length) q24, bk b13 #[(vB n.leaf), kv3, dv4, vv5] 99, arenaC 143 145 S ab l, oS kv3 n.keys, oH dv4 n.kids, oI vv5 n.vals]) [1, 2, 0, 3, 4, 5] rfl (by decide)
    exact ⟨_, (by omega), i_ + 1, q24, ⟨(by omega), rfl⟩, ⟨rfl, rfl, rfl, rfl, rfl, rfl, rfl⟩, M⟩
  ·
   have hlf_ : n.leaf = true := by simpa using h20
   rw [h20]
   refine WL.pass rfl ?_
   refine WL.pass rfl ?_
   refine WL.pass rfl ?_
   refine WL.pass rfl ?_
   refine WL.pass rfl ?_
   refine WL.pass rfl ?_
   refine WL.pass rfl ?_
   refine WL.pass rfl ?_
   refine WL.pass rfl ?_
   refine wS (vB false) rfl (Step.pick (t := false) rfl rfl) ?_
   refine WL.nil ?_
   refine W.cond (t := false) rfl (fun h => by cases h) (fun _ => ?_)
   refine W.skip ?_
   refine W.seq' ?_
   rcases Bool.eq_false_or_eq_true (decide ((↑i_ : Int) < (↑n.keys.length : Int))) with h36 | h36
   ·
    have h36p := of_decide_eq_true h36
    obtain ⟨cap38, hb37⟩ := SlAt.base (own_slAt (M.chunk 3 rfl).inv) (by omega)
    obtain ⟨x39, hx39⟩ := elem_of_lt (xs := n.keys) (i := i_) (by omega)
    obtain ⟨cap41, hb40⟩ := SlAt.base (own_slAt (M.chunk 5 rfl).inv) (by omega)
    obtain ⟨x42, hx42⟩ := elem_of_lt (xs := n.vals) (i := i_) (by omega)
    refine W.drawn M [0, 1, 2, 3, 4, 5, 6, 7, 8, 9, 10, 11, 12, 13, 14, 15, 16, 17, 18, 19, 20] [18] [] _ _ (sN (sY (sY (sY (sY (sY sE)))))) (fun _ h => h) Try.mixed (by kernel_rfl) ?_
    refine tP (vI ↑i_) rfl (fun w => (Step.move rfl)) ?_
    refine tP (Value.pointer (some ⟨b13, 1, none⟩)) rfl (fun w => sP) ?_
    refine tR kv3 rfl (fun A w M => (Step.load1 Try.sc22 rfl ((M.cell 1 rfl 1).trans rfl))) ?_
    refine tR (vI ↑n.keys.length) rfl (fun A w M => (Step.lenSl Try.un22 rfl (own_slAt (M.chunk 3 rfl).inv))) ?_
    refine tP (vB true) rfl (fun w => (Step.cast (congrArg Value.bool h36) sP)) ?_
    refine tP (vB true) rfl (fun w => (Step.move rfl)) ?_
    refine tP y rfl (fun w => (Step.move rfl)) ?_
    refine tP (Value.pointer (some ⟨b13, 1, none⟩)) rfl (fun w => sP) ?_
    refine tR kv3 rfl (fun A w M => (Step.load1 Try.sc22 rfl ((M.cell 1 rfl 1).trans rfl))) ?_
    refine tP (vI ↑i_) rfl (fun w => (Step.move rfl)) ?_
    refine tP (vQ kv3 i_ 1) rfl (fun w => (sX i_ Try.un22 Try.el9 rfl rfl hb37)) ?_
    refine tR (vS x39) rfl (fun A w M => (Step.loadE (k := 0) Try.sc9 (flat_ec (own_slAt (M.chunk 3 rfl).inv) hx39 strE_len) (by decide) rfl rfl)) ?_
    refine tP (Value.pointer (some ⟨b13, 3, none⟩)) rfl (fun w => sP) ?_
    refine tR vv5 rfl (fun A w M => (Step.load1 Try.sc97 rfl ((M.cell 1 rfl 3).trans rfl))) ?_
    refine tP (vI ↑i_) rfl (fun w => (Step.move rfl)) ?_
    refine tP (vQ vv5 i_ 1) rfl (fun w => (sX i_ Try.un97 Try.el3 rfl rfl hb40)) ?_
    refine tR (vI x42) rfl (fun A w M => (Step.loadE (k := 0) Try.sc3 (flat_ec (own_slAt (M.chunk 5 rfl).inv) hx42 intE_len) (by decide) rfl rfl)) ?_
    refine tP (Value.agg #[(vS x39), (vI x42)]) rfl (fun w => sP) ?_
    refine TW.callV (ι := ι) (fun jx v_ => v_ = vB true) (fun jx => [C (k0 + (partW (kidsL d l n) (hitsN n) i_).length + 1) jx, bk b13 #[(vB n.leaf), kv3, dv4, vv5] 99, arenaC 143 145 S ab l, oS kv3 n.keys, oH dv4 n.kids, oI vv5 n.vals]) (fun jx => [bF tb #[(vP ab), (vI r.at_), (vI r.turn), (vB fu), (vI ln)] 94, rf]) rfl (by decide) rfl rfl rfl (fun jx => (sN (sY (sY (sY (sY (sY sE))))))) (fun jx r h => h) (fun A w M => RetsV.mono (hy (k0 + (partW (kidsL d l n) (hitsN n) i_).length) q_ (⟨x39, x42⟩ : THit) _ (below_hit hAP (by omega) (kidsL_leaf (l := l) (d := d) hlf_) (hitsN_at hx39 hx42)) (M.enterW (C := [C (k0 + (partW (kidsL d l n) (hitsN n) i_).length) q_]) (D := [fl A, bk b13 #[(vB n.leaf), kv3, dv4, vv5] 99, arenaC 143 145 S ab l, oS kv3 n.keys, oH dv4 n.kids, oI vv5 n.vals]) [1, 0, 2, 3, 4, 5, 6] rfl (by decide) ⟨(M.wideR (C := [C (k0 + (partW (kidsL d l n) (hitsN n) i_).length) q_]) (D := [fl A, bk b13 #[(vB n.leaf), kv3, dv4, vv5] 99, arenaC 143 145 S ab l, oS kv3 n.keys, oH dv4 n.kids, oI vv5 n.vals]) [1, 0, 2, 3, 4, 5, 6] rfl 1 rfl), trivial⟩)) (fun v_ w_ ⟨e_, q43, m⟩ => ⟨q43, e_, (M.leaveW (C := [C (k0 + (partW (kidsL d l n) (hitsN n) i_).length) q_]) (D := [fl A, bk b13 #[(vB n.leaf), kv3, dv4, vv5] 99, arenaC 143 145 S ab l, oS kv3 n.keys, oH dv4 n.kids, oI vv5 n.vals]) [1, 0, 2, 3, 4, 5, 6] rfl (by decide) m).sel (L' := [fl A, C (k0 + (partW (kidsL d l n) (hitsN n) i_).length + 1) q43, bk b13 #[(vB n.leaf), kv3, dv4, vv5] 99, arenaC 143 145 S ab l, oS kv3 n.keys, oH dv4 n.kids, oI vv5 n.vals]) [1, 0, 2, 3, 4, 5, 6] rfl (by decide), fun b hb => M.keptW (C := [C (k0 + (partW (kidsL d l n) (hitsN n) i_).length) q_]) (D := [fl A, bk b13 #[(vB n.leaf), kv3, dv4, vv5] 99, arenaC 143 145 S ab l, oS kv3 n.keys, oH dv4 n.kids, oI vv5 n.vals]) [1, 0, 2, 3, 4, 5, 6] rfl (by decide) m (fl A) (List.mem_cons_self ..) b hb⟩)) (fun q43 v hp _ => ?_)
    subst hp
    refine tP (vB false) rfl (fun w => sP) ?_
    refine tP (vB false) rfl (fun w => (Step.pick (t := true) rfl rfl)) ?_
    refine TW.done (fun w44 M => ?_)
    refine W.cond (t := false) rfl (fun h => by cases h) (fun _ => ?_)
    refine W.skip ?_
    refine W.region rfl ?_
    refine wS (vI (↑i_ + 1)) rfl (Step.add rfl rfl (wrap_i64 (by omega))) ?_
    refine wS (vI (↑i_ + 1)) rfl (Step.move rfl) ?_
    refine WL.nil ?_
    have hs_ := len_hit (hitsN_at hx39 hx42) (kidsL_leaf (l := l) (d := d) hlf_)
    try simp only [List.length_nil] at hs_
    replace M := M.rechunk 0 (c' := C (k0 + (partW (kidsL d l n) (hitsN n) (i_ + 1)).length) q43) rfl (congrArg (fun z => C z q43) (by omega))
    exact ⟨_, (by omega), i_ + 1, q43, ⟨(by omega), rfl⟩, ⟨rfl, rfl, rfl, rfl, rfl, rfl, rfl⟩, M⟩
   ·
    have h36p := of_decide_eq_false h36
    refine W.drawn M [0, 1, 2, 3, 4, 5, 6, 7, 8, 9, 10, 11, 12, 13, 14, 15, 16, 17, 18, 19, 20] [18] [] _ _ (sY (sY (sY (sY (sY (sY sE)))))) (fun _ h => h) Try.mixed (by kernel_rfl) ?_
    refine tP (vI ↑i_) rfl (fun w => (Step.move rfl)) ?_
    refine tP (Value.pointer (some ⟨b13, 1, none⟩)) rfl (fun w => sP) ?_
    refine tR kv3 rfl (fun A w M => (Step.load1 Try.sc22 rfl ((M.cell 2 rfl 1).trans rfl))) ?_
    refine tR (vI ↑n.keys.length) rfl (fun A w M => (Step.lenSl Try.un22 rfl (own_slAt (M.chunk 4 rfl).inv))) ?_
    refine tP (vB false) rfl (fun w => (Step.cast (congrArg Value.bool h36) sP)) ?_
    refine tP (vB false) rfl (fun w => (Step.move rfl)) ?_
    refine TW.skip rfl rfl ?_
    refine TW.skip rfl rfl ?_
    refine TW.skip rfl rfl ?_
    refine TW.skip rfl rfl ?_
    refine TW.skip rfl rfl ?_
    refine TW.skip rfl rfl ?_
    refine TW.skip rfl rfl ?_
    refine TW.skip rfl rfl ?_
    refine TW.skip rfl rfl ?_
    refine TW.skip rfl rfl ?_
    refine TW.skip rfl rfl ?_
    refine TW.skip rfl rfl ?_
    refine TW.skip rfl rfl ?_
    refine TW.skip rfl rfl ?_
    refine tP (vB false) rfl (fun w => (Step.pick (t := false) rfl rfl)) ?_
    refine TW.done (fun w45 M => ?_)
    refine W.cond (t := false) rfl (fun h => by cases h) (fun _ => ?_)
    refine W.skip ?_
    refine W.region rfl ?_
    refine wS (vI (↑i_ + 1)) rfl (Step.add rfl rfl (wrap_i64 (by omega))) ?_
    refine wS (vI (↑i_ + 1)) rfl (Step.move rfl) ?_
    refine WL.nil ?_
    have hs_ := len_end (hs := hitsN n) (i := i_) (by omega) (kidsL_leaf (l := l) (d := d) hlf_)
    try simp only [List.length_nil] at hs_
    replace M := M.rechunk 0 (c' := C (k0 + (partW (kidsL d l n) (hitsN n) (i_ + 1)).length) q_) rfl (congrArg (fun z => C z q_) (by omega))
    exact ⟨_, (by omega), i_ + 1, q_, ⟨(by omega), rfl⟩, ⟨rfl, rfl, rfl, rfl, rfl, rfl, rfl⟩, M⟩
 ·
  have h19p := of_decide_eq_false h19
  refine W.exit ?_
  refine thn_exit ?_
  refine thn_exit ?_
  refine inBlk_hit ?_
  refine wR ?_
  refine wS (vB true) rfl (Step.assign rfl) ?_
  refine WL.nil ?_
  refine W.ret ?_
  refine ⟨.inl rfl, (vB true), ?_, ?_⟩
  · exact ⟨rfl, (Res.r1 (show RV _ _ _ (.tmp 6) (vB true) from by exact rfl))⟩
  have e46 : (k0 + (allT d l h).length : Nat) = k0 + (partW (kidsL d l n) (hitsN n) i_).length := by
   rw [allT_part hO hn, show n.keys.length + 1 = i_ by omega]
  replace M := M.rechunk 0 (c' := C (k0 + (allT d l h).length) q_) rfl (congrArg (fun z => C z q_) (e46.symm))
  refine ⟨q_, ?_, M.close [2, 0] rfl (by decide) trivial⟩
  rfl
end Go.Proofs
set_option maxRecDepth 100000
namespace Go.Proofs
open Go Tp
theorem Try.un34 : Und Try.prog 34 (.slice 41) := by unfold Und; kernel_rfl
theorem Try.el34 : Elem Try.prog 34 vZ 1 24 := Elem.mk (by kernel_rfl)
theorem Try.en70 : Enters Try.prog 70 := fun _ _ => by kernel_rfl
theorem Try.en100 : Enters Try.prog 100 := fun _ _ => by kernel_rfl
theorem Try.sc34 : Scal Try.prog 34 := fun _ => by kernel_rfl
theorem tr_hits1 {G X : Nat → Prop} {w : World} (y : Value) (pb : Nat) (tb ab : Nat) (rt : Handle) (fu : Bool) (ln : Int) (l : List RPlace) (S : Nat → Prop) (xs : List THit) (hA : SmallA l) (d : Nat) (hLk : fu = true → lookOk d l rt) (hxs : xs = allL fu d l rt) {ι : Type} (C : Nat → ι → Chunk) (q0_ : ι) (rf : World → Prop) (hy0 : ∀ (k : Nat) (i : ι) (x : THit) (w : World), xs[k]? = some x → Mem (avoid [C k i]) (Foots [C k i]) w [C k i] [rf] w → RetsV Try.prog y #[.agg #[.string x.key, .int .i64 x.val]] w fun r w' => (r = .bool true ∧ ∃ i', Mem (avoid [C k i]) (Foots [C k i]) w [C (k + 1) i'] [] w') ∨ (r = .bool false ∧ ∃ i' : ι, Mem (avoid [C k i]) (Foots [C k i]) w [badC] [] w')) (M : Mem G X w [C 0 q0_, arenaC 143 145 S ab l] [bF pb #[(vP tb)] 26, bF tb #[(vP ab), (vI rt.at_), (vI rt.turn), (vB fu), (vI ln)] 94, rf] w) : Rets Try.prog 100 #[y, (vP pb)] w fun r w' => ∃ q_, Mem G X w [C xs.length q_, arenaC 143 145 S ab l] [] w' := by
 refine Rets.enter 18 _ Try.func100 rfl Try.ntmps100 Try.results100 (by simp) ?_
 have hy := fun k i x w hx m => (hy0 k i x w hx m).mono fun r w' h => h.elim id fun ⟨_, _, m⟩ => ((m.chunk 0 rfl).inv).elim
 refine wR ?_
 refine wS (vP tb) rfl (Step.load1 Try.sc26 rfl ((cell_blk (M.rep 0 rfl) 0).trans rfl)) ?_
 refine wS (vB true) rfl sP ?_
 refine wS (vB true) rfl (Step.move rfl) ?_
 refine wS (vP tb) rfl (Step.load1 Try.sc26 rfl ((cell_blk (M.rep 0 rfl) 0).trans rfl)) ?_
 refine wS (vP tb) rfl sP ?_
 refine wS (Value.pointer (some ⟨tb, 3, none⟩)) rfl sP ?_
 refine wS (vB fu) rfl (Step.load1 Try.sc4 rfl ((cell_blk (M.rep 1 rfl) 3).trans rfl)) ?_
 refine wS (vB fu) rfl (Step.pick (t := true) rfl rfl) ?_
 refine WL.nil ?_
 refine W.cond (t := fu) rfl (fun h1 => ?_) (fun h1 => ?_)
 ·
  refine W.drawn M [0, 1, 2, 3, 4, 5, 6] [6] [] _ _ (sN (sN sE)) (fun _ h => h) Try.mixed (by kernel_rfl) ?_
  refine tR (vP tb) rfl (fun A w M => (Step.load1 Try.sc26 rfl ((cell_blk (M.rep 0 rfl) 0).trans rfl))) ?_
  refine tR (vP tb) rfl (fun A w M => (Step.load1 Try.sc26 rfl ((cell_blk (M.rep 0 rfl) 0).trans rfl))) ?_
  refine tP (vP tb) rfl (fun w => sP) ?_
  refine tP (Value.pointer (some ⟨tb, 1, none⟩)) rfl (fun w => sP) ?_
  refine tR (Value.agg #[(vI rt.at_), (vI rt.turn)]) rfl (fun A w M => (Step.loadN Try.ag92 rfl (M.rep 1 rfl) (Nat.le_of_ble_eq_true rfl) rfl)) ?_
  refine tP y rfl (fun w => (Step.move rfl)) ?_
  refine TW.callX (ι := ι) (fun jx v_ => v_ = (vB true)) (fun jx => [arenaC 143 145 S ab l, C (0 + (allT d l rt).length) jx]) (fun jx => [bF pb #[(vP tb)] 26, bF tb #[(vP ab), (vI rt.at_), (vI rt.turn), (vB fu), (vI ln)] 94, rf]) rfl (by decide) rfl (fun jx => (sN (sN sE))) (fun jx r h => h) (fun A w M => have fq := M.frm [arenaC 143 145 S ab l, C 0 q0_] [fl A] [2, 1, 0] rfl; Rets.mono (tr_below C y xs rf hy d tb ab rt fu ln l S rt 0 q0_ (by assumption) (hLk h1) (by rw [hxs, allL, if_pos h1]; exact atL_all _) (M.eF fq ⟨(M.rF fq 1 rfl), (M.rF fq 2 rfl), trivial⟩)) (fun v_ w_ ⟨q4, e_, m⟩ => ⟨q4, e_, (M.lF fq m).sel [2, 0, 1] rfl (by decide), fun b hb => M.kF fq m b hb⟩)) (fun w => CallsF.func Try.en101 rfl) (fun q4 v hp hin => ?_)
  replace hp := hp.symm; subst hp
  obtain ⟨_, _, hin⟩ := hin
  clear hin
  refine TW.done (fun w5 M => ?_)
  refine ⟨.inr rfl, undef, ?_, ?_⟩
  · exact ⟨rfl, Res.none⟩
  have e6 : (xs.length : Nat) = 0 + (allT d l rt).length := by
   rw [hxs, allL, if_pos h1]; exact (Nat.zero_add _).symm
  replace M := M.rechunk 1 (c' := C xs.length q4) rfl (congrArg (fun z => C z q4) (e6.symm))
  exact ⟨_, M.close [1, 0] rfl (by decide) trivial⟩
 ·
  refine W.skip ?_
  refine ⟨.inr rfl, undef, ?_, ?_⟩
  · exact ⟨rfl, Res.none⟩
  have e7 : (xs.length : Nat) = 0 := by
   rw [hxs, allL, if_neg (by simp [h1])]; rfl
  replace M := M.rechunk 0 (c' := C xs.length q0_) rfl (congrArg (fun z => C z q0_) (e7.symm))
  exact ⟨_, M.close [0, 1] rfl (by decide) trivial⟩
theorem tr_hits {G : Nat → Prop} {w : World} (tb : Nat)   (M : Mem G (fun _ => False) w [] [] w) : Rets Try.prog 70 #[(vP tb)] w fun r w' => ∃ (pb' : Nat), r = (Value.func (.func 100) #[] #[(vP pb')]) ∧ Mem G (fun _ => False) w [bk pb' #[(vP tb)] 26] [] w' := by
 refine Rets.enter 4 _ Try.func70 rfl Try.ntmps70 Try.results70 (by simp) ?_
 refine wR ?_
 refine WL.box (v := (vP tb)) (c := #[(vP tb)]) M rfl rfl rfl (fun b1 w2 hb1 M => ?_)
 refine wS Value.nilFunc rfl (Step.assign rfl) ?_
 refine WL.nil ?_
 refine wR ?_
 refine wS (Value.func (.func 100) #[] #[(vP b1)]) rfl sP ?_
 refine wS (Value.func (.func 100) #[] #[(vP b1)]) rfl (Step.assign rfl) ?_
 refine WL.nil ?_
 refine W.ret ?_
 refine ⟨.inl rfl, (Value.func (.func 100) #[] #[(vP b1)]), ?_, ?_⟩
 · exact ⟨rfl, (Res.r1 (show RV _ _ _ (.tmp 2) (Value.func (.func 100) #[] #[(vP b1)]) from by exact rfl))⟩
 refine ⟨b1, ?_, M.close [0] rfl (by decide) trivial⟩
 rfl
theorem tr_all {G X : Nat → Prop} {w : World} (tb ab : Nat) (rt : Handle) (fu : Bool) (ln : Int) (l : List RPlace) (S : Nat → Prop)  (hA : SmallA l) (d : Nat) (hLk : fu = true → lookOk d l rt) (hb : (allL fu d l rt).length ≤ 1000000) (M : Mem G X w [arenaC 143 145 S ab l] [bF tb #[(vP ab), (vI rt.at_), (vI rt.turn), (vB fu), (vI ln)] 94] w) : Rets Try.prog 38 #[(vP tb)] w fun r w' => ∃ (v' : Value), r = v' ∧ Mem G X w [arenaC 143 145 S ab l, own 41 2 v' ((allL fu d l rt).length) ((allL fu d l rt).flatMap hitE)] [] w' := by
 refine Rets.enterD 12 _ Try.func38 rfl Try.ntmps38 Try.results38 (by simp) ?_
 refine wR ?_
 refine WL.alloc (c := #[vZ]) M rfl Try.el34.zero rfl (fun b1 w2 hb1 M => ?_)
 refine WL.nil ?_
 refine W.seq' ?_
 refine wR ?_
 refine wS (vP tb) rfl (Step.move rfl) ?_
 refine WL.callX rfl (tr_hits tb (M.enterW0 trivial)) (CallsF.func Try.en70 rfl) ?_
 rintro _ w4 ⟨pb3, rfl, m⟩
 replace M := M.leaveW0 m
 clear m
 refine WL.nil ?_
 refine W.block ?_
 replace M := M.ownNil 41 2
 replace M := M.rechunk 0 (c' := own 41 2 vZ (((allL fu d l rt).take 0).length) (((allL fu d l rt).take 0).flatMap hitE)) rfl rfl
 refine W.range M rfl rfl rfl Try.en100 (fun D6 lp7 w8 LC5 hLC9 _ _ M => ?_)
 replace M := M.sel (L' := [(LC5 LoopState.ready none), bk b1 #[vZ] 34, own 41 2 vZ (((allL fu d l rt).take 0).length) (((allL fu d l rt).take 0).flatMap hitE), blk D6 (.deferred (some [])), bk pb3 #[(vP tb)] 26, arenaC 143 145 S ab l]) [0, 4, 2, 1, 3, 5] rfl (by decide)
 replace M := Mem.packL (Ls := [(LC5 LoopState.ready none), bk b1 #[vZ] 34, own 41 2 vZ (((allL fu d l rt).take 0).length) (((allL fu d l rt).take 0).flatMap hitE)]) (L := [blk D6 (.deferred (some [])), bk pb3 #[(vP tb)] 26, arenaC 143 145 S ab l]) M
 refine Rets.mono (tr_hits1 _ pb3 tb ab rt fu ln l S (allL fu d l rt) hA d hLk rfl (ι := Value) (fun (k : Nat) (i : Value) => packL ([(LC5 LoopState.ready none), bk b1 #[i] 34, own 41 2 i (((allL fu d l rt).take k).length) (((allL fu d l rt).take k).flatMap hitE)])) vZ (fun _ => True) ?_ (M.enterW (C := [packL ([(LC5 LoopState.ready none), bk b1 #[vZ] 34, own 41 2 vZ (((allL fu d l rt).take 0).length) (((allL fu d l rt).take 0).flatMap hitE)]), arenaC 143 145 S ab l]) (D := [blk D6 (.deferred (some [])), bk pb3 #[(vP tb)] 26]) [0, 3, 1, 2] rfl (by decide) ⟨(M.wideC (C := [packL ([(LC5 LoopState.ready none), bk b1 #[vZ] 34, own 41 2 vZ (((allL fu d l rt).take 0).length) (((allL fu d l rt).take 0).flatMap hitE)]), arenaC 143 145 S ab l]) (D := [blk D6 (.deferred (some [])), bk pb3 #[(vP tb)] 26]) [0, 3, 1, 2] rfl (by decide) 1 rfl), (M.wideR (C := [packL ([(LC5 LoopState.ready none), bk b1 #[vZ] 34, own 41 2 vZ (((allL fu d l rt).take 0).length) (((allL fu d l rt).take 0).flatMap hitE)]), arenaC 143 145 S ab l]) (D := [blk D6 (.deferred (some [])), bk pb3 #[(vP tb)] 26]) [0, 3, 1, 2] rfl 0 rfl), (Sh.pure fun _ => trivial), trivial⟩)) ?_
 ·
  rintro k_ v_ x_ w10 hx_ m11
  have M := Mem.unpackL (L := []) m11
  have sl12 : IsSl v_ := SlAt.isSl (own_slAt (Mem.chunk M 2 rfl).inv)
  have hle13 := SlAt.le' (own_slAt (Mem.chunk M 2 rfl).inv)
  refine RetsV.yieldM hLC9 M 0 rfl [(Value.agg #[(vS x_.key), (vI x_.val)])] rfl (by decide) ?_
  have hacl : ((allL fu d l rt).take k_).length ≤ 1000000 := by rw [List.length_take]; omega
  refine W.region rfl ?_
  refine WL.alloc (c := #[(vS sZ), (vI 0)]) M rfl Try.el41.zero rfl (fun b14 w15 hb14 M => ?_)
  refine WL.store (v := (Value.agg #[(vS x_.key), (vI x_.val)])) (cs := [(vS x_.key), (vI x_.val)]) (c' := #[(vS x_.key), (vI x_.val)]) M 0 rfl rfl Try.el41.sized rfl rfl rfl rfl (Nat.le_of_ble_eq_true rfl) (cel_cons rfl (cel_cons rfl cel_nil)) rfl rfl (fun w16 M => ?_)
  refine WL.nil ?_
  repeat (with_reducible first | refine inBlk_normal ?_ | refine inBlk_ret ?_ | refine thn_ret ?_)
  refine RoundA.go hLC9 M 1 rfl (fun w17 M => ?_)
  refine W.block ?_
  refine W.region rfl ?_
  refine wS v_ rfl (Step.load1 Try.sc34 rfl ((M.cell 2 rfl 0).trans rfl)) ?_
  refine wS (Value.agg #[(vS x_.key), (vI x_.val)]) rfl (Step.loadN Try.ag41 rfl (M.blk 0 rfl) (Nat.le_of_ble_eq_true rfl) rfl) ?_
  refine WL.new (obj := .cells #[(vS x_.key), (vI x_.val)] 41) (fun b => .slice (some ⟨b, 0, none⟩) 1 1) M rfl (fun w => Step.make (by kernel_rfl)) (fun b18 w19 hb18 M => ?_)
  refine WL.does rfl (M.appendF ((allL fu d l rt).take k_) ([x_] : List THit) (sv := (Value.slice (some ⟨b18, 0, none⟩) 1 1)) 4 Try.un34 Try.el41 rfl (by decide) rfl rfl rfl (SlAt.of_blk (M.blk 0 rfl) rfl (by decide)) hitE_cel (by have := hacl; simp only [maxLen, List.length_nil, List.length_cons, List.length_append]; omega) (by have := hacl; (try simp only [List.length_nil, List.length_cons, List.length_append]); omega)) ?_
  rintro v20 w21 M
  have sl22 : IsSl v20 := SlAt.isSl (own_slAt (M.chunk 4 rfl).inv)
  refine WL.store (v := v20) (cs := [v20]) (c' := #[v20]) M 3 rfl rfl Try.el34.sized rfl rfl (IsSl.list sl22) rfl (Nat.le_of_ble_eq_true rfl) (cel_cons (IsSl.cel sl22) cel_nil) rfl rfl (fun w23 M => ?_)
  refine WL.nil ?_
  repeat (with_reducible first | refine inBlk_normal ?_ | refine inBlk_ret ?_ | refine thn_ret ?_)
  refine RoundQ.go hLC9 M 2 rfl (fun w24 M => ?_)
  replace M := M.rechunk 4 (c' := own 41 2 v20 (((allL fu d l rt).take (k_ + 1)).length) (((allL fu d l rt).take (k_ + 1)).flatMap hitE)) rfl (by rw [← take_snoc hx_])
  refine .inl ⟨rfl, v20, ?_⟩
  exact Mem.packL (Ls := [(LC5 LoopState.ready none), bk b1 #[v20] 34, own 41 2 v20 (((allL fu d l rt).take (k_ + 1)).length) (((allL fu d l rt).take (k_ + 1)).flatMap hitE)]) (L := []) (M.close (L' := [(LC5 LoopState.ready none), bk b1 #[v20] 34, own 41 2 v20 (((allL fu d l rt).take (k_ + 1)).length) (((allL fu d l rt).take (k_ + 1)).flatMap hitE)]) [2, 3, 4] rfl (by decide) trivial)
 ·
  rintro _ w25 ⟨v_, m⟩
  replace M := M.leaveW (C := [packL ([(LC5 LoopState.ready none), bk b1 #[vZ] 34, own 41 2 vZ (((allL fu d l rt).take 0).length) (((allL fu d l rt).take 0).flatMap hitE)]), arenaC 143 145 S ab l]) (D := [blk D6 (.deferred (some [])), bk pb3 #[(vP tb)] 26]) [0, 3, 1, 2] rfl (by decide) m
  replace M := Mem.unpackL M
  have sl26 : IsSl v_ := SlAt.isSl (own_slAt (Mem.chunk M 2 rfl).inv)
  have hle27 := SlAt.le' (own_slAt (Mem.chunk M 2 rfl).inv)
  obtain ⟨_, hr1, hr2, hr3, M⟩ := M.endLoop' hLC9 0 rfl (by decide)
  refine ⟨_, hr1, hr2, .inl ⟨hr3, ?_⟩⟩
  replace M := M.rechunk 1 (c' := own 41 2 v_ ((allL fu d l rt).length) ((allL fu d l rt).flatMap hitE)) rfl (by rw [List.take_length])
  refine wR ?_
  refine wS v_ rfl (Step.load1 Try.sc34 rfl ((M.cell 0 rfl 0).trans rfl)) ?_
  refine WL.store (v := v_) (cs := [v_]) (c' := #[v_]) M 0 rfl rfl Try.el34.sized rfl rfl (IsSl.list sl26) rfl (Nat.le_of_ble_eq_true rfl) (cel_cons (IsSl.cel sl26) cel_nil) rfl rfl (fun w29 M => ?_)
  refine WL.nil ?_
  refine W.ret ?_
  obtain ⟨hD30, M⟩ := M.strike 3 rfl
  refine ⟨.inl rfl, _, (.cons hD30 .nil), v_, ?_, ?_⟩
  · exact (Res.r1 (RV.cell1 Try.sc34 rfl (M.blk 0 rfl)))
  refine ⟨v_, ?_, M.close [2, 1] rfl (by decide) trivial⟩
  rfl
end Go.Proofs
set_option maxRecDepth 100000
namespace Go.Proofs
open Go Tp
theorem Try.un65 : Und Try.prog 65 (.slice 74) := by unfold Und; kernel_rfl
theorem Try.el74 : Elem Try.prog 74 (Value.agg #[(vI 0), (vB false), vZ]) 3 40 := Elem.mk (by kernel_rfl)
theorem Try.en62 : Enters Try.prog 62 := fun _ _ => by kernel_rfl
abbrev oP (v : Value) (xs : List PlC) : Chunk := own 74 3 v xs.length (xs.flatMap plcE)
abbrev fP (v : Value) (xs : List PlC) : World → Prop := SlAt 3 v xs.length (xs.flatMap plcE)
abbrev oR (v : Value) (xs : List THit) : Chunk := own 41 2 v xs.length (xs.flatMap hitE)
abbrev fR (v : Value) (xs : List THit) : World → Prop := SlAt 2 v xs.length (xs.flatMap hitE)
theorem tr_places : ∀ (d : Nat) {G X : Nat → Prop} {w : World} (tb ab : Nat) (r : Handle) (fu : Bool) (ln : Int) (l : List RPlace) (S : Nat → Prop) (v : Value) (cs : List PlC) (N : Nat → Prop) (ps : List TPl) (h : Handle) (q : Int)  (hA : SmallA l) (hO : plOk d l h) (hq : 0 ≤ q ∧ q + (d : Int) ≤ 1000000) (hb : ps.length + (placesT d l h q).length ≤ 1000000) (M : Mem G X w [arenaC 143 145 S ab l, oP v cs, rowsC 9 N 0 cs ps] [bF tb #[(vP ab), (vI r.at_), (vI r.turn), (vB fu), (vI ln)] 94] w), Rets Try.prog 62 #[(vP tb), v, (Value.agg #[(vI h.at_), (vI h.turn)]), (vI q)] w fun r w' => ∃ (v' : Value) (cs' : List PlC) (N' : Nat → Prop), r = v' ∧ Mem G X w [arenaC 143 145 S ab l, oP v' cs', rowsC 9 N' 0 cs' (ps ++ placesT d l h q)] [] w' := by
 intro d
 induction d using Nat.strongRecOn
 rename_i d ih
 intro G X w tb ab r fu ln l S v cs N ps h q hA hO hq hb M
 refine Rets.enter 39 _ Try.func62 rfl Try.ntmps62 Try.results62 (by simp) ?_
 have sl1 : IsSl v := SlAt.isSl (own_slAt (Mem.chunk M 1 rfl).inv)
 have hle2 := SlAt.le' (own_slAt (Mem.chunk M 1 rfl).inv)
 obtain ⟨n, hn⟩ : ∃ n, (rget l h).1 = n := ⟨_, rfl⟩
 obtain ⟨ht1, ht2, ht3⟩ := plOk_node hO hn
 have hcl_ : cs.length ≤ 1000000 := by have := rows_len (M.chunk 2 rfl).inv; omega
 refine wR ?_
 refine WL.box (v := (Value.agg #[(vI h.at_), (vI h.turn)])) (c := #[(vI h.at_), (vI h.turn)]) M rfl rfl rfl (fun b3 w4 hb3 M => ?_)
 refine wS vZ rfl (Step.assign rfl) ?_
 refine WL.nil ?_
 refine wR ?_
 refine wS (vP tb) rfl (Step.move rfl) ?_
 refine wS (Value.agg #[(vI h.at_), (vI h.turn)]) rfl (Step.loadN Try.ag92 rfl (M.blk 0 rfl) (Nat.le_of_ble_eq_true rfl) rfl) ?_
 have fq := M.frm [arenaC 143 145 S ab l] [bk b3 #[(vI h.at_), (vI h.turn)] 92, oP v cs, rowsC 9 N 0 cs ps] [1, 0, 2, 3] rfl
 refine WL.callX rfl (tr_node tb ab r fu ln l S h (by assumption) n hn (M.eF fq ⟨(M.rF fq 0 rfl), trivial⟩)) (CallsF.func Try.en49 rfl) ?_
 rintro _ w8 ⟨kv5, dv6, vv7, rfl, m⟩
 replace M := M.lF fq m
 clear m
 have sl9 : IsSl kv5 := SlAt.isSl (own_slAt (Mem.chunk M 1 rfl).inv)
 have hle10 := SlAt.le' (own_slAt (Mem.chunk M 1 rfl).inv)
 have sl11 : IsSl dv6 := SlAt.isSl (own_slAt (Mem.chunk M 2 rfl).inv)
 have hle12 := SlAt.le' (own_slAt (Mem.chunk M 2 rfl).inv)
 have sl13 : IsSl vv7 := SlAt.isSl (own_slAt (Mem.chunk M 3 rfl).inv)
 have hle14 := SlAt.le' (own_slAt (Mem.chunk M 3 rfl).inv)
 refine WL.alloc (c := #[(vB false), vZ, vZ, vZ]) M rfl Try.el99.zero rfl (fun b15 w16 hb15 M => ?_)
 refine WL.store (v := (Value.agg #[(vB n.leaf), kv5, dv6, vv7])) (cs := [(vB n.leaf), kv5, dv6, vv7]) (c' := #[(vB n.leaf), kv5, dv6, vv7]) M 0 rfl rfl Try.el99.sized rfl rfl rfl rfl (Nat.le_of_ble_eq_true rfl) (cel_cons rfl (cel_cons (IsSl.cel sl9) (cel_cons (IsSl.cel sl11) (cel_cons (IsSl.cel sl13) cel_nil)))) rfl rfl (fun w17 M => ?_)
 refine WL.nil ?_
 refine wR ?_
 refine wS v rfl (Step.move rfl) ?_
 refine wS (vI q) rfl (Step.move rfl) ?_
 refine wS (vP b15) rfl sP ?_
 refine wS (vB n.leaf) rfl (Step.load1 Try.sc4 rfl ((M.cell 0 rfl 0).trans rfl)) ?_
 refine wS (Value.pointer (some ⟨b15, 1, none⟩)) rfl sP ?_
 refine wS kv5 rfl (Step.load1 Try.sc22 rfl ((M.cell 0 rfl 1).trans rfl)) ?_
 refine wS (Value.agg #[(vI q), (vB n.leaf), kv5]) rfl (by obtain ⟨_, _, _, e⟩ := sl9; subst e; exact sP) ?_
 refine WL.new (obj := .cells #[(vI q), (vB n.leaf), kv5] 74) (fun b => .slice (some ⟨b, 0, none⟩) 1 1) M rfl (fun w => (by obtain ⟨_, _, _, e⟩ := sl9; subst e; exact Step.make (by kernel_rfl))) (fun b18 w19 hb18 M => ?_)
 refine WL.does rfl (M.appendF cs ([(⟨q, n.leaf, ⟨kv5, sl9⟩⟩ : PlC)] : List PlC) (sv := (Value.slice (some ⟨b18, 0, none⟩) 1 1)) 7 Try.un65 Try.el74 rfl (by decide) rfl rfl rfl (SlAt.of_blk (M.blk 0 rfl) rfl (by decide)) plcE_cel (by have := hcl_; simp only [maxLen, List.length_nil, List.length_cons, List.length_append]; omega) (by have := hcl_; (try simp only [List.length_nil, List.length_cons, List.length_append]); omega)) ?_
 rintro v20 w21 M
 have sl22 : IsSl v20 := SlAt.isSl (own_slAt (M.chunk 7 rfl).inv)
 refine wS v20 rfl (Step.assign rfl) ?_
 refine WL.nil ?_
 refine W.seq' ?_
 refine W.seq' ?_
 replace M := M.sel (L' := [rowsC 9 N 0 cs ps, oS kv5 n.keys, bk b18 #[(vI q), (vB n.leaf), kv5] 74, bk b15 #[(vB n.leaf), kv5, dv6, vv7] 99, arenaC 143 145 S ab l, oH dv6 n.kids, oI vv7 n.vals, bk b3 #[(vI h.at_), (vI h.turn)] 92, oP v20 (cs ++ ([(⟨q, n.leaf, ⟨kv5, sl9⟩⟩ : PlC)] : List PlC))]) [8, 3, 0, 1, 2, 4, 5, 6, 7] rfl (by decide)
 obtain ⟨N2_, M⟩ := M.rowsAdd (d := q) (lf := n.leaf) (sl := sl9) (ks := n.keys)
 replace M := M.rechunk 0 (c' := rowsC 9 N2_ 0 (cs ++ ([(⟨q, n.leaf, ⟨kv5, sl9⟩⟩ : PlC)] : List PlC)) (ps ++ (⟨q, n.leaf, n.keys⟩ : TPl) :: kidsP d l n q 0)) rfl (by rw [kidsP_zero])
 refine W.region rfl ?_
 refine wS (Value.pointer (some ⟨b15, 2, none⟩)) rfl sP ?_
 refine wS dv6 rfl (Step.load1 Try.sc96 rfl ((M.cell 2 rfl 2).trans rfl)) ?_
 refine wS (vI ↑n.kids.length) rfl (Step.lenSl Try.un96 rfl (own_slAt (M.chunk 4 rfl).inv)) ?_
 refine wS (vI 0) rfl (Step.move rfl) ?_
 refine WL.nil ?_
 refine W.block ?_
 replace M := M.loseI 6
 replace M := M.loseI 5
 replace M := M.loseI 2
 replace M := M.loseI 1
 replace M := M.sel (L' := [oP v20 (cs ++ ([(⟨q, n.leaf, ⟨kv5, sl9⟩⟩ : PlC)] : List PlC)), rowsC 9 N2_ 0 (cs ++ ([(⟨q, n.leaf, ⟨kv5, sl9⟩⟩ : PlC)] : List PlC)) (ps ++ (⟨q, n.leaf, n.keys⟩ : TPl) :: kidsP d l n q 0), arenaC 143 145 S ab l, oH dv6 n.kids]) [3, 0, 1, 2] rfl (by decide)
 refine W.loop (fun kk ρ w' => ∃ (i_ : Nat) (v_ : Value) (cs_ : List PlC) (N_ : Nat → Prop), ((i_ ≤ n.kids.length) ∧ kk = n.kids.length - i_) ∧ ρ.has [(0, (vP tb)), (1, v_), (3, (vI q)), (8, vZ), (25, dv6), (26, (vI ↑n.kids.length)), (27, (vI ↑i_))] ∧ Mem G X w [oP v_ cs_, rowsC 9 N_ 0 cs_ (ps ++ (⟨q, n.leaf, n.keys⟩ : TPl) :: kidsP d l n q i_), arenaC 143 145 S ab l, oH dv6 n.kids] [bF tb #[(vP ab), (vI r.at_), (vI r.turn), (vB fu), (vI ln)] 94]  w') _ ⟨0, _, _, _, ⟨(Nat.zero_le _), rfl⟩, ⟨rfl, rfl, rfl, rfl, rfl, rfl, rfl, rfl, rfl⟩, M⟩ ?_
 rintro _ ρ24 w23 ⟨i_, v_, cs_, N_, ⟨hi25, rfl⟩, hρ, M⟩
 obtain ⟨ρ24, rfl⟩ := hρ.know
 clear hρ
 have sl26 : IsSl v_ := SlAt.isSl (own_slAt (M.chunk 0 rfl).inv)
 refine wR ?_
 refine wS (vB (decide ((↑i_ : Int) < (↑n.kids.length : Int)))) rfl sP ?_
 refine WL.nil ?_
 refine W.seq' ?_
 refine W.cond (t := decide ((↑i_ : Int) < (↑n.kids.length : Int))) rfl (fun h27 => ?_) (fun h27 => ?_)
 ·
  have h27p := of_decide_eq_true h27
  refine W.skip ?_
  refine W.seq' ?_
  refine W.block ?_
  refine wR ?_
  obtain ⟨cap29, hb28⟩ := SlAt.base (own_slAt (M.chunk 3 rfl).inv) (by omega)
  obtain ⟨x30, hx30⟩ := elem_of_lt (xs := n.kids) (i := i_) (by omega)
  obtain ⟨e, he_, hO2_⟩ := plOk_kid hO hn hx30
  refine wS (vQ dv6 i_ 2) rfl (sX i_ Try.un96 Try.el92 rfl rfl hb28) ?_
  refine wS (Value.agg #[(vI x30.at_), (vI x30.turn)]) rfl (Step.loadEN (k := 0) (cs' := [(vI x30.at_), (vI x30.turn)]) Try.ag92 (flat_ec (own_slAt (M.chunk 3 rfl).inv) hx30 handleE_len) (by decide) rfl rfl rfl) ?_
  refine WL.alloc (c := #[(vI 0), (vI 0)]) M rfl Try.el92.zero rfl (fun b31 w32 hb31 M => ?_)
  refine WL.store (v := (Value.agg #[(vI x30.at_), (vI x30.turn)])) (cs := [(vI x30.at_), (vI x30.turn)]) (c' := #[(vI x30.at_), (vI x30.turn)]) M 0 rfl rfl Try.el92.sized rfl rfl rfl rfl (Nat.le_of_ble_eq_true rfl) (cel_cons rfl (cel_cons rfl cel_nil)) rfl rfl (fun w33 M => ?_)
  refine WL.nil ?_
  refine W.region rfl ?_
  refine wS (vP tb) rfl (Step.move rfl) ?_
  refine wS v_ rfl (Step.move rfl) ?_
  refine wS (Value.agg #[(vI x30.at_), (vI x30.turn)]) rfl (Step.loadN Try.ag92 rfl (M.blk 0 rfl) (Nat.le_of_ble_eq_true rfl) rfl) ?_
  refine wS (vI q) rfl (Step.move rfl) ?_
  refine wS (vI (q + 1)) rfl (Step.add rfl rfl (wrap_i64 (by omega))) ?_
  have fq := M.frm [arenaC 143 145 S ab l, oP v_ cs_, rowsC 9 N_ 0 cs_ (ps ++ (⟨q, n.leaf, n.keys⟩ : TPl) :: kidsP d l n q i_)] [bk b31 #[(vI x30.at_), (vI x30.turn)] 92, oH dv6 n.kids] [3, 1, 2, 0, 4] rfl
  refine WL.callX rfl (ih e (by omega) tb ab r fu ln l S v_ cs_ N_ (ps ++ (⟨q, n.leaf, n.keys⟩ : TPl) :: kidsP d l n q i_) x30 (q + 1) (by assumption) (hO2_) (by omega) (by have h1_ := @kidsP_le l n d (i_ + 1) q; rw [kidsP_succ he_ hx30] at h1_; rw [placesT_all hn] at hb; simp only [List.length_append, List.length_cons] at h1_ hb ⊢; omega) (M.eF fq ⟨(M.rF fq 0 rfl), trivial⟩)) (CallsF.func Try.en62 rfl) ?_
  rintro v34 w37 ⟨_, cs35, N36, rfl, m⟩
  replace M := M.lF fq m
  clear m
  have sl38 : IsSl v34 := SlAt.isSl (own_slAt (Mem.chunk M 1 rfl).inv)
  have hle39 := SlAt.le' (own_slAt (Mem.chunk M 1 rfl).inv)
  refine wS v34 rfl (Step.assign rfl) ?_
  refine WL.nil ?_
  refine W.region rfl ?_
  refine wS (vI (↑i_ + 1)) rfl (Step.add rfl rfl (wrap_i64 (by omega))) ?_
  refine wS (vI (↑i_ + 1)) rfl (Step.move rfl) ?_
  refine WL.nil ?_
  replace M := M.rechunk 2 (c' := rowsC 9 N36 0 cs35 (ps ++ (⟨q, n.leaf, n.keys⟩ : TPl) :: kidsP d l n q (i_ + 1))) rfl (by rw [kidsP_succ he_ hx30, List.append_assoc, List.cons_append])
  replace M := M.sel (L' := [oP v34 cs35, rowsC 9 N36 0 cs35 (ps ++ (⟨q, n.leaf, n.keys⟩ : TPl) :: kidsP d l n q (i_ + 1)), arenaC 143 145 S ab l, oH dv6 n.kids]) [1, 2, 0, 4] rfl (by decide)
  exact ⟨_, (by omega), i_ + 1, v34, cs35, N36, ⟨(by omega), rfl⟩, ⟨rfl, rfl, rfl, rfl, rfl, rfl, rfl, rfl, rfl⟩, M⟩
 ·
  have h27p := of_decide_eq_false h27
  refine W.exit ?_
  refine thn_exit ?_
  refine thn_exit ?_
  refine inBlk_hit ?_
  refine wR ?_
  refine wS v_ rfl (Step.move rfl) ?_
  refine wS v_ rfl (Step.assign rfl) ?_
  refine WL.nil ?_
  refine W.ret ?_
  refine ⟨.inl rfl, v_, ?_, ?_⟩
  · exact ⟨rfl, (Res.r1 (show RV _ _ _ (.tmp 8) v_ from by exact rfl))⟩
  have e40 : ps ++ placesT d l h q = ps ++ (⟨q, n.leaf, n.keys⟩ : TPl) :: kidsP d l n q i_ := by
   rw [placesT_all hn, show n.kids.length = i_ by omega]
  replace M := M.rechunk 1 (c' := rowsC 9 N_ 0 cs_ (ps ++ placesT d l h q)) rfl (congrArg (fun z => rowsC 9 N_ 0 cs_ z) e40.symm)
  refine ⟨v_, cs_, N_, ?_, M.close [2, 0, 1] rfl (by decide) trivial⟩
  rfl
end Go.Proofs
set_option maxRecDepth 100000
namespace Go.Proofs
open Go Tp
theorem Try.ag74 : Aggr Try.prog 74 3 := ⟨fun _ => by kernel_rfl, fun _ => by kernel_rfl⟩
theorem Try.en65 : Enters Try.prog 65 := fun _ _ => by kernel_rfl
theorem Try.en67 : Enters Try.prog 67 := fun _ _ => by kernel_rfl
theorem Try.en99 : Enters Try.prog 99 := fun _ _ => by kernel_rfl
theorem tr_Places {G X : Nat → Prop} {w : World} (tb ab : Nat) (rt : Handle) (fu : Bool) (ln : Int) (l : List RPlace) (S : Nat → Prop)  (hA : SmallA l) (d : Nat) (hPk : fu = true → plOk d l rt) (hd : d ≤ 900000) (hb : (plcL fu d l rt).length ≤ 1000000) (M : Mem G X w [arenaC 143 145 S ab l] [bF tb #[(vP ab), (vI rt.at_), (vI rt.turn), (vB fu), (vI ln)] 94] w) : Rets Try.prog 32 #[(vP tb)] w fun r w' => ∃ (v' : Value) (cs' : List PlC) (N' : Nat → Prop), r = v' ∧ Mem G X w [arenaC 143 145 S ab l, oP v' cs', rowsC 9 N' 0 cs' (plcL fu d l rt)] [] w' := by
 refine Rets.enter 18 _ Try.func32 rfl Try.ntmps32 Try.results32 (by simp) ?_
 refine wR ?_
 refine wS vZ rfl (Step.assign rfl) ?_
 refine WL.nil ?_
 refine W.seq' ?_
 refine wR ?_
 refine wS (vP tb) rfl (Step.move rfl) ?_
 refine wS (vB false) rfl sP ?_
 refine wS (vB false) rfl (Step.move rfl) ?_
 refine wS (vP tb) rfl (Step.move rfl) ?_
 refine wS (vP tb) rfl sP ?_
 refine wS (Value.pointer (some ⟨tb, 3, none⟩)) rfl sP ?_
 refine wS (vB fu) rfl (Step.load1 Try.sc4 rfl ((cell_blk (M.rep 0 rfl) 3).trans rfl)) ?_
 refine wS (vB !fu) rfl sP ?_
 refine wS (vB !fu) rfl (Step.pick (t := false) rfl rfl) ?_
 refine WL.nil ?_
 refine W.cond (t := !fu) rfl (fun h1 => ?_) (fun h1 => ?_)
 ·
  refine wR ?_
  refine wS vZ rfl (Step.assign rfl) ?_
  refine WL.nil ?_
  refine W.ret ?_
  refine ⟨.inl rfl, vZ, ?_, ?_⟩
  · exact ⟨rfl, (Res.r1 (show RV _ _ _ (.tmp 2) vZ from by exact rfl))⟩
  replace M := M.ownNil 74 3
  replace M := M.rowsNil 9
  have e2 : plcL fu d l rt = ([] : List TPl) := by
   simp [plcL, (by simpa using h1)]
  replace M := M.rechunk 0 (c' := rowsC 9 (fun _ => False) 0 ([] : List PlC) (plcL fu d l rt)) rfl (congrArg (fun z => rowsC 9 (fun _ => False) 0 ([] : List PlC) z) e2.symm)
  refine ⟨vZ, ([] : List PlC), (fun _ => False), ?_, M.close [2, 1, 0] rfl (by decide) trivial⟩
  rfl
 ·
  refine W.skip ?_
  refine wR ?_
  refine wS (vP tb) rfl (Step.move rfl) ?_
  refine wS (vP tb) rfl (Step.move rfl) ?_
  refine wS (vP tb) rfl sP ?_
  refine wS (Value.pointer (some ⟨tb, 1, none⟩)) rfl sP ?_
  refine wS (Value.agg #[(vI rt.at_), (vI rt.turn)]) rfl (Step.loadN Try.ag92 rfl (M.rep 0 rfl) (Nat.le_of_ble_eq_true rfl) rfl) ?_
  replace M := M.ownNil 74 3
  replace M := M.rowsNil 9
  have fq := M.frm [arenaC 143 145 S ab l, oP vZ ([] : List PlC), rowsC 9 (fun _ => False) 0 ([] : List PlC) ([] : List TPl)] [] [2, 1, 0] rfl
  refine WL.callX rfl (tr_places d tb ab rt fu ln l S vZ ([] : List PlC) (fun _ => False) ([] : List TPl) rt 1 (by assumption) (hPk (by simpa using h1)) (by omega) (by simp only [List.length_nil]; rw [plcL, if_pos (by simpa using h1)] at hb; omega) (M.eF fq ⟨(M.rF fq 0 rfl), trivial⟩)) (CallsF.func Try.en62 rfl) ?_
  rintro v3 w6 ⟨_, cs4, N5, rfl, m⟩
  replace M := M.lF fq m
  clear m
  have sl7 : IsSl v3 := SlAt.isSl (own_slAt (Mem.chunk M 1 rfl).inv)
  have hle8 := SlAt.le' (own_slAt (Mem.chunk M 1 rfl).inv)
  refine wS v3 rfl (Step.assign rfl) ?_
  refine WL.nil ?_
  refine W.ret ?_
  refine ⟨.inl rfl, v3, ?_, ?_⟩
  · exact ⟨rfl, (Res.r1 (show RV _ _ _ (.tmp 2) v3 from by exact rfl))⟩
  have e9 : plcL fu d l rt = ([] : List TPl) ++ placesT d l rt 1 := by
   simp [plcL, (by simpa using h1)]
  replace M := M.rechunk 2 (c' := rowsC 9 N5 0 cs4 (plcL fu d l rt)) rfl (congrArg (fun z => rowsC 9 N5 0 cs4 z) e9.symm)
  refine ⟨v3, cs4, N5, ?_, M.close [0, 1, 2] rfl (by decide) trivial⟩
  rfl
theorem chk_leaf {G : Nat → Prop} {w : World} (p : PlC) (db : Nat) (deep : Int)  (hh : p.leaf = true → p.depth = deep) (M : Mem G (fun _ => False) w [] [bF db #[(vI deep)] 3] w) : Rets Try.prog 65 #[(Value.agg #[(vI p.depth), (vB p.leaf), p.kv.1]), (vP db)] w fun r w' => r = (vB false) ∧ Mem G (fun _ => False) w [] [] w' := by
 refine Rets.enter 12 _ Try.func65 rfl Try.ntmps65 Try.results65 (by simp) ?_
 refine wR ?_
 refine WL.box (v := (Value.agg #[(vI p.depth), (vB p.leaf), p.kv.1])) (c := #[(vI p.depth), (vB p.leaf), p.kv.1]) M rfl rfl rfl (fun b1 w2 hb1 M => ?_)
 refine wS (vB false) rfl (Step.assign rfl) ?_
 refine WL.nil ?_
 refine wR ?_
 refine wS (Value.pointer (some ⟨b1, 1, none⟩)) rfl sP ?_
 refine wS (vB p.leaf) rfl (Step.load1 Try.sc4 rfl ((M.cell 0 rfl 1).trans rfl)) ?_
 refine wS (vB p.leaf) rfl (Step.move rfl) ?_
 rcases Bool.eq_false_or_eq_true (p.leaf) with h3 | h3
 ·
  rw [h3]
  refine wS (vP b1) rfl sP ?_
  refine wS (vI p.depth) rfl (Step.load1 Try.sc3 rfl ((M.cell 0 rfl 0).trans rfl)) ?_
  refine wS (vI deep) rfl (Step.load1 Try.sc3 rfl ((cell_blk (M.rep 0 rfl) 0).trans rfl)) ?_
  refine wS (vB ((p.depth : Int) != (deep : Int))) rfl sP ?_
  refine wS (vB ((p.depth : Int) != (deep : Int))) rfl (Step.pick (t := true) rfl rfl) ?_
  refine wS (vB ((p.depth : Int) != (deep : Int))) rfl (Step.assign rfl) ?_
  refine WL.nil ?_
  refine W.ret ?_
  refine ⟨.inl rfl, (vB ((p.depth : Int) != (deep : Int))), ?_, ?_⟩
  · exact ⟨rfl, (Res.r1 (show RV _ _ _ (.tmp 3) (vB ((p.depth : Int) != (deep : Int))) from by exact rfl))⟩
  refine ⟨?_, M.close [] rfl (by decide) trivial⟩
  refine congrArg Value.bool ?_
  first | rfl | (simp_all; done)
 ·
  rw [h3]
  refine WL.pass rfl ?_
  refine WL.pass rfl ?_
  refine WL.pass rfl ?_
  refine WL.pass rfl ?_
  refine wS (vB false) rfl (Step.pick (t := false) rfl rfl) ?_
  refine wS (vB false) rfl (Step.assign rfl) ?_
  refine WL.nil ?_
  refine W.ret ?_
  refine ⟨.inl rfl, (vB false), ?_, ?_⟩
  · exact ⟨rfl, (Res.r1 (show RV _ _ _ (.tmp 3) (vB false) from by exact rfl))⟩
  refine ⟨?_, M.close [] rfl (by decide) trivial⟩
  rfl
theorem chk_rise {G : Nat → Prop} {w : World} (a : THit) (b : THit)  (hh : sLt a.key b.key = false) (M : Mem G (fun _ => False) w [] [] w) : Rets Try.prog 67 #[(Value.agg #[(vS a.key), (vI a.val)]), (Value.agg #[(vS b.key), (vI b.val)])] w fun r w' => r = (vI 1) ∧ Mem G (fun _ => False) w [] [] w' := by
 refine Rets.enter 10 _ Try.func67 rfl Try.ntmps67 Try.results67 (by simp) ?_
 refine wR ?_
 refine WL.box (v := (Value.agg #[(vS a.key), (vI a.val)])) (c := #[(vS a.key), (vI a.val)]) M rfl rfl rfl (fun b1 w2 hb1 M => ?_)
 refine WL.box (v := (Value.agg #[(vS b.key), (vI b.val)])) (c := #[(vS b.key), (vI b.val)]) M rfl rfl rfl (fun b3 w4 hb3 M => ?_)
 refine wS (vI 0) rfl (Step.assign rfl) ?_
 refine WL.nil ?_
 refine W.seq' ?_
 refine wR ?_
 refine wS (vP b1) rfl sP ?_
 refine wS (vS a.key) rfl (Step.load1 Try.sc9 rfl ((M.cell 1 rfl 0).trans rfl)) ?_
 refine wS (vP b3) rfl sP ?_
 refine wS (vS b.key) rfl (Step.load1 Try.sc9 rfl ((M.cell 0 rfl 0).trans rfl)) ?_
 refine wS (vB (sLt a.key b.key)) rfl sP ?_
 refine WL.nil ?_
 refine W.cond (t := sLt a.key b.key) rfl (fun h5 => ?_) (fun h5 => ?_)
 ·
  rw [hh] at h5; cases h5
 ·
  refine W.skip ?_
  refine wR ?_
  refine wS (vI 1) rfl (Step.assign rfl) ?_
  refine WL.nil ?_
  refine W.ret ?_
  refine ⟨.inl rfl, (vI 1), ?_, ?_⟩
  · exact ⟨rfl, (Res.r1 (show RV _ _ _ (.tmp 4) (vI 1) from by exact rfl))⟩
  refine ⟨?_, M.close [] rfl (by decide) trivial⟩
  rfl
theorem is_sorted {G : Nat → Prop} {w : World} (v : Value) (xs : List THit)  (hu : upT xs) (M : Mem G (fun _ => False) w [] [fR v xs] w) : Rets Try.prog 66 #[v, (Value.func (.func 67) #[] #[])] w fun r w' => r = (vB true) ∧ Mem G (fun _ => False) w [] [] w' := by
 refine Rets.enter 25 _ Try.func66 rfl Try.ntmps66 Try.results66 (by simp) ?_
 have hle1 := SlAt.le' (M.rep 0 rfl)
 have sl2 : IsSl v := SlAt.isSl (Mem.rep M 0 rfl)
 refine wR ?_
 refine wS (vB false) rfl (Step.assign rfl) ?_
 refine WL.nil ?_
 refine W.seq' ?_
 refine wR ?_
 refine wS v rfl (Step.move rfl) ?_
 refine wS (vI ↑xs.length) rfl (Step.lenSl Try.un34 rfl (M.rep 0 rfl)) ?_
 refine wS (vI ((↑xs.length : Int) - 1)) rfl (Step.sub rfl rfl (wrap_i64 (by omega))) ?_
 refine wS (vI ((↑xs.length : Int) - 1)) rfl (Step.assign rfl) ?_
 refine WL.nil ?_
 refine W.block ?_
 refine W.loop (fun kk ρ w' => ∃ (m_ : Nat), ((m_ ≤ xs.length) ∧ kk = m_ + 1) ∧ ρ.has [(0, v), (1, (Value.func (.func 67) #[] #[])), (5, (vI ((↑m_ : Int) - 1)))] ∧ Mem G (fun _ => False) w [] [fR v xs]  w') _ ⟨xs.length, ⟨(Nat.le_refl _), rfl⟩, ⟨rfl, rfl, rfl, rfl, rfl⟩, M⟩ ?_
 rintro _ ρ4 w3 ⟨m_, ⟨hi5, rfl⟩, hρ, M⟩
 obtain ⟨ρ4, rfl⟩ := hρ.know
 clear hρ
 refine W.seq' ?_
 refine wR ?_
 refine wS (vI ((↑m_ : Int) - 1)) rfl (Step.move rfl) ?_
 refine wS (vB (decide (((↑m_ : Int) - 1 : Int) > (0 : Int)))) rfl sP ?_
 refine WL.nil ?_
 refine W.cond (t := decide (((↑m_ : Int) - 1 : Int) > (0 : Int))) rfl (fun h6 => ?_) (fun h6 => ?_)
 ·
  have h6p := of_decide_eq_true h6
  refine W.skip ?_
  refine W.seq' ?_
  refine W.block ?_
  refine W.seq' ?_
  obtain ⟨cap8, hb7⟩ := SlAt.base (M.rep 0 rfl) (by omega)
  obtain ⟨x9, hx9⟩ := elem_of_lt (xs := xs) (i := m_ - 1) (by omega)
  obtain ⟨x10, hx10⟩ := elem_of_lt (xs := xs) (i := m_ - 1 - 1) (by omega)
  refine W.drawn M [0, 1, 2, 3, 4, 5, 6, 7, 8, 9, 10, 11] [10] [] _ _ sE (fun _ h => h) Try.mixed (by kernel_rfl) ?_
  refine tP (Value.func (.func 67) #[] #[]) rfl (fun w => (Step.move rfl)) ?_
  refine tP v rfl (fun w => (Step.move rfl)) ?_
  refine tP (vI ((↑m_ : Int) - 1)) rfl (fun w => (Step.move rfl)) ?_
  refine tP (vQ v (m_ - 1) 2) rfl (fun w => (sX (m_ - 1) Try.un34 Try.el41 rfl rfl hb7)) ?_
  refine tR (Value.agg #[(vS x9.key), (vI x9.val)]) rfl (fun A w M => (Step.loadEN (k := 0) (cs' := [(vS x9.key), (vI x9.val)]) Try.ag41 (flat_ec (M.rep 0 rfl) hx9 hitE_len) (by decide) rfl rfl rfl)) ?_
  refine tP v rfl (fun w => (Step.move rfl)) ?_
  refine tP (vI ((↑m_ : Int) - 1)) rfl (fun w => (Step.move rfl)) ?_
  refine tP (vI ((↑(m_ - 1) : Int) - 1)) rfl (fun w => (Step.cast (congrArg (Value.int .i64) (by omega)) (Step.sub rfl rfl (wrap_i64 (by omega))))) ?_
  refine tP (vQ v (m_ - 1 - 1) 2) rfl (fun w => (sX (m_ - 1 - 1) Try.un34 Try.el41 rfl rfl hb7)) ?_
  refine tR (Value.agg #[(vS x10.key), (vI x10.val)]) rfl (fun A w M => (Step.loadEN (k := 0) (cs' := [(vS x10.key), (vI x10.val)]) Try.ag41 (flat_ec (M.rep 0 rfl) hx10 hitE_len) (by decide) rfl rfl rfl)) ?_
  refine TW.callX (ι := Unit) (fun jx v_ => v_ = (vI 1)) (fun jx => []) (fun jx => [fR v xs]) rfl (by decide) rfl (fun jx => sE) (fun jx r h => h) (fun A w M => Rets.mono (chk_rise x9 x10 (up_not hu hx10 hx9 (by omega)) (M.enterW0 trivial)) (fun v_ w_ ⟨e_, m⟩ => ⟨(), e_, (M.leaveW0 m).sel [0] rfl (by decide), fun b hb => M.k0F m b hb⟩)) (fun w => CallsF.value Try.en67 rfl rfl rfl) (fun jx v hp hin => ?_)
  replace hp := hp.symm; subst hp
  clear hin
  refine tP (vB false) rfl (fun w => sP) ?_
  refine TW.done (fun w11 M => ?_)
  refine W.cond (t := false) rfl (fun h => by cases h) (fun _ => ?_)
  refine W.skip ?_
  refine W.region rfl ?_
  refine wS (vI ((↑m_ : Int) - 1)) rfl (Step.move rfl) ?_
  refine wS (vI ((↑(m_ - 1) : Int) - 1)) rfl (Step.cast (congrArg (Value.int .i64) (by omega)) (Step.sub rfl rfl (wrap_i64 (by omega)))) ?_
  refine wS (vI ((↑(m_ - 1) : Int) - 1)) rfl (Step.cast (congrArg (Value.int .i64) (by omega)) (Step.assign rfl)) ?_
  refine WL.nil ?_
  exact ⟨_, (by omega), m_ - 1, ⟨(by omega), rfl⟩, ⟨rfl, rfl, rfl, rfl, rfl⟩, M⟩
 ·
  have h6p := of_decide_eq_false h6
  refine W.exit ?_
  refine thn_exit ?_
  refine thn_exit ?_
  refine inBlk_hit ?_
  refine wR ?_
  refine wS (vB true) rfl (Step.assign rfl) ?_
  refine WL.nil ?_
  refine W.ret ?_
  refine ⟨.inl rfl, (vB true), ?_, ?_⟩
  · exact ⟨rfl, (Res.r1 (show RV _ _ _ (.tmp 4) (vB true) from by exact rfl))⟩
  refine ⟨?_, M.close [] rfl (by decide) trivial⟩
  rfl
theorem index_pl {G : Nat → Prop} {w : World} (v : Value) (xs : List PlC) (db : Nat) (deep : Int)  (hnl : ∀ x : PlC, x ∈ xs → x.leaf = true → x.depth = deep) (M : Mem G (fun _ => False) w [] [fP v xs, bF db #[(vI deep)] 3] w) : Rets Try.prog 99 #[v, (Value.func (.func 65) #[] #[(vP db)])] w fun r w' => r = (vI (-1)) ∧ Mem G (fun _ => False) w [] [] w' := by
 refine Rets.enter 19 _ Try.func99 rfl Try.ntmps99 Try.results99 (by simp) ?_
 have hle1 := SlAt.le' (M.rep 0 rfl)
 have sl2 : IsSl v := SlAt.isSl (Mem.rep M 0 rfl)
 refine wR ?_
 refine wS (vI 0) rfl (Step.assign rfl) ?_
 refine WL.nil ?_
 refine W.seq' ?_
 refine wR ?_
 refine wS v rfl (Step.move rfl) ?_
 refine wS (vI ↑xs.length) rfl (Step.lenSl Try.un65 rfl (M.rep 0 rfl)) ?_
 refine wS (vI 0) rfl (Step.move rfl) ?_
 refine WL.nil ?_
 refine W.block ?_
 refine W.loop (fun kk ρ w' => ∃ (i_ : Nat), ((i_ ≤ xs.length) ∧ kk = xs.length - i_) ∧ ρ.has [(0, v), (1, (Value.func (.func 65) #[] #[(vP db)])), (7, (vI ↑xs.length)), (8, (vI ↑i_))] ∧ Mem G (fun _ => False) w [] [fP v xs, bF db #[(vI deep)] 3]  w') _ ⟨0, ⟨(Nat.zero_le _), rfl⟩, ⟨rfl, rfl, rfl, rfl, rfl, rfl⟩, M⟩ ?_
 rintro _ ρ4 w3 ⟨i_, ⟨hi5, rfl⟩, hρ, M⟩
 obtain ⟨ρ4, rfl⟩ := hρ.know
 clear hρ
 refine wR ?_
 refine wS (vB (decide ((↑i_ : Int) < (↑xs.length : Int)))) rfl sP ?_
 refine WL.nil ?_
 refine W.seq' ?_
 refine W.cond (t := decide ((↑i_ : Int) < (↑xs.length : Int))) rfl (fun h6 => ?_) (fun h6 => ?_)
 ·
  have h6p := of_decide_eq_true h6
  refine W.skip ?_
  refine W.seq' ?_
  refine W.block ?_
  refine wR ?_
  refine wS (vI ↑i_) rfl (Step.move rfl) ?_
  refine wS (vI ↑i_) rfl (Step.assign rfl) ?_
  refine WL.nil ?_
  refine wR ?_
  refine wS (Value.func (.func 65) #[] #[(vP db)]) rfl (Step.move rfl) ?_
  refine wS v rfl (Step.move rfl) ?_
  refine wS (vI ↑i_) rfl (Step.move rfl) ?_
  obtain ⟨cap8, hb7⟩ := SlAt.base (M.rep 0 rfl) (by omega)
  obtain ⟨x9, hx9⟩ := elem_of_lt (xs := xs) (i := i_) (by omega)
  refine wS (vQ v i_ 3) rfl (sX i_ Try.un65 Try.el74 rfl rfl hb7) ?_
  refine wS (Value.agg #[(vI x9.depth), (vB x9.leaf), x9.kv.1]) rfl (Step.loadEN (k := 0) (cs' := [(vI x9.depth), (vB x9.leaf), x9.kv.1]) Try.ag74 (flat_ec (M.rep 0 rfl) hx9 plcE_len) (by decide) rfl rfl rfl) ?_
  refine WL.callX rfl (chk_leaf x9 db deep (hnl _ (List.mem_of_getElem? hx9)) (M.enterW0 ⟨(M.wideR0 1 rfl), trivial⟩)) (CallsF.value Try.en65 rfl rfl rfl) ?_
  rintro _ w10 ⟨rfl, m⟩
  replace M := M.leaveW0 m
  clear m
  refine WL.nil ?_
  refine W.cond (t := false) rfl (fun h => by cases h) (fun _ => ?_)
  refine W.skip ?_
  refine W.region rfl ?_
  refine wS (vI (↑i_ + 1)) rfl (Step.add rfl rfl (wrap_i64 (by omega))) ?_
  refine wS (vI (↑i_ + 1)) rfl (Step.move rfl) ?_
  refine WL.nil ?_
  exact ⟨_, (by omega), i_ + 1, ⟨(by omega), rfl⟩, ⟨rfl, rfl, rfl, rfl, rfl, rfl⟩, M⟩
 ·
  have h6p := of_decide_eq_false h6
  refine W.exit ?_
  refine thn_exit ?_
  refine thn_exit ?_
  refine inBlk_hit ?_
  refine wR ?_
  refine wS (vI (-1)) rfl (Step.assign rfl) ?_
  refine WL.nil ?_
  refine W.ret ?_
  refine ⟨.inl rfl, (vI (-1)), ?_, ?_⟩
  · exact ⟨rfl, (Res.r1 (show RV _ _ _ (.tmp 4) (vI (-1)) from by exact rfl))⟩
  refine ⟨?_, M.close [] rfl (by decide) trivial⟩
  rfl
theorem contains_pl {G : Nat → Prop} {w : World} (v : Value) (xs : List PlC) (db : Nat) (deep : Int)  (hnl : ∀ x : PlC, x ∈ xs → x.leaf = true → x.depth = deep) (M : Mem G (fun _ => False) w [] [fP v xs, bF db #[(vI deep)] 3] w) : Rets Try.prog 64 #[v, (Value.func (.func 65) #[] #[(vP db)])] w fun r w' => r = (vB false) ∧ Mem G (fun _ => False) w [] [] w' := by
 refine Rets.enter 9 _ Try.func64 rfl Try.ntmps64 Try.results64 (by simp) ?_
 have hle1 := SlAt.le' (M.rep 0 rfl)
 have sl2 : IsSl v := SlAt.isSl (Mem.rep M 0 rfl)
 refine wR ?_
 refine wS (vB false) rfl (Step.assign rfl) ?_
 refine WL.nil ?_
 refine wR ?_
 refine wS v rfl (Step.move rfl) ?_
 refine wS (Value.func (.func 65) #[] #[(vP db)]) rfl (Step.move rfl) ?_
 refine WL.callX rfl (index_pl v xs db deep (by assumption) (M.enterW0 ⟨(M.wideR0 0 rfl), (M.wideR0 1 rfl), trivial⟩)) (CallsF.func Try.en99 rfl) ?_
 rintro _ w3 ⟨rfl, m⟩
 replace M := M.leaveW0 m
 clear m
 refine wS (vB false) rfl sP ?_
 refine wS (vB false) rfl (Step.assign rfl) ?_
 refine WL.nil ?_
 refine W.ret ?_
 refine ⟨.inl rfl, (vB false), ?_, ?_⟩
 · exact ⟨rfl, (Res.r1 (show RV _ _ _ (.tmp 4) (vB false) from by exact rfl))⟩
 refine ⟨?_, M.close [] rfl (by decide) trivial⟩
 rfl
end Go.Proofs
set_option maxRecDepth 100000
namespace Go.Proofs
open Go Tp
theorem Try.en32 : Enters Try.prog 32 := fun _ _ => by kernel_rfl
theorem Try.en38 : Enters Try.prog 38 := fun _ _ => by kernel_rfl
theorem Try.en63 : Enters Try.prog 63 := fun _ _ => by kernel_rfl
theorem Try.en64 : Enters Try.prog 64 := fun _ _ => by kernel_rfl
theorem Try.en66 : Enters Try.prog 66 := fun _ _ => by kernel_rfl
theorem tr_check {G X : Nat → Prop} {w : World} (tb ab : Nat) (rt : Handle) (fu : Bool) (ln : Int) (l : List RPlace) (S : Nat → Prop)  (hA : SmallA l) (d : Nat) (hLk : fu = true → lookOk d l rt) (hPk : fu = true → plOk d l rt) (hd : d ≤ 900000) (hb : (plcL fu d l rt).length ≤ 1000000) (row : List THit) (D : Nat) (hP : PlcOk row (plcL fu d l rt) D) (hD : D ≤ 900000) (hup : upT (allL fu d l rt)) (hln : ((allL fu d l rt).length : Int) = ln) (hlb : ln ≤ 1000000) (hus : usedN l = (plcL fu d l rt).length) (M : Mem G X w [arenaC 143 145 S ab l] [bF tb #[(vP ab), (vI rt.at_), (vI rt.turn), (vB fu), (vI ln)] 94] w) : Rets Try.prog 33 #[(vP tb)] w fun r w' => r = (vI 0) ∧ Mem G X w [arenaC 143 145 S ab l] [] w' := by
 refine Rets.enter 87 _ Try.func33 rfl Try.ntmps33 Try.results33 (by simp) ?_
 refine wR ?_
 refine wS (vI 0) rfl (Step.assign rfl) ?_
 refine WL.nil ?_
 refine W.seq' ?_
 refine wR ?_
 refine wS (vP tb) rfl (Step.move rfl) ?_
 refine wS (vB false) rfl sP ?_
 refine WL.nil ?_
 refine W.cond (t := false) rfl (fun h => by cases h) (fun _ => ?_)
 refine W.skip ?_
 refine wR ?_
 refine wS (vP tb) rfl (Step.move rfl) ?_
 refine wS (vP tb) rfl sP ?_
 refine wS (vP tb) rfl sP ?_
 refine wS (vP ab) rfl (Step.load1 Try.sc90 rfl ((cell_blk (M.rep 0 rfl) 0).trans rfl)) ?_
 have fq := M.frm [arenaC 143 145 S ab l] [] [0] rfl
 refine WL.callX rfl (ar_len ab l S (M.eF fq trivial)) (CallsF.func Try.en63 rfl) ?_
 rintro _ w1 ⟨rfl, m⟩
 replace M := M.lF fq m
 clear m
 refine wS (Value.tuple #[(vI (↑(usedN l))), (vI ↑l.length)]) rfl (Step.move rfl) ?_
 refine wS (vI (↑(usedN l))) rfl sP ?_
 refine wS (vI ↑l.length) rfl sP ?_
 refine wS (vI (↑(usedN l))) rfl (Step.assign rfl) ?_
 refine wS (vI ↑l.length) rfl (Step.assign rfl) ?_
 refine WL.nil ?_
 refine wR ?_
 refine wS (vP tb) rfl (Step.move rfl) ?_
 have fq := M.frm [arenaC 143 145 S ab l] [] [0] rfl
 refine WL.callX rfl (tr_Places tb ab rt fu ln l S (by assumption) d (by assumption) (by assumption) (by assumption) (M.eF fq ⟨(M.rF fq 0 rfl), trivial⟩)) (CallsF.func Try.en32 rfl) ?_
 rintro v2 w5 ⟨_, cs3, N4, rfl, m⟩
 replace M := M.lF fq m
 clear m
 have sl6 : IsSl v2 := SlAt.isSl (own_slAt (Mem.chunk M 1 rfl).inv)
 have hle7 := SlAt.le' (own_slAt (Mem.chunk M 1 rfl).inv)
 refine wS v2 rfl (Step.assign rfl) ?_
 refine WL.nil ?_
 refine wR ?_
 refine WL.alloc (c := #[(vI 0)]) M rfl Try.el3.zero rfl (fun b8 w9 hb8 M => ?_)
 refine WL.store (v := (vI 0)) (cs := [(vI 0)]) (c' := #[(vI 0)]) M 0 rfl rfl Try.el3.sized rfl rfl rfl rfl (Nat.le_of_ble_eq_true rfl) (cel_cons rfl cel_nil) rfl rfl (fun w10 M => ?_)
 refine WL.nil ?_
 refine W.seq' ?_
 refine wR ?_
 refine wS v2 rfl (Step.move rfl) ?_
 refine wS (vI ↑cs3.length) rfl (Step.lenSl Try.un65 rfl (own_slAt (M.chunk 2 rfl).inv)) ?_
 refine wS (vI 0) rfl (Step.move rfl) ?_
 refine WL.nil ?_
 refine W.block ?_
 replace M := M.sel (L' := [bk b8 #[(vI 0)] 3, arenaC 143 145 S ab l, oP v2 cs3, rowsC 9 N4 0 cs3 (plcL fu d l rt)]) [0, 1, 2, 3] rfl (by decide)
 refine W.loop (fun kk ρ w' => ∃ (i_ : Nat) (D_ : Int), ((i_ ≤ cs3.length) ∧ (D_ = 0 ∨ D_ = (D : Int)) ∧ (∀ (j : Nat) (p : TPl), j < i_ → (plcL fu d l rt)[j]? = some p → p.leaf = true → D_ = (D : Int)) ∧ kk = cs3.length - i_) ∧ ρ.has [(0, (vP tb)), (3, (vI (↑(usedN l)))), (5, v2), (6, (vP b8)), (24, v2), (25, (vI ↑cs3.length)), (26, (vI ↑i_))] ∧ Mem G X w [bk b8 #[(vI D_)] 3, arenaC 143 145 S ab l, oP v2 cs3, rowsC 9 N4 0 cs3 (plcL fu d l rt)] [bF tb #[(vP ab), (vI rt.at_), (vI rt.turn), (vB fu), (vI ln)] 94]  w') _ ⟨0, 0, ⟨(Nat.zero_le _), (.inl rfl), (fun _ _ h => absurd h (Nat.not_lt_zero _)), rfl⟩, ⟨rfl, rfl, rfl, rfl, rfl, rfl, rfl, rfl, rfl⟩, M⟩ ?_
 rintro _ ρ12 w11 ⟨i_, D_, ⟨hi13, hi14, hi15, rfl⟩, hρ, M⟩
 obtain ⟨ρ12, rfl⟩ := hρ.know
 clear hρ
 obtain ⟨hc1_, hc2_, hc3_⟩ := (⟨hi13, hi14, hi15⟩ : i_ ≤ cs3.length ∧ (D_ = 0 ∨ D_ = (D : Int)) ∧ ∀ (j : Nat) (p : TPl), j < i_ → (plcL fu d l rt)[j]? = some p → p.leaf = true → D_ = (D : Int))
 refine wR ?_
 refine wS (vB (decide ((↑i_ : Int) < (↑cs3.length : Int)))) rfl sP ?_
 refine WL.nil ?_
 refine W.seq' ?_
 refine W.cond (t := decide ((↑i_ : Int) < (↑cs3.length : Int))) rfl (fun h16 => ?_) (fun h16 => ?_)
 ·
  have h16p := of_decide_eq_true h16
  refine W.skip ?_
  refine W.seq' ?_
  refine W.block ?_
  refine wR ?_
  refine wS (vI ↑i_) rfl (Step.move rfl) ?_
  obtain ⟨cap18, hb17⟩ := SlAt.base (own_slAt (M.chunk 2 rfl).inv) (by omega)
  obtain ⟨x19, hx19⟩ := elem_of_lt (xs := cs3) (i := i_) (by omega)
  obtain ⟨p_, hp_, hdp_, hlp_, hsp_⟩ := rows_at (M.chunk 3 rfl).inv hx19
  have hsh_ := SlAt.shp (hsp_ (Nat.zero_le _))
  obtain ⟨hk1_, hk4_, hk2_⟩ := hP.keys _ _ hp_
  refine wS (vQ v2 i_ 3) rfl (sX i_ Try.un65 Try.el74 rfl rfl hb17) ?_
  refine wS (Value.agg #[(vI x19.depth), (vB x19.leaf), x19.kv.1]) rfl (Step.loadEN (k := 0) (cs' := [(vI x19.depth), (vB x19.leaf), x19.kv.1]) Try.ag74 (flat_ec (own_slAt (M.chunk 2 rfl).inv) hx19 plcE_len) (by decide) rfl rfl rfl) ?_
  refine WL.alloc (c := #[(vI 0), (vB false), vZ]) M rfl Try.el74.zero rfl (fun b20 w21 hb20 M => ?_)
  refine wS (vI ↑i_) rfl (Step.assign rfl) ?_
  refine WL.store (v := (Value.agg #[(vI x19.depth), (vB x19.leaf), x19.kv.1])) (cs := [(vI x19.depth), (vB x19.leaf), x19.kv.1]) (c' := #[(vI x19.depth), (vB x19.leaf), x19.kv.1]) M 0 rfl rfl Try.el74.sized rfl rfl rfl rfl (Nat.le_of_ble_eq_true rfl) (cel_cons rfl (cel_cons rfl (cel_cons (IsSl.cel x19.kv.2) cel_nil))) rfl rfl (fun w22 M => ?_)
  refine WL.nil ?_
  refine W.seq' ?_
  refine wR ?_
  refine wS (Value.pointer (some ⟨b20, 1, none⟩)) rfl sP ?_
  refine wS (vB x19.leaf) rfl (Step.load1 Try.sc4 rfl ((M.cell 0 rfl 1).trans rfl)) ?_
  refine WL.nil ?_
  refine W.cond (t := x19.leaf) rfl (fun h23 => ?_) (fun h23 => ?_)
  ·
   refine W.region rfl ?_
   refine wS (vI D_) rfl (Step.load1 Try.sc3 rfl ((M.cell 1 rfl 0).trans rfl)) ?_
   refine wS (vP b20) rfl sP ?_
   refine wS (vI x19.depth) rfl (Step.load1 Try.sc3 rfl ((M.cell 0 rfl 0).trans rfl)) ?_
   refine wS (vI (max (D_ : Int) (x19.depth : Int))) rfl (Step.maxI rfl rfl) ?_
   refine WL.store (v := (vI (max (D_ : Int) (x19.depth : Int)))) (cs := [(vI (max (D_ : Int) (x19.depth : Int)))]) (c' := #[(vI (max (D_ : Int) (x19.depth : Int)))]) M 1 rfl rfl Try.el3.sized rfl rfl rfl rfl (Nat.le_of_ble_eq_true rfl) (cel_cons rfl cel_nil) rfl rfl (fun w24 M => ?_)
   refine WL.nil ?_
   refine wR ?_
   refine wS (Value.pointer (some ⟨b20, 2, none⟩)) rfl sP ?_
   refine wS x19.kv.1 rfl (Step.load1 Try.sc22 rfl ((M.cell 0 rfl 2).trans rfl)) ?_
   refine wS (vI ↑p_.keys.length) rfl (Step.lenP Try.un22 rfl hsh_) ?_
   refine wS (vB (decide ((↑p_.keys.length : Int) > (4 : Int)))) rfl sP ?_
   refine wS (vB (decide ((↑p_.keys.length : Int) > (4 : Int)))) rfl (Step.move rfl) ?_
   rcases Bool.eq_false_or_eq_true (decide ((↑p_.keys.length : Int) > (4 : Int))) with h25 | h25
   ·
    have h25p := of_decide_eq_true h25
    omega
   ·
    have h25p := of_decide_eq_false h25
    rw [h25]
    refine wS (Value.pointer (some ⟨b20, 2, none⟩)) rfl sP ?_
    refine wS x19.kv.1 rfl (Step.load1 Try.sc22 rfl ((M.cell 0 rfl 2).trans rfl)) ?_
    refine wS (vI ↑p_.keys.length) rfl (Step.lenP Try.un22 rfl hsh_) ?_
    refine wS (vB (decide ((↑p_.keys.length : Int) < (2 : Int)))) rfl sP ?_
    refine wS (vB (decide ((↑p_.keys.length : Int) < (2 : Int)))) rfl (Step.move rfl) ?_
    rcases Bool.eq_false_or_eq_true (decide ((↑p_.keys.length : Int) < (2 : Int))) with h26 | h26
    ·
     have h26p := of_decide_eq_true h26
     rw [h26]
     refine wS (vI ↑i_) rfl (Step.move rfl) ?_
     refine wS (vB (decide ((↑i_ : Int) > (0 : Int)))) rfl sP ?_
     refine wS (vB (decide ((↑i_ : Int) > (0 : Int)))) rfl (Step.pick (t := true) rfl rfl) ?_
     refine wS (vB (decide ((↑i_ : Int) > (0 : Int)))) rfl (Step.pick (t := false) rfl rfl) ?_
     refine wS (vB (decide ((↑i_ : Int) > (0 : Int)))) rfl (Step.move rfl) ?_
     rcases Bool.eq_false_or_eq_true (decide ((↑i_ : Int) > (0 : Int))) with h27 | h27
     ·
      have h27p := of_decide_eq_true h27
      omega
     ·
      have h27p := of_decide_eq_false h27
      rw [h27]
      refine wS (Value.pointer (some ⟨b20, 2, none⟩)) rfl sP ?_
      refine wS x19.kv.1 rfl (Step.load1 Try.sc22 rfl ((M.cell 0 rfl 2).trans rfl)) ?_
      refine wS (vI ↑p_.keys.length) rfl (Step.lenP Try.un22 rfl hsh_) ?_
      refine wS (vB ((↑p_.keys.length : Int) == (0 : Int))) rfl sP ?_
      refine wS (vB ((↑p_.keys.length : Int) == (0 : Int))) rfl (Step.pick (t := false) rfl rfl) ?_
      refine WL.nil ?_
      refine W.cond (t := (↑p_.keys.length : Int) == (0 : Int)) rfl (fun h28 => ?_) (fun h28 => ?_)
      ·
       have h28p : (↑p_.keys.length : Int) = (0 : Int) := by simpa using h28
       omega
      ·
       have h28p : ¬ (↑p_.keys.length : Int) = (0 : Int) := by simpa using h28
       refine W.skip ?_
       refine W.region rfl ?_
       refine wS (vI (↑i_ + 1)) rfl (Step.add rfl rfl (wrap_i64 (by omega))) ?_
       refine wS (vI (↑i_ + 1)) rfl (Step.move rfl) ?_
       refine WL.nil ?_
       have hlf_ : p_.leaf = true := by rw [← hlp_]; exact h23
       have hDp_ := hP.leaf p_ (List.mem_of_getElem? hp_) hlf_
       have hmx_ : max (D_ : Int) (x19.depth : Int) = (D : Int) := by rcases hc2_ with h_ | h_ <;> omega
       replace M := M.rechunk 1 (c' := bk b8 #[(vI (D : Int))] 3) rfl (by rw [hmx_])
       replace M := M.sel (L' := [bk b8 #[(vI (D : Int))] 3, arenaC 143 145 S ab l, oP v2 cs3, rowsC 9 N4 0 cs3 (plcL fu d l rt)]) [1, 2, 3, 4] rfl (by decide)
       exact ⟨_, (by omega), i_ + 1, (D : Int), ⟨(by omega), (.inr rfl), (fun _ _ _ _ _ => rfl), rfl⟩, ⟨rfl, rfl, rfl, rfl, rfl, rfl, rfl, rfl, rfl⟩, M⟩
    ·
     have h26p := of_decide_eq_false h26
     rw [h26]
     refine WL.pass rfl ?_
     refine WL.pass rfl ?_
     refine wS (vB false) rfl (Step.pick (t := false) rfl rfl) ?_
     refine wS (vB false) rfl (Step.pick (t := false) rfl rfl) ?_
     refine wS (vB false) rfl (Step.move rfl) ?_
     refine wS (Value.pointer (some ⟨b20, 2, none⟩)) rfl sP ?_
     refine wS x19.kv.1 rfl (Step.load1 Try.sc22 rfl ((M.cell 0 rfl 2).trans rfl)) ?_
     refine wS (vI ↑p_.keys.length) rfl (Step.lenP Try.un22 rfl hsh_) ?_
     refine wS (vB ((↑p_.keys.length : Int) == (0 : Int))) rfl sP ?_
     refine wS (vB ((↑p_.keys.length : Int) == (0 : Int))) rfl (Step.pick (t := false) rfl rfl) ?_
     refine WL.nil ?_
     refine W.cond (t := (↑p_.keys.length : Int) == (0 : Int)) rfl (fun h29 => ?_) (fun h29 => ?_)
     ·
      have h29p : (↑p_.keys.length : Int) = (0 : Int) := by simpa using h29
      omega
     ·
      have h29p : ¬ (↑p_.keys.length : Int) = (0 : Int) := by simpa using h29
      refine W.skip ?_
      refine W.region rfl ?_
      refine wS (vI (↑i_ + 1)) rfl (Step.add rfl rfl (wrap_i64 (by omega))) ?_
      refine wS (vI (↑i_ + 1)) rfl (Step.move rfl) ?_
      refine WL.nil ?_
      have hlf_ : p_.leaf = true := by rw [← hlp_]; exact h23
      have hDp_ := hP.leaf p_ (List.mem_of_getElem? hp_) hlf_
      have hmx_ : max (D_ : Int) (x19.depth : Int) = (D : Int) := by rcases hc2_ with h_ | h_ <;> omega
      replace M := M.rechunk 1 (c' := bk b8 #[(vI (D : Int))] 3) rfl (by rw [hmx_])
      replace M := M.sel (L' := [bk b8 #[(vI (D : Int))] 3, arenaC 143 145 S ab l, oP v2 cs3, rowsC 9 N4 0 cs3 (plcL fu d l rt)]) [1, 2, 3, 4] rfl (by decide)
      exact ⟨_, (by omega), i_ + 1, (D : Int), ⟨(by omega), (.inr rfl), (fun _ _ _ _ _ => rfl), rfl⟩, ⟨rfl, rfl, rfl, rfl, rfl, rfl, rfl, rfl, rfl⟩, M⟩
  ·
   refine W.skip ?_
   refine wR ?_
   refine wS (Value.pointer (some ⟨b20, 2, none⟩)) rfl sP ?_
   refine wS x19.kv.1 rfl (Step.load1 Try.sc22 rfl ((M.cell 0 rfl 2).trans rfl)) ?_
   refine wS (vI ↑p_.keys.length) rfl (Step.lenP Try.un22 rfl hsh_) ?_
   refine wS (vB (decide ((↑p_.keys.length : Int) > (4 : Int)))) rfl sP ?_
   refine wS (vB (decide ((↑p_.keys.length : Int) > (4 : Int)))) rfl (Step.move rfl) ?_
   rcases Bool.eq_false_or_eq_true (decide ((↑p_.keys.length : Int) > (4 : Int))) with h30 | h30
   ·
    have h30p := of_decide_eq_true h30
    omega
   ·
    have h30p := of_decide_eq_false h30
    rw [h30]
    refine wS (Value.pointer (some ⟨b20, 2, none⟩)) rfl sP ?_
    refine wS x19.kv.1 rfl (Step.load1 Try.sc22 rfl ((M.cell 0 rfl 2).trans rfl)) ?_
    refine wS (vI ↑p_.keys.length) rfl (Step.lenP Try.un22 rfl hsh_) ?_
    refine wS (vB (decide ((↑p_.keys.length : Int) < (2 : Int)))) rfl sP ?_
    refine wS (vB (decide ((↑p_.keys.length : Int) < (2 : Int)))) rfl (Step.move rfl) ?_
    rcases Bool.eq_false_or_eq_true (decide ((↑p_.keys.length : Int) < (2 : Int))) with h31 | h31
    ·
     have h31p := of_decide_eq_true h31
     rw [h31]
     refine wS (vI ↑i_) rfl (Step.move rfl) ?_
     refine wS (vB (decide ((↑i_ : Int) > (0 : Int)))) rfl sP ?_
     refine wS (vB (decide ((↑i_ : Int) > (0 : Int)))) rfl (Step.pick (t := true) rfl rfl) ?_
     refine wS (vB (decide ((↑i_ : Int) > (0 : Int)))) rfl (Step.pick (t := false) rfl rfl) ?_
     refine wS (vB (decide ((↑i_ : Int) > (0 : Int)))) rfl (Step.move rfl) ?_
     rcases Bool.eq_false_or_eq_true (decide ((↑i_ : Int) > (0 : Int))) with h32 | h32
     ·
      have h32p := of_decide_eq_true h32
      omega
     ·
      have h32p := of_decide_eq_false h32
      rw [h32]
      refine wS (Value.pointer (some ⟨b20, 2, none⟩)) rfl sP ?_
      refine wS x19.kv.1 rfl (Step.load1 Try.sc22 rfl ((M.cell 0 rfl 2).trans rfl)) ?_
      refine wS (vI ↑p_.keys.length) rfl (Step.lenP Try.un22 rfl hsh_) ?_
      refine wS (vB ((↑p_.keys.length : Int) == (0 : Int))) rfl sP ?_
      refine wS (vB ((↑p_.keys.length : Int) == (0 : Int))) rfl (Step.pick (t := false) rfl rfl) ?_
      refine WL.nil ?_
      refine W.cond (t := (↑p_.keys.length : Int) == (0 : Int)) rfl (fun h33 => ?_) (fun h33 => ?_)
      ·
       have h33p : (↑p_.keys.length : Int) = (0 : Int) := by simpa using h33
       omega
      ·
       have h33p : ¬ (↑p_.keys.length : Int) = (0 : Int) := by simpa using h33
       refine W.skip ?_
       refine W.region rfl ?_
       refine wS (vI (↑i_ + 1)) rfl (Step.add rfl rfl (wrap_i64 (by omega))) ?_
       refine wS (vI (↑i_ + 1)) rfl (Step.move rfl) ?_
       refine WL.nil ?_
       replace M := M.sel (L' := [bk b8 #[(vI D_)] 3, arenaC 143 145 S ab l, oP v2 cs3, rowsC 9 N4 0 cs3 (plcL fu d l rt)]) [1, 2, 3, 4] rfl (by decide)
       exact ⟨_, (by omega), i_ + 1, D_, ⟨(by omega), hc2_, (fun j p hj hp hl => (Nat.lt_succ_iff_lt_or_eq.1 hj).elim (fun h => hc3_ j p h hp hl) fun h => by subst h; rw [hp_] at hp; cases hp; rw [← hlp_, h23] at hl; cases hl), rfl⟩, ⟨rfl, rfl, rfl, rfl, rfl, rfl, rfl, rfl, rfl⟩, M⟩
    ·
     have h31p := of_decide_eq_false h31
     rw [h31]
     refine WL.pass rfl ?_
     refine WL.pass rfl ?_
     refine wS (vB false) rfl (Step.pick (t := false) rfl rfl) ?_
     refine wS (vB false) rfl (Step.pick (t := false) rfl rfl) ?_
     refine wS (vB false) rfl (Step.move rfl) ?_
     refine wS (Value.pointer (some ⟨b20, 2, none⟩)) rfl sP ?_
     refine wS x19.kv.1 rfl (Step.load1 Try.sc22 rfl ((M.cell 0 rfl 2).trans rfl)) ?_
     refine wS (vI ↑p_.keys.length) rfl (Step.lenP Try.un22 rfl hsh_) ?_
     refine wS (vB ((↑p_.keys.length : Int) == (0 : Int))) rfl sP ?_
     refine wS (vB ((↑p_.keys.length : Int) == (0 : Int))) rfl (Step.pick (t := false) rfl rfl) ?_
     refine WL.nil ?_
     refine W.cond (t := (↑p_.keys.length : Int) == (0 : Int)) rfl (fun h34 => ?_) (fun h34 => ?_)
     ·
      have h34p : (↑p_.keys.length : Int) = (0 : Int) := by simpa using h34
      omega
     ·
      have h34p : ¬ (↑p_.keys.length : Int) = (0 : Int) := by simpa using h34
      refine W.skip ?_
      refine W.region rfl ?_
      refine wS (vI (↑i_ + 1)) rfl (Step.add rfl rfl (wrap_i64 (by omega))) ?_
      refine wS (vI (↑i_ + 1)) rfl (Step.move rfl) ?_
      refine WL.nil ?_
      replace M := M.sel (L' := [bk b8 #[(vI D_)] 3, arenaC 143 145 S ab l, oP v2 cs3, rowsC 9 N4 0 cs3 (plcL fu d l rt)]) [1, 2, 3, 4] rfl (by decide)
      exact ⟨_, (by omega), i_ + 1, D_, ⟨(by omega), hc2_, (fun j p hj hp hl => (Nat.lt_succ_iff_lt_or_eq.1 hj).elim (fun h => hc3_ j p h hp hl) fun h => by subst h; rw [hp_] at hp; cases hp; rw [← hlp_, h23] at hl; cases hl), rfl⟩, ⟨rfl, rfl, rfl, rfl, rfl, rfl, rfl, rfl, rfl⟩, M⟩
 ·
  have h16p := of_decide_eq_false h16
  refine W.exit ?_
  refine thn_exit ?_
  refine thn_exit ?_
  refine inBlk_hit ?_
  refine W.seq' ?_
  have hcl_ := rows_len (M.chunk 3 rfl).inv
  have hnl_ : ∀ x : PlC, x ∈ cs3 → x.leaf = true → x.depth = D_ := by
    intro x hx hl
    obtain ⟨j, hj⟩ := List.getElem?_of_mem hx
    have hjl := (List.getElem?_eq_some_iff.1 hj).1
    obtain ⟨p, hp, h1, h2, _⟩ := rows_at (M.chunk 3 rfl).inv hj
    rw [h1, hc3_ j p (by omega) hp (h2 ▸ hl)]
    exact hP.leaf p (List.mem_of_getElem? hp) (h2 ▸ hl)
  refine W.region rfl ?_
  refine wS v2 rfl (Step.move rfl) ?_
  refine wS (Value.func (.func 65) #[] #[(vP b8)]) rfl sP ?_
  refine WL.callX rfl (contains_pl v2 cs3 b8 D_ (by assumption) (M.enterW0 ⟨((M.wideC0 2 rfl).imp fun _ h => own_slAt h), (M.wideC0 0 rfl), trivial⟩)) (CallsF.func Try.en64 rfl) ?_
  rintro _ w35 ⟨rfl, m⟩
  replace M := M.leaveW0 m
  clear m
  refine wS (vB true) rfl sP ?_
  refine wS (vB true) rfl (Step.assign rfl) ?_
  refine WL.nil ?_
  refine wR ?_
  refine wS (vP tb) rfl (Step.move rfl) ?_
  have fq := M.frm [arenaC 143 145 S ab l] [bk b8 #[(vI D_)] 3, oP v2 cs3, rowsC 9 N4 0 cs3 (plcL fu d l rt)] [1, 0, 2, 3] rfl
  refine WL.callX rfl (tr_all tb ab rt fu ln l S (by assumption) d (by assumption) (by omega) (M.eF fq ⟨(M.rF fq 0 rfl), trivial⟩)) (CallsF.func Try.en38 rfl) ?_
  rintro v36 w37 ⟨_, rfl, m⟩
  replace M := M.lF fq m
  clear m
  have sl38 : IsSl v36 := SlAt.isSl (own_slAt (Mem.chunk M 1 rfl).inv)
  have hle39 := SlAt.le' (own_slAt (Mem.chunk M 1 rfl).inv)
  refine wS v36 rfl (Step.assign rfl) ?_
  refine WL.nil ?_
  refine wR ?_
  refine wS v36 rfl (Step.move rfl) ?_
  refine WL.callX rfl (is_sorted v36 (allL fu d l rt) (by assumption) (M.enterW0 ⟨((M.wideC0 1 rfl).imp fun _ h => own_slAt h), trivial⟩)) (CallsF.func Try.en66 rfl) ?_
  rintro _ w40 ⟨rfl, m⟩
  replace M := M.leaveW0 m
  clear m
  refine wS (vB true) rfl (Step.assign rfl) ?_
  refine WL.nil ?_
  refine W.seq' ?_
  refine wR ?_
  refine wS (vB true) rfl (Step.move rfl) ?_
  refine wS (vB false) rfl sP ?_
  refine wS (vB false) rfl (Step.move rfl) ?_
  refine wS (vB true) rfl (Step.move rfl) ?_
  refine wS (vB false) rfl sP ?_
  refine wS (vB false) rfl (Step.pick (t := false) rfl rfl) ?_
  refine wS (vB false) rfl (Step.move rfl) ?_
  refine wS v36 rfl (Step.move rfl) ?_
  refine wS (vI (↑((allL fu d l rt).length))) rfl (Step.lenSl Try.un34 rfl (own_slAt (M.chunk 1 rfl).inv)) ?_
  refine wS (vP tb) rfl (Step.move rfl) ?_
  refine wS (vP tb) rfl sP ?_
  refine wS (Value.pointer (some ⟨tb, 4, none⟩)) rfl sP ?_
  refine wS (vI ln) rfl (Step.load1 Try.sc3 rfl ((cell_blk (M.rep 0 rfl) 4).trans rfl)) ?_
  refine wS (vB ((↑((allL fu d l rt).length) : Int) != (ln : Int))) rfl sP ?_
  refine wS (vB ((↑((allL fu d l rt).length) : Int) != (ln : Int))) rfl (Step.pick (t := false) rfl rfl) ?_
  refine wS (vB ((↑((allL fu d l rt).length) : Int) != (ln : Int))) rfl (Step.move rfl) ?_
  rcases Bool.eq_false_or_eq_true ((↑((allL fu d l rt).length) : Int) != (ln : Int)) with h41 | h41
  ·
   have h41p : ¬ (↑((allL fu d l rt).length) : Int) = (ln : Int) := by simpa using h41
   omega
  ·
   have h41p : (↑((allL fu d l rt).length) : Int) = (ln : Int) := by simpa using h41
   rw [h41]
   refine wS (vI (↑(usedN l))) rfl (Step.move rfl) ?_
   refine wS v2 rfl (Step.move rfl) ?_
   refine wS (vI ↑cs3.length) rfl (Step.lenSl Try.un65 rfl (own_slAt (M.chunk 3 rfl).inv)) ?_
   refine wS (vB ((↑(usedN l) : Int) != (↑cs3.length : Int))) rfl sP ?_
   refine wS (vB ((↑(usedN l) : Int) != (↑cs3.length : Int))) rfl (Step.pick (t := false) rfl rfl) ?_
   refine WL.nil ?_
   refine W.cond (t := (↑(usedN l) : Int) != (↑cs3.length : Int)) rfl (fun h42 => ?_) (fun h42 => ?_)
   ·
    have h42p : ¬ (↑(usedN l) : Int) = (↑cs3.length : Int) := by simpa using h42
    omega
   ·
    have h42p : (↑(usedN l) : Int) = (↑cs3.length : Int) := by simpa using h42
    refine W.skip ?_
    refine wR ?_
    refine wS (vI 0) rfl (Step.assign rfl) ?_
    refine WL.nil ?_
    refine W.ret ?_
    refine ⟨.inl rfl, (vI 0), ?_, ?_⟩
    · exact ⟨rfl, (Res.r1 (show RV _ _ _ (.tmp 2) (vI 0) from by exact rfl))⟩
    refine ⟨?_, M.close [0] rfl (by decide) trivial⟩
    rfl
end Go.Proofs
set_option maxRecDepth 100000
namespace Go.Proofs
open Go Tp
abbrev tT (S : Nat → Prop) (tb : Nat) (row : List THit) (c : Nat) : Chunk := tabC 94 143 145 S tb row c
theorem T_new {G : Nat → Prop} {w : World}    (M : Mem G (fun _ => False) w [] [] w) : Rets Try.prog 30 #[] w fun r w' => ∃ (tb' : Nat) (S' : Nat → Prop), r = (vP tb') ∧ Mem G (fun _ => False) w [tT S' tb' ([] : List THit) 0] [] w' := by
 refine Rets.mono (tab_new M) ?_
 rintro _ w' ⟨tb, ab, S', rfl, m⟩
 exact ⟨tb, _, rfl, Mem.pack (Ls := tabL 94 143 145 tb) (p := TabP [] 0) ⟨ab, ⟨0, 0⟩, false, 0, [], S'⟩ m ⟨0, 0, Tp.tab_new, Nat.le_refl _, Nat.le_refl _⟩⟩
theorem T_len {G X : Nat → Prop} {w : World} (tb : Nat) (S : Nat → Prop) (row : List THit) (c : Nat)   (M : Mem G X w [tT S tb row c] [] w) : Rets Try.prog 42 #[(vP tb)] w fun r w' => r = (vI ↑row.length) ∧ Mem G X w [tT S tb row c] [] w' := by
 obtain ⟨i, ⟨K, d, H, hK, hr⟩, rfl, M1⟩ := M.unpack
 refine Rets.mono (tab_len tb i.ab i.rt i.fu i.ln i.l i.S M1) ?_
 rintro _ w' ⟨rfl, m⟩
 exact ⟨by rw [H.len], Mem.pack (Ls := tabL 94 143 145 tb) (p := TabP row c) i m ⟨K, d, H, hK, hr⟩⟩
theorem T_put {G X : Nat → Prop} {w : World} (tb : Nat) (S : Nat → Prop) (row : List THit) (c : Nat) (k : ByteArray) (v : Int)  (hc : c ≤ 900) (M : Mem G X w [tT S tb row c] [] w) : Rets Try.prog 18 #[(vP tb), (vS k), (vI v)] w fun r w' => ∃ (S' : Nat → Prop), r = (Value.tuple #[(vI ((getL row k).1)), (vB ((getL row k).2))]) ∧ Mem G X w [tT S' tb (putR row (⟨k, v⟩ : THit)) (c + 1)] [] w' := by
 obtain ⟨i, ⟨K, d, H, hK, hr⟩, rfl, M1⟩ := M.unpack
 have hd := tab_deep H
 refine Rets.mono (tab_put tb i.ab i.rt i.fu i.ln i.l i.S k v (H.small' (by omega)) d (put_okW H (by omega)) (put_small H (by omega)) (by rw [H.len]; omega) M1) ?_
 rintro _ w' ⟨S', rfl, m⟩
 obtain ⟨_, _, e⟩ := put_tab (x := (⟨k, v⟩ : THit)) H
 exact ⟨_, by rw [e], Mem.pack (Ls := tabL 94 143 145 tb) (p := TabP (putR row (⟨k, v⟩ : THit)) (c + 1)) ⟨i.ab, _, true, _, _, S'⟩ m (put_row H hK hr hc)⟩
theorem T_delete {G X : Nat → Prop} {w : World} (tb : Nat) (S : Nat → Prop) (row : List THit) (c : Nat) (k : ByteArray)  (hc : c ≤ 900) (M : Mem G X w [tT S tb row c] [] w) : Rets Try.prog 19 #[(vP tb), (vS k)] w fun r w' => ∃ (S' : Nat → Prop), r = (Value.tuple #[(vI ((getL row k).1)), (vB ((getL row k).2))]) ∧ Mem G X w [tT S' tb (delL row k) c] [] w' := by
 obtain ⟨i, ⟨K, d, H, hK, hr⟩, rfl, M1⟩ := M.unpack
 refine Rets.mono (tab_delete tb i.ab i.rt i.fu i.ln i.l i.S k (H.small' (by omega)) d (tab_look H) (del_small H (by omega)) (by rw [H.len]; omega) M1) ?_
 rintro _ w' ⟨S', rfl, m⟩
 obtain ⟨d', H'⟩ := del_row (k := k) H
 exact ⟨_, by rw [tab_get H], Mem.pack (Ls := tabL 94 143 145 tb) (p := TabP (delL row k) c) ⟨i.ab, _, _, _, _, S'⟩ m ⟨K, d', H', hK, Nat.le_trans delL_le hr⟩⟩
theorem T_get {G X : Nat → Prop} {w : World} (tb : Nat) (S : Nat → Prop) (row : List THit) (c : Nat) (k : ByteArray)  (hc : c ≤ 900) (M : Mem G X w [tT S tb row c] [] w) : Rets Try.prog 17 #[(vP tb), (vS k)] w fun r w' => r = (Value.tuple #[(vI ((getL row k).1)), (vB ((getL row k).2))]) ∧ Mem G X w [tT S tb row c] [] w' := by
 refine (tab_reads (ι := Unit) (fun _ => (Value.tuple #[(vI ((getL row k).1)), (vB ((getL row k).2))])) (fun _ => []) M fun i ⟨K, d, H, hK, hr⟩ G' X' M' => ?_).mono fun v w' ⟨_, e, m⟩ => ⟨e, m⟩
 refine (tr_Get tb i.ab i.rt i.fu i.ln i.l i.S k (H.small' (by omega)) d (tab_look H) M').mono fun v w' ⟨e, m⟩ => ⟨(), ?_, m⟩
 rw [e, tab_get H]
theorem T_from {G X : Nat → Prop} {w : World} (tb : Nat) (S : Nat → Prop) (row : List THit) (c : Nat) (k : ByteArray)  (hc : c ≤ 900) (M : Mem G X w [tT S tb row c] [] w) : Rets Try.prog 45 #[(vP tb), (vS k)] w fun r w' => r = (Value.tuple #[(Value.agg #[(vS (((fromL row k).1).key)), (vI (((fromL row k).1).val))]), (vB ((fromL row k).2))]) ∧ Mem G X w [tT S tb row c] [] w' := by
 refine (tab_reads (ι := Unit) (fun _ => (Value.tuple #[(Value.agg #[(vS (((fromL row k).1).key)), (vI (((fromL row k).1).val))]), (vB ((fromL row k).2))])) (fun _ => []) M fun i ⟨K, d, H, hK, hr⟩ G' X' M' => ?_).mono fun v w' ⟨_, e, m⟩ => ⟨e, m⟩
 refine (tr_From tb i.ab i.rt i.fu i.ln i.l i.S k (H.small' (by omega)) d (tab_look H) M').mono fun v w' ⟨e, m⟩ => ⟨(), ?_, m⟩
 rw [e, tab_lookT H (upP_ge k)]; rfl
theorem T_before {G X : Nat → Prop} {w : World} (tb : Nat) (S : Nat → Prop) (row : List THit) (c : Nat) (k : ByteArray)  (hc : c ≤ 900) (M : Mem G X w [tT S tb row c] [] w) : Rets Try.prog 60 #[(vP tb), (vS k)] w fun r w' => r = (Value.tuple #[(Value.agg #[(vS (((beforeL row k).1).key)), (vI (((beforeL row k).1).val))]), (vB ((beforeL row k).2))]) ∧ Mem G X w [tT S tb row c] [] w' := by
 refine (tab_reads (ι := Unit) (fun _ => (Value.tuple #[(Value.agg #[(vS (((beforeL row k).1).key)), (vI (((beforeL row k).1).val))]), (vB ((beforeL row k).2))])) (fun _ => []) M fun i ⟨K, d, H, hK, hr⟩ G' X' M' => ?_).mono fun v w' ⟨_, e, m⟩ => ⟨e, m⟩
 refine (tr_Before tb i.ab i.rt i.fu i.ln i.l i.S k (H.small' (by omega)) d (tab_look H) M').mono fun v w' ⟨e, m⟩ => ⟨(), ?_, m⟩
 rw [e, tab_lookG H (downP_lt k)]; rfl
theorem T_all {G X : Nat → Prop} {w : World} (tb : Nat) (S : Nat → Prop) (row : List THit) (c : Nat)  (hc : c ≤ 900) (M : Mem G X w [tT S tb row c] [] w) : Rets Try.prog 38 #[(vP tb)] w fun r w' => ∃ (v' : Value), r = v' ∧ Mem G X w [tT S tb row c, oR v' row] [] w' := by
 refine (tab_reads (ι := Value) (fun v' => v') (fun v' => [oR v' row]) M fun i ⟨K, d, H, hK, hr⟩ G' X' M' => ?_)
 refine (tr_all tb i.ab i.rt i.fu i.ln i.l i.S (H.small' (by omega)) d (tab_look H) (by rw [tab_all H]; omega) M').mono fun v w' ⟨v', e, m⟩ => ⟨v', e, ?_⟩
 rw [tab_all H] at m
 exact m
theorem T_places {G X : Nat → Prop} {w : World} (tb : Nat) (S : Nat → Prop) (row : List THit) (c : Nat)  (hc : c ≤ 900) (M : Mem G X w [tT S tb row c] [] w) : Rets Try.prog 32 #[(vP tb)] w fun r w' => ∃ (v' : Value) (cs' : List PlC) (N' : Nat → Prop) (ps' : List TPl), r = v' ∧ Mem G X w [tT S tb row c, oP v' cs', rowsC 9 N' 0 cs' ps', propC (PlcP row ps')] [] w' := by
 refine (tab_reads (ι := Value × List PlC × (Nat → Prop) × List TPl) (fun q => q.1) (fun q => [oP q.1 q.2.1, rowsC 9 q.2.2.1 0 q.2.1 q.2.2.2, propC (PlcP row q.2.2.2)]) M fun i ⟨K, d, H, hK, hr⟩ G' X' M' => ?_).mono fun v w' ⟨⟨v', cs', N', ps'⟩, e, m⟩ => ⟨v', cs', N', ps', e, m⟩
 have hd := tab_deep H
 have hA := H.small' (by omega)
 have hu := usedN_le i.l
 have hl := hA.1
 refine (tr_Places tb i.ab i.rt i.fu i.ln i.l i.S hA d (tab_pl H) (by omega) (by rw [(tab_plc H).2]; omega) M').mono fun v w' ⟨v', cs', N', e, m⟩ => ⟨(v', cs', N', plcL i.fu d i.l i.rt), e, ?_⟩
 exact (m.addProp (tab_plc H).1).sel [1, 2, 3, 0] rfl (by decide)
theorem T_check {G X : Nat → Prop} {w : World} (tb : Nat) (S : Nat → Prop) (row : List THit) (c : Nat)  (hc : c ≤ 900) (M : Mem G X w [tT S tb row c] [] w) : Rets Try.prog 33 #[(vP tb)] w fun r w' => r = (vI 0) ∧ Mem G X w [tT S tb row c] [] w' := by
 refine (tab_reads (ι := Unit) (fun _ => vI 0) (fun _ => []) M fun i ⟨K, d, H, hK, hr⟩ G' X' M' => ?_).mono fun v w' ⟨_, e, m⟩ => ⟨e, m⟩
 have hd := tab_deep H
 have hA := H.small' (by omega)
 have hu := usedN_le i.l
 have hl := hA.1
 obtain ⟨D, hP⟩ := plc_ok (tab_plc H).1
 have hD := plc_deep hP
 exact (tr_check tb i.ab i.rt i.fu i.ln i.l i.S hA d (tab_look H) (tab_pl H) (by omega) (by rw [(tab_plc H).2]; omega) row D hP (by omega) (by rw [tab_all H]; exact H.up) (by rw [tab_all H, H.len]) (by rw [H.len]; omega) (tab_plc H).2.symm M').mono fun v w' ⟨e, m⟩ => ⟨(), e, m⟩
end Go.Proofs
set_option maxRecDepth 100000
namespace Go.Proofs
open Go Tp
theorem Try.un27 : Und Try.prog 27 (.slice 108) := by unfold Und; kernel_rfl
theorem Try.ag108 : Aggr Try.prog 108 2 := ⟨fun _ => by kernel_rfl, fun _ => by kernel_rfl⟩
theorem Try.el108 : Elem Try.prog 108 (Value.agg #[(vS sZ), (vI 0)]) 2 24 := Elem.mk (by kernel_rfl)
abbrev oQ (v : Value) (xs : List THit) : Chunk := own 108 2 v xs.length (xs.flatMap hitE)
theorem r_get {G : Nat → Prop} {w : World} (v : Value) (l : List THit) (k : ByteArray)   (M : Mem G (fun _ => False) w [] [fR v l] w) : Rets Try.prog 40 #[v, (vS k)] w fun r w' => r = (Value.tuple #[(vI ((getL l k).1)), (vB ((getL l k).2))]) ∧ Mem G (fun _ => False) w [] [] w' := by
 refine Rets.enter 25 _ Try.func40 rfl Try.ntmps40 Try.results40 (by simp) ?_
 have hle1 := SlAt.le' (M.rep 0 rfl)
 have sl2 : IsSl v := SlAt.isSl (Mem.rep M 0 rfl)
 refine wR ?_
 refine wS (vI 0) rfl (Step.assign rfl) ?_
 refine wS (vB false) rfl (Step.assign rfl) ?_
 refine WL.nil ?_
 refine W.seq' ?_
 refine wR ?_
 refine wS (vI 0) rfl (Step.assign rfl) ?_
 refine WL.nil ?_
 refine W.block ?_
 refine W.loop (fun kk ρ w' => ∃ (i_ : Nat), ((i_ ≤ l.length) ∧ (∀ j u, j < i_ → l[j]? = some u → (fun u : THit => decide (u.key = k)) u = false) ∧ kk = l.length - i_) ∧ ρ.has [(0, v), (1, (vS k)), (6, (vI ↑i_))] ∧ Mem G (fun _ => False) w [] [fR v l]  w') _ ⟨0, ⟨(Nat.zero_le _), (fun _ _ h => absurd h (Nat.not_lt_zero _)), rfl⟩, ⟨rfl, rfl, rfl, rfl, rfl⟩, M⟩ ?_
 rintro _ ρ4 w3 ⟨i_, ⟨hi5, hi6, rfl⟩, hρ, M⟩
 obtain ⟨ρ4, rfl⟩ := hρ.know
 clear hρ
 refine W.seq' ?_
 refine wR ?_
 refine wS (vI ↑i_) rfl (Step.move rfl) ?_
 refine wS v rfl (Step.move rfl) ?_
 refine wS (vI ↑l.length) rfl (Step.lenSl Try.un27 rfl (M.rep 0 rfl)) ?_
 refine wS (vB (decide ((↑i_ : Int) < (↑l.length : Int)))) rfl sP ?_
 refine WL.nil ?_
 refine W.cond (t := decide ((↑i_ : Int) < (↑l.length : Int))) rfl (fun h7 => ?_) (fun h7 => ?_)
 ·
  have h7p := of_decide_eq_true h7
  refine W.skip ?_
  refine W.seq' ?_
  refine W.block ?_
  refine wR ?_
  refine wS v rfl (Step.move rfl) ?_
  refine wS (vI ↑i_) rfl (Step.move rfl) ?_
  obtain ⟨cap9, hb8⟩ := SlAt.base (M.rep 0 rfl) (by omega)
  obtain ⟨x10, hx10⟩ := elem_of_lt (xs := l) (i := i_) (by omega)
  refine wS (vQ v i_ 2) rfl (sX i_ Try.un27 Try.el108 rfl rfl hb8) ?_
  refine wS (vQ v i_ 2) rfl sP ?_
  refine wS (vS x10.key) rfl (Step.loadE (k := 0) Try.sc9 (flat_ec (M.rep 0 rfl) hx10 hitE_len) (by decide) rfl rfl) ?_
  refine wS (vS k) rfl (Step.move rfl) ?_
  refine wS (vB (x10.key.toList == k.toList)) rfl sP ?_
  refine WL.nil ?_
  refine W.cond (t := x10.key.toList == k.toList) rfl (fun h11 => ?_) (fun h11 => ?_)
  ·
   refine wR ?_
   refine wS v rfl (Step.move rfl) ?_
   refine wS (vI ↑i_) rfl (Step.move rfl) ?_
   refine wS (vQ v i_ 2) rfl (sX i_ Try.un27 Try.el108 rfl rfl hb8) ?_
   refine wS (vR v i_ 2 1) rfl sP ?_
   refine wS (vI x10.val) rfl (Step.loadE (k := 1) Try.sc3 (flat_ec (M.rep 0 rfl) hx10 hitE_len) (by decide) rfl rfl) ?_
   refine wS (vI x10.val) rfl (Step.assign rfl) ?_
   refine wS (vB true) rfl (Step.assign rfl) ?_
   refine WL.nil ?_
   refine W.ret ?_
   refine ⟨.inl rfl, (Value.tuple #[(vI x10.val), (vB true)]), ?_, ?_⟩
   · exact ⟨rfl, (Res.r2 (show RV _ _ _ (.tmp 4) (vI x10.val) from by exact rfl) (show RV _ _ _ (.tmp 5) (vB true) from by exact rfl))⟩
   refine ⟨?_, M.close [] rfl (by decide) trivial⟩
   rw [getL_at hx10 (by simpa [sEq_dec] using h11) hi6]
  ·
   refine W.skip ?_
   refine W.region rfl ?_
   refine wS (vI ↑i_) rfl (Step.move rfl) ?_
   refine wS (vI (↑i_ + 1)) rfl (Step.add rfl rfl (wrap_i64 (by omega))) ?_
   refine wS (vI (↑i_ + 1)) rfl (Step.assign rfl) ?_
   refine WL.nil ?_
   exact ⟨_, (by omega), i_ + 1, ⟨(by omega), (below_stepG hi6 hx10 (by simpa [sEq_dec] using h11)), rfl⟩, ⟨rfl, rfl, rfl, rfl, rfl⟩, M⟩
 ·
  have h7p := of_decide_eq_false h7
  refine W.exit ?_
  refine thn_exit ?_
  refine thn_exit ?_
  refine inBlk_hit ?_
  refine wR ?_
  refine wS (vI 0) rfl (Step.assign rfl) ?_
  refine wS (vB false) rfl (Step.assign rfl) ?_
  refine WL.nil ?_
  refine W.ret ?_
  refine ⟨.inl rfl, (Value.tuple #[(vI 0), (vB false)]), ?_, ?_⟩
  · exact ⟨rfl, (Res.r2 (show RV _ _ _ (.tmp 4) (vI 0) from by exact rfl) (show RV _ _ _ (.tmp 5) (vB false) from by exact rfl))⟩
  refine ⟨?_, M.close [] rfl (by decide) trivial⟩
  rw [getL_end (by omega) hi6]
theorem r_delete {G : Nat → Prop} {w : World} (v : Value) (l : List THit) (k : ByteArray)  (hb : l.length ≤ 400000) (M : Mem G (fun _ => False) w [] [fR v l] w) : Rets Try.prog 41 #[v, (vS k)] w fun r w' => ∃ (v' : Value), r = v' ∧ Mem G (fun _ => False) w [] [fR v' (delL l k)] w' := by
 refine Rets.enter 28 _ Try.func41 rfl Try.ntmps41 Try.results41 (by simp) ?_
 have hle1 := SlAt.le' (M.rep 0 rfl)
 have sl2 : IsSl v := SlAt.isSl (Mem.rep M 0 rfl)
 refine wR ?_
 refine wS vZ rfl (Step.assign rfl) ?_
 refine WL.nil ?_
 refine wR ?_
 refine wS vZ rfl (Step.assign rfl) ?_
 refine WL.nil ?_
 refine W.seq' ?_
 refine wR ?_
 refine wS (vI 0) rfl (Step.assign rfl) ?_
 refine WL.nil ?_
 refine W.block ?_
 replace M := M.ownNil 108 2
 replace M := M.rechunk 0 (c' := oQ vZ ((l.take 0).filter fun a => !decide (a.key = k))) rfl rfl
 refine W.loop (fun kk ρ w' => ∃ (i_ : Nat) (acci_ : Value), ((i_ ≤ l.length) ∧ kk = l.length - i_) ∧ ρ.has [(0, v), (1, (vS k)), (4, vZ), (5, acci_), (6, (vI ↑i_))] ∧ Mem G (fun _ => False) w [oQ acci_ ((l.take i_).filter fun a => !decide (a.key = k))] [fR v l]  w') _ ⟨0, _, ⟨(Nat.zero_le _), rfl⟩, ⟨rfl, rfl, rfl, rfl, rfl, rfl, rfl⟩, M⟩ ?_
 rintro _ ρ4 w3 ⟨i_, acci_, ⟨hi5, rfl⟩, hρ, M⟩
 obtain ⟨ρ4, rfl⟩ := hρ.know
 clear hρ
 have sl6 : IsSl acci_ := SlAt.isSl (own_slAt (M.chunk 0 rfl).inv)
 have hacl : ((l.take i_).filter fun a => !decide (a.key = k)).length ≤ 400000 := Nat.le_trans (List.length_filter_le _ _) (by rw [List.length_take]; omega)
 refine W.seq' ?_
 refine wR ?_
 refine wS (vI ↑i_) rfl (Step.move rfl) ?_
 refine wS v rfl (Step.move rfl) ?_
 refine wS (vI ↑l.length) rfl (Step.lenSl Try.un27 rfl (M.rep 0 rfl)) ?_
 refine wS (vB (decide ((↑i_ : Int) < (↑l.length : Int)))) rfl sP ?_
 refine WL.nil ?_
 refine W.cond (t := decide ((↑i_ : Int) < (↑l.length : Int))) rfl (fun h7 => ?_) (fun h7 => ?_)
 ·
  have h7p := of_decide_eq_true h7
  refine W.skip ?_
  refine W.seq' ?_
  refine W.block ?_
  refine wR ?_
  refine wS v rfl (Step.move rfl) ?_
  refine wS (vI ↑i_) rfl (Step.move rfl) ?_
  obtain ⟨cap9, hb8⟩ := SlAt.base (M.rep 0 rfl) (by omega)
  obtain ⟨x10, hx10⟩ := elem_of_lt (xs := l) (i := i_) (by omega)
  refine wS (vQ v i_ 2) rfl (sX i_ Try.un27 Try.el108 rfl rfl hb8) ?_
  refine wS (vQ v i_ 2) rfl sP ?_
  refine wS (vS x10.key) rfl (Step.loadE (k := 0) Try.sc9 (flat_ec (M.rep 0 rfl) hx10 hitE_len) (by decide) rfl rfl) ?_
  refine wS (vS k) rfl (Step.move rfl) ?_
  refine wS (vB (!(x10.key.toList == k.toList))) rfl sP ?_
  refine WL.nil ?_
  refine W.cond (t := !(x10.key.toList == k.toList)) rfl (fun h11 => ?_) (fun h11 => ?_)
  ·
   refine W.region rfl ?_
   refine wS acci_ rfl (Step.move rfl) ?_
   refine wS v rfl (Step.move rfl) ?_
   refine wS (vI ↑i_) rfl (Step.move rfl) ?_
   refine wS (vQ v i_ 2) rfl (sX i_ Try.un27 Try.el108 rfl rfl hb8) ?_
   refine wS (Value.agg #[(vS x10.key), (vI x10.val)]) rfl (Step.loadEN (k := 0) (cs' := [(vS x10.key), (vI x10.val)]) Try.ag108 (flat_ec (M.rep 0 rfl) hx10 hitE_len) (by decide) rfl rfl rfl) ?_
   refine WL.new (obj := .cells #[(vS x10.key), (vI x10.val)] 108) (fun b => .slice (some ⟨b, 0, none⟩) 1 1) M rfl (fun w => Step.make (by kernel_rfl)) (fun b12 w13 hb12 M => ?_)
   refine WL.does rfl (M.appendF ((l.take i_).filter fun a => !decide (a.key = k)) ([x10] : List THit) (sv := (Value.slice (some ⟨b12, 0, none⟩) 1 1)) 1 Try.un27 Try.el108 rfl (by decide) rfl rfl rfl (SlAt.of_blk (M.blk 0 rfl) rfl (by decide)) hitE_cel (by have := hacl; simp only [maxLen, List.length_nil, List.length_cons, List.length_append]; omega) (by have := hacl; (try simp only [List.length_nil, List.length_cons, List.length_append]); omega)) ?_
   rintro v14 w15 M
   have sl16 : IsSl v14 := SlAt.isSl (own_slAt (M.chunk 1 rfl).inv)
   refine wS v14 rfl (Step.assign rfl) ?_
   refine WL.nil ?_
   refine W.region rfl ?_
   refine wS (vI ↑i_) rfl (Step.move rfl) ?_
   refine wS (vI (↑i_ + 1)) rfl (Step.add rfl rfl (wrap_i64 (by omega))) ?_
   refine wS (vI (↑i_ + 1)) rfl (Step.assign rfl) ?_
   refine WL.nil ?_
   replace M := M.rechunk 1 (c' := oQ v14 ((l.take (i_ + 1)).filter fun a => !decide (a.key = k))) rfl (by rw [filtY hx10 (by simpa [sEq_dec] using h11)])
   replace M := M.sel (L' := [oQ v14 ((l.take (i_ + 1)).filter fun a => !decide (a.key = k))]) [1] rfl (by decide)
   exact ⟨_, (by omega), i_ + 1, v14, ⟨(by omega), rfl⟩, ⟨rfl, rfl, rfl, rfl, rfl, rfl, rfl⟩, M⟩
  ·
   refine W.skip ?_
   refine W.region rfl ?_
   refine wS (vI ↑i_) rfl (Step.move rfl) ?_
   refine wS (vI (↑i_ + 1)) rfl (Step.add rfl rfl (wrap_i64 (by omega))) ?_
   refine wS (vI (↑i_ + 1)) rfl (Step.assign rfl) ?_
   refine WL.nil ?_
   replace M := M.rechunk 0 (c' := oQ acci_ ((l.take (i_ + 1)).filter fun a => !decide (a.key = k))) rfl (by rw [filtN hx10 (by simpa [sEq_dec] using h11)])
   exact ⟨_, (by omega), i_ + 1, acci_, ⟨(by omega), rfl⟩, ⟨rfl, rfl, rfl, rfl, rfl, rfl, rfl⟩, M⟩
 ·
  have h7p := of_decide_eq_false h7
  refine W.exit ?_
  refine thn_exit ?_
  refine thn_exit ?_
  refine inBlk_hit ?_
  refine wR ?_
  refine wS acci_ rfl (Step.move rfl) ?_
  refine wS acci_ rfl (Step.assign rfl) ?_
  refine WL.nil ?_
  refine W.ret ?_
  refine ⟨.inl rfl, acci_, ?_, ?_⟩
  · exact ⟨rfl, (Res.r1 (show RV _ _ _ (.tmp 4) acci_ from by exact rfl))⟩
  replace M := M.shareOwn 0 rfl
  have e17 : delL l k = ((l.take i_).filter fun a => !decide (a.key = k)) := by
   unfold delL; rw [List.take_of_length_le (by omega)]
  have hf18 := Sh.reList e17 (M.shr' 0 rfl)
  refine ⟨acci_, ?_, M.close [] rfl (by decide) ⟨hf18, trivial⟩⟩
  rfl
end Go.Proofs
set_option maxRecDepth 100000
namespace Go.Proofs
open Go Tp
theorem Try.en41 : Enters Try.prog 41 := fun _ _ => by kernel_rfl
theorem r_put {G : Nat → Prop} {w : World} (v : Value) (l : List THit) (k : ByteArray) (n : Int)  (hb : l.length ≤ 400000) (M : Mem G (fun _ => False) w [] [fR v l] w) : Rets Try.prog 39 #[v, (vS k), (vI n)] w fun r w' => ∃ (v' : Value), r = v' ∧ Mem G (fun _ => False) w [] [fR v' (putR l (⟨k, n⟩ : THit))] w' := by
 refine Rets.enter 63 _ Try.func39 rfl Try.ntmps39 Try.results39 (by simp) ?_
 have hle1 := SlAt.le' (M.rep 0 rfl)
 have sl2 : IsSl v := SlAt.isSl (Mem.rep M 0 rfl)
 refine wR ?_
 refine wS vZ rfl (Step.assign rfl) ?_
 refine WL.nil ?_
 refine wR ?_
 refine wS vZ rfl (Step.assign rfl) ?_
 refine WL.nil ?_
 refine wR ?_
 refine wS v rfl (Step.move rfl) ?_
 refine wS (vS k) rfl (Step.move rfl) ?_
 refine WL.callX rfl (r_delete v l k (by omega) (M.enter0 ⟨(M.shr' 0 rfl), trivial⟩)) (CallsF.func Try.en41 rfl) ?_
 rintro v3 w4 ⟨_, rfl, m⟩
 replace M := M.leave0 m
 clear m
 have sl5 : IsSl v3 := SlAt.isSl (Mem.rep M 0 rfl)
 have hle6 := SlAt.le' (M.rep 0 rfl)
 refine wS v3 rfl (Step.assign rfl) ?_
 refine WL.nil ?_
 refine W.seq' ?_
 refine wR ?_
 refine wS (vI 0) rfl (Step.assign rfl) ?_
 refine WL.nil ?_
 refine W.block ?_
 have hdl_ : (delL l k).length ≤ l.length := delL_le
 have htw_ := (List.takeWhile_prefix (p := fun a : THit => sLt a.key k) (l := (delL l k))).length_le
 replace M := M.ownNil 108 2
 replace M := M.rechunk 0 (c' := oQ vZ ((delL l k).take 0)) rfl rfl
 refine W.loop (fun kk ρ w' => ∃ (i_ : Nat) (acci_ : Value), ((i_ ≤ (delL l k).length) ∧ (∀ j u, j < i_ → (delL l k)[j]? = some u → (fun u : THit => !(sLt u.key k)) u = false) ∧ kk = (delL l k).length - i_) ∧ ρ.has [(1, (vS k)), (2, (vI n)), (6, vZ), (7, acci_), (8, v3), (9, (vI ↑i_))] ∧ Mem G (fun _ => False) w [oQ acci_ ((delL l k).take i_)] [fR v3 (delL l k), fR v l]  w') _ ⟨0, _, ⟨(Nat.zero_le _), (fun _ _ h => absurd h (Nat.not_lt_zero _)), rfl⟩, ⟨rfl, rfl, rfl, rfl, rfl, rfl, rfl, rfl⟩, M⟩ ?_
 rintro _ ρ8 w7 ⟨i_, acci_, ⟨hi9, hi10, rfl⟩, hρ, M⟩
 obtain ⟨ρ8, rfl⟩ := hρ.know
 clear hρ
 have sl11 : IsSl acci_ := SlAt.isSl (own_slAt (M.chunk 0 rfl).inv)
 have hacl : ((delL l k).take i_).length ≤ 400000 := by rw [List.length_take]; omega
 refine W.seq' ?_
 refine wR ?_
 refine wS (vI ↑i_) rfl (Step.move rfl) ?_
 refine wS v3 rfl (Step.move rfl) ?_
 refine wS (vI (↑((delL l k).length))) rfl (Step.lenSl Try.un27 rfl (M.rep 0 rfl)) ?_
 refine wS (vB (decide ((↑i_ : Int) < (↑((delL l k).length) : Int)))) rfl sP ?_
 refine wS (vB (decide ((↑i_ : Int) < (↑((delL l k).length) : Int)))) rfl (Step.move rfl) ?_
 rcases Bool.eq_false_or_eq_true (decide ((↑i_ : Int) < (↑((delL l k).length) : Int))) with h12 | h12
 ·
  have h12p := of_decide_eq_true h12
  rw [h12]
  refine wS v3 rfl (Step.move rfl) ?_
  refine wS (vI ↑i_) rfl (Step.move rfl) ?_
  obtain ⟨cap14, hb13⟩ := SlAt.base (M.rep 0 rfl) (by omega)
  obtain ⟨x15, hx15⟩ := elem_of_lt (xs := delL l k) (i := i_) (by omega)
  refine wS (vQ v3 i_ 2) rfl (sX i_ Try.un27 Try.el108 rfl rfl hb13) ?_
  refine wS (vQ v3 i_ 2) rfl sP ?_
  refine wS (vS x15.key) rfl (Step.loadE (k := 0) Try.sc9 (flat_ec (M.rep 0 rfl) hx15 hitE_len) (by decide) rfl rfl) ?_
  refine wS (vS k) rfl (Step.move rfl) ?_
  refine wS (vB (sLt x15.key k)) rfl sP ?_
  refine wS (vB (sLt x15.key k)) rfl (Step.pick (t := true) rfl rfl) ?_
  refine WL.nil ?_
  refine W.cond (t := sLt x15.key k) rfl (fun h16 => ?_) (fun h16 => ?_)
  ·
   refine W.skip ?_
   refine W.seq' ?_
   refine W.block ?_
   refine W.region rfl ?_
   refine wS acci_ rfl (Step.move rfl) ?_
   refine wS v3 rfl (Step.move rfl) ?_
   refine wS (vI ↑i_) rfl (Step.move rfl) ?_
   refine wS (vQ v3 i_ 2) rfl (sX i_ Try.un27 Try.el108 rfl rfl hb13) ?_
   refine wS (Value.agg #[(vS x15.key), (vI x15.val)]) rfl (Step.loadEN (k := 0) (cs' := [(vS x15.key), (vI x15.val)]) Try.ag108 (flat_ec (M.rep 0 rfl) hx15 hitE_len) (by decide) rfl rfl rfl) ?_
   refine WL.new (obj := .cells #[(vS x15.key), (vI x15.val)] 108) (fun b => .slice (some ⟨b, 0, none⟩) 1 1) M rfl (fun w => Step.make (by kernel_rfl)) (fun b17 w18 hb17 M => ?_)
   refine WL.does rfl (M.appendF ((delL l k).take i_) ([x15] : List THit) (sv := (Value.slice (some ⟨b17, 0, none⟩) 1 1)) 1 Try.un27 Try.el108 rfl (by decide) rfl rfl rfl (SlAt.of_blk (M.blk 0 rfl) rfl (by decide)) hitE_cel (by have := hacl; simp only [maxLen, List.length_nil, List.length_cons, List.length_append]; omega) (by have := hacl; (try simp only [List.length_nil, List.length_cons, List.length_append]); omega)) ?_
   rintro v19 w20 M
   have sl21 : IsSl v19 := SlAt.isSl (own_slAt (M.chunk 1 rfl).inv)
   refine wS v19 rfl (Step.assign rfl) ?_
   refine WL.nil ?_
   refine W.region rfl ?_
   refine wS (vI ↑i_) rfl (Step.move rfl) ?_
   refine wS (vI (↑i_ + 1)) rfl (Step.add rfl rfl (wrap_i64 (by omega))) ?_
   refine wS (vI (↑i_ + 1)) rfl (Step.assign rfl) ?_
   refine WL.nil ?_
   replace M := M.rechunk 1 (c' := oQ v19 ((delL l k).take (i_ + 1))) rfl (by rw [← take_snoc hx15])
   replace M := M.sel (L' := [oQ v19 ((delL l k).take (i_ + 1))]) [1] rfl (by decide)
   exact ⟨_, (by omega), i_ + 1, v19, ⟨(by omega), (below_stepG hi10 hx15 (by simpa using h16)), rfl⟩, ⟨rfl, rfl, rfl, rfl, rfl, rfl, rfl, rfl⟩, M⟩
  ·
   refine W.exit ?_
   refine thn_exit ?_
   refine thn_exit ?_
   refine inBlk_hit ?_
   refine W.seq' ?_
   replace M := M.rechunk 0 (c' := oQ acci_ ((delL l k).takeWhile fun a => sLt a.key k)) rfl (by rw [takeW_of (i := i_) (fun j u h1 h2 => by simpa using hi10 j u h1 h2) (.inr ⟨_, hx15, by simpa using h16⟩)])
   refine W.region rfl ?_
   refine wS acci_ rfl (Step.move rfl) ?_
   refine wS (vS k) rfl (Step.move rfl) ?_
   refine wS (vI n) rfl (Step.move rfl) ?_
   refine wS (Value.agg #[(vS k), (vI n)]) rfl sP ?_
   refine WL.new (obj := .cells #[(vS k), (vI n)] 108) (fun b => .slice (some ⟨b, 0, none⟩) 1 1) M rfl (fun w => Step.make (by kernel_rfl)) (fun b22 w23 hb22 M => ?_)
   refine WL.does rfl (M.appendF ((delL l k).takeWhile fun a => sLt a.key k) ([(⟨k, n⟩ : THit)] : List THit) (sv := (Value.slice (some ⟨b22, 0, none⟩) 1 1)) 1 Try.un27 Try.el108 rfl (by decide) rfl rfl rfl (SlAt.of_blk (M.blk 0 rfl) rfl (by decide)) hitE_cel (by have := htw_; simp only [maxLen, List.length_nil, List.length_cons, List.length_append]; omega) (by have := htw_; (try simp only [List.length_nil, List.length_cons, List.length_append]); omega)) ?_
   rintro v24 w25 M
   have sl26 : IsSl v24 := SlAt.isSl (own_slAt (M.chunk 1 rfl).inv)
   refine wS v24 rfl (Step.assign rfl) ?_
   refine WL.nil ?_
   refine W.seq' ?_
   refine wR ?_
   refine wS (vI 0) rfl (Step.assign rfl) ?_
   refine WL.nil ?_
   refine W.block ?_
   replace M := M.loseI 0
   replace M : Mem _ _ _ [oQ v24 (((delL l k).takeWhile fun a => sLt a.key k) ++ ([(⟨k, n⟩ : THit)] : List THit))] [fR v3 (delL l k), fR v l] _ := M
   replace M := M.rechunk 0 (c' := oQ v24 ((((delL l k).takeWhile fun a => sLt a.key k) ++ ([(⟨k, n⟩ : THit)] : List THit)) ++ ((delL l k).take 0).filter fun a => sLt k a.key)) rfl (by simp)
   replace M := M.sel (L' := [oQ v24 ((((delL l k).takeWhile fun a => sLt a.key k) ++ ([(⟨k, n⟩ : THit)] : List THit)) ++ ((delL l k).take 0).filter fun a => sLt k a.key)]) [0] rfl (by decide)
   refine W.loop (fun kk ρ w' => ∃ (j_ : Nat) (accj_ : Value), ((j_ ≤ (delL l k).length) ∧ kk = (delL l k).length - j_) ∧ ρ.has [(1, (vS k)), (6, vZ), (7, accj_), (8, v3), (10, (vI ↑j_))] ∧ Mem G (fun _ => False) w [oQ accj_ ((((delL l k).takeWhile fun a => sLt a.key k) ++ ([(⟨k, n⟩ : THit)] : List THit)) ++ ((delL l k).take j_).filter fun a => sLt k a.key)] [fR v3 (delL l k), fR v l]  w') _ ⟨0, _, ⟨(Nat.zero_le _), rfl⟩, ⟨rfl, rfl, rfl, rfl, rfl, rfl, rfl⟩, M⟩ ?_
   rintro _ ρ28 w27 ⟨j_, accj_, ⟨hi29, rfl⟩, hρ, M⟩
   obtain ⟨ρ28, rfl⟩ := hρ.know
   clear hρ
   have sl30 : IsSl accj_ := SlAt.isSl (own_slAt (M.chunk 0 rfl).inv)
   have hacf := Nat.le_trans (List.length_filter_le (fun a : THit => sLt k a.key) ((delL l k).take j_)) (by rw [List.length_take]; exact Nat.min_le_right ..)
   have hac2 : ((((delL l k).takeWhile fun a => sLt a.key k) ++ ([(⟨k, n⟩ : THit)] : List THit)) ++ ((delL l k).take j_).filter fun a => sLt k a.key).length ≤ 1000000 := by simp only [List.length_append, List.length_cons, List.length_nil]; omega
   refine W.seq' ?_
   refine wR ?_
   refine wS (vI ↑j_) rfl (Step.move rfl) ?_
   refine wS v3 rfl (Step.move rfl) ?_
   refine wS (vI (↑((delL l k).length))) rfl (Step.lenSl Try.un27 rfl (M.rep 0 rfl)) ?_
   refine wS (vB (decide ((↑j_ : Int) < (↑((delL l k).length) : Int)))) rfl sP ?_
   refine WL.nil ?_
   refine W.cond (t := decide ((↑j_ : Int) < (↑((delL l k).length) : Int))) rfl (fun h31 => ?_) (fun h31 => ?_)
   ·
    have h31p := of_decide_eq_true h31
    refine W.skip ?_
    refine W.seq' ?_
    refine W.block ?_
    refine wR ?_
    refine wS v3 rfl (Step.move rfl) ?_
    refine wS (vI ↑j_) rfl (Step.move rfl) ?_
    obtain ⟨x32, hx32⟩ := elem_of_lt (xs := delL l k) (i := j_) (by omega)
    refine wS (vQ v3 j_ 2) rfl (sX j_ Try.un27 Try.el108 rfl rfl hb13) ?_
    refine wS (vQ v3 j_ 2) rfl sP ?_
    refine wS (vS x32.key) rfl (Step.loadE (k := 0) Try.sc9 (flat_ec (M.rep 0 rfl) hx32 hitE_len) (by decide) rfl rfl) ?_
    refine wS (vS k) rfl (Step.move rfl) ?_
    refine wS (vB (!(sLt x32.key k || x32.key.toList == k.toList))) rfl sP ?_
    refine WL.nil ?_
    refine W.cond (t := !(sLt x32.key k || x32.key.toList == k.toList)) rfl (fun h33 => ?_) (fun h33 => ?_)
    ·
     refine W.region rfl ?_
     refine wS accj_ rfl (Step.move rfl) ?_
     refine wS v3 rfl (Step.move rfl) ?_
     refine wS (vI ↑j_) rfl (Step.move rfl) ?_
     refine wS (vQ v3 j_ 2) rfl (sX j_ Try.un27 Try.el108 rfl rfl hb13) ?_
     refine wS (Value.agg #[(vS x32.key), (vI x32.val)]) rfl (Step.loadEN (k := 0) (cs' := [(vS x32.key), (vI x32.val)]) Try.ag108 (flat_ec (M.rep 0 rfl) hx32 hitE_len) (by decide) rfl rfl rfl) ?_
     refine WL.new (obj := .cells #[(vS x32.key), (vI x32.val)] 108) (fun b => .slice (some ⟨b, 0, none⟩) 1 1) M rfl (fun w => Step.make (by kernel_rfl)) (fun b34 w35 hb34 M => ?_)
     refine WL.does rfl (M.appendF ((((delL l k).takeWhile fun a => sLt a.key k) ++ ([(⟨k, n⟩ : THit)] : List THit)) ++ ((delL l k).take j_).filter fun a => sLt k a.key) ([x32] : List THit) (sv := (Value.slice (some ⟨b34, 0, none⟩) 1 1)) 1 Try.un27 Try.el108 rfl (by decide) rfl rfl rfl (SlAt.of_blk (M.blk 0 rfl) rfl (by decide)) hitE_cel (by have := hac2; simp only [maxLen, List.length_nil, List.length_cons, List.length_append]; omega) (by have := hac2; (try simp only [List.length_nil, List.length_cons, List.length_append]); omega)) ?_
     rintro v36 w37 M
     have sl38 : IsSl v36 := SlAt.isSl (own_slAt (M.chunk 1 rfl).inv)
     refine wS v36 rfl (Step.assign rfl) ?_
     refine WL.nil ?_
     refine W.region rfl ?_
     refine wS (vI ↑j_) rfl (Step.move rfl) ?_
     refine wS (vI (↑j_ + 1)) rfl (Step.add rfl rfl (wrap_i64 (by omega))) ?_
     refine wS (vI (↑j_ + 1)) rfl (Step.assign rfl) ?_
     refine WL.nil ?_
     replace M := M.rechunk 1 (c' := oQ v36 ((((delL l k).takeWhile fun a => sLt a.key k) ++ ([(⟨k, n⟩ : THit)] : List THit)) ++ ((delL l k).take (j_ + 1)).filter fun a => sLt k a.key)) rfl (by rw [filtY (p := fun a : THit => sLt k a.key) hx32 (by have h_ := h33; simpa [sGt, sLe] using h_), ← List.append_assoc])
     replace M := M.sel (L' := [oQ v36 ((((delL l k).takeWhile fun a => sLt a.key k) ++ ([(⟨k, n⟩ : THit)] : List THit)) ++ ((delL l k).take (j_ + 1)).filter fun a => sLt k a.key)]) [1] rfl (by decide)
     exact ⟨_, (by omega), j_ + 1, v36, ⟨(by omega), rfl⟩, ⟨rfl, rfl, rfl, rfl, rfl, rfl, rfl⟩, M⟩
    ·
     refine W.skip ?_
     refine W.region rfl ?_
     refine wS (vI ↑j_) rfl (Step.move rfl) ?_
     refine wS (vI (↑j_ + 1)) rfl (Step.add rfl rfl (wrap_i64 (by omega))) ?_
     refine wS (vI (↑j_ + 1)) rfl (Step.assign rfl) ?_
     refine WL.nil ?_
     replace M := M.rechunk 0 (c' := oQ accj_ ((((delL l k).takeWhile fun a => sLt a.key k) ++ ([(⟨k, n⟩ : THit)] : List THit)) ++ ((delL l k).take (j_ + 1)).filter fun a => sLt k a.key)) rfl (by rw [filtN (p := fun a : THit => sLt k a.key) hx32 (by have h_ := h33; simpa [sGt, sLe] using h_)])
     exact ⟨_, (by omega), j_ + 1, accj_, ⟨(by omega), rfl⟩, ⟨rfl, rfl, rfl, rfl, rfl, rfl, rfl⟩, M⟩
   ·
    have h31p := of_decide_eq_false h31
    refine W.exit ?_
    refine thn_exit ?_
    refine thn_exit ?_
    refine inBlk_hit ?_
    refine wR ?_
    refine wS accj_ rfl (Step.move rfl) ?_
    refine wS accj_ rfl (Step.assign rfl) ?_
    refine WL.nil ?_
    refine W.ret ?_
    refine ⟨.inl rfl, accj_, ?_, ?_⟩
    · exact ⟨rfl, (Res.r1 (show RV _ _ _ (.tmp 6) accj_ from by exact rfl))⟩
    replace M := M.shareOwn 0 rfl
    have e39 : putR l (⟨k, n⟩ : THit) = ((((delL l k).takeWhile fun a => sLt a.key k) ++ ([(⟨k, n⟩ : THit)] : List THit)) ++ ((delL l k).take j_).filter fun a => sLt k a.key) := by
     unfold putR; rw [List.take_of_length_le (by omega)]; simp
    have hf40 := Sh.reList e39 (M.shr' 0 rfl)
    refine ⟨accj_, ?_, M.close [] rfl (by decide) ⟨hf40, trivial⟩⟩
    rfl
 ·
  have h12p := of_decide_eq_false h12
  rw [h12]
  refine WL.pass rfl ?_
  refine WL.pass rfl ?_
  refine WL.pass rfl ?_
  refine WL.pass rfl ?_
  refine WL.pass rfl ?_
  refine WL.pass rfl ?_
  refine WL.pass rfl ?_
  refine wS (vB false) rfl (Step.pick (t := false) rfl rfl) ?_
  refine WL.nil ?_
  refine W.cond (t := false) rfl (fun h => by cases h) (fun _ => ?_)
  refine W.exit ?_
  refine thn_exit ?_
  refine thn_exit ?_
  refine inBlk_hit ?_
  refine W.seq' ?_
  replace M := M.rechunk 0 (c' := oQ acci_ ((delL l k).takeWhile fun a => sLt a.key k)) rfl (by rw [takeW_of (i := i_) (fun j u h1 h2 => by simpa using hi10 j u h1 h2) (.inl (by omega))])
  refine W.region rfl ?_
  refine wS acci_ rfl (Step.move rfl) ?_
  refine wS (vS k) rfl (Step.move rfl) ?_
  refine wS (vI n) rfl (Step.move rfl) ?_
  refine wS (Value.agg #[(vS k), (vI n)]) rfl sP ?_
  refine WL.new (obj := .cells #[(vS k), (vI n)] 108) (fun b => .slice (some ⟨b, 0, none⟩) 1 1) M rfl (fun w => Step.make (by kernel_rfl)) (fun b41 w42 hb41 M => ?_)
  refine WL.does rfl (M.appendF ((delL l k).takeWhile fun a => sLt a.key k) ([(⟨k, n⟩ : THit)] : List THit) (sv := (Value.slice (some ⟨b41, 0, none⟩) 1 1)) 1 Try.un27 Try.el108 rfl (by decide) rfl rfl rfl (SlAt.of_blk (M.blk 0 rfl) rfl (by decide)) hitE_cel (by have := htw_; simp only [maxLen, List.length_nil, List.length_cons, List.length_append]; omega) (by have := htw_; (try simp only [List.length_nil, List.length_cons, List.length_append]); omega)) ?_
  rintro v43 w44 M
  have sl45 : IsSl v43 := SlAt.isSl (own_slAt (M.chunk 1 rfl).inv)
  refine wS v43 rfl (Step.assign rfl) ?_
  refine WL.nil ?_
  refine W.seq' ?_
  refine wR ?_
  refine wS (vI 0) rfl (Step.assign rfl) ?_
  refine WL.nil ?_
  refine W.block ?_
  replace M := M.loseI 0
  replace M : Mem _ _ _ [oQ v43 (((delL l k).takeWhile fun a => sLt a.key k) ++ ([(⟨k, n⟩ : THit)] : List THit))] [fR v3 (delL l k), fR v l] _ := M
  replace M := M.rechunk 0 (c' := oQ v43 ((((delL l k).takeWhile fun a => sLt a.key k) ++ ([(⟨k, n⟩ : THit)] : List THit)) ++ ((delL l k).take 0).filter fun a => sLt k a.key)) rfl (by simp)
  replace M := M.sel (L' := [oQ v43 ((((delL l k).takeWhile fun a => sLt a.key k) ++ ([(⟨k, n⟩ : THit)] : List THit)) ++ ((delL l k).take 0).filter fun a => sLt k a.key)]) [0] rfl (by decide)
  refine W.loop (fun kk ρ w' => ∃ (j_ : Nat) (accj_ : Value), ((j_ ≤ (delL l k).length) ∧ kk = (delL l k).length - j_) ∧ ρ.has [(1, (vS k)), (6, vZ), (7, accj_), (8, v3), (10, (vI ↑j_))] ∧ Mem G (fun _ => False) w [oQ accj_ ((((delL l k).takeWhile fun a => sLt a.key k) ++ ([(⟨k, n⟩ : THit)] : List THit)) ++ ((delL l k).take j_).filter fun a => sLt k a.key)] [fR v3 (delL l k), fR v l]  w') _ ⟨0, _, ⟨(Nat.zero_le _), rfl⟩, ⟨rfl, rfl, rfl, rfl, rfl, rfl, rfl⟩, M⟩ ?_
  rintro _ ρ47 w46 ⟨j_, accj_, ⟨hi48, rfl⟩, hρ, M⟩
  obtain ⟨ρ47, rfl⟩ := hρ.know
  clear hρ
  have sl49 : IsSl accj_ := SlAt.isSl (own_slAt (M.chunk 0 rfl).inv)
  have hacf := Nat.le_trans (List.length_filter_le (fun a : THit => sLt k a.key) ((delL l k).take j_)) (by rw [List.length_take]; exact Nat.min_le_right ..)
  have hac2 : ((((delL l k).takeWhile fun a => sLt a.key k) ++ ([(⟨k, n⟩ : THit)] : List THit)) ++ ((delL l k).take j_).filter fun a => sLt k a.key).length ≤ 1000000 := by simp only [List.length_append, List.length_cons, List.length_nil]; omega
  refine W.seq' ?_
  refine wR ?_
  refine wS (vI ↑j_) rfl (Step.move rfl) ?_
  refine wS v3 rfl (Step.move rfl) ?_
  refine wS (vI (↑((delL l k).length))) rfl (Step.lenSl Try.un27 rfl (M.rep 0 rfl)) ?_
  refine wS (vB (decide ((↑j_ : Int) < (↑((delL l k).length) : Int)))) rfl sP ?_
  refine WL.nil ?_
  refine W.cond (t := decide ((↑j_ : Int) < (↑((delL l k).length) : Int))) rfl (fun h50 => ?_) (fun h50 => ?_)
  ·
   have h50p := of_decide_eq_true h50
   refine W.skip ?_
   refine W.seq' ?_
   refine W.block ?_
   refine wR ?_
   refine wS v3 rfl (Step.move rfl) ?_
   refine wS (vI ↑j_) rfl (Step.move rfl) ?_
   obtain ⟨cap52, hb51⟩ := SlAt.base (M.rep 0 rfl) (by omega)
   obtain ⟨x53, hx53⟩ := elem_of_lt (xs := delL l k) (i := j_) (by omega)
   refine wS (vQ v3 j_ 2) rfl (sX j_ Try.un27 Try.el108 rfl rfl hb51) ?_
   refine wS (vQ v3 j_ 2) rfl sP ?_
   refine wS (vS x53.key) rfl (Step.loadE (k := 0) Try.sc9 (flat_ec (M.rep 0 rfl) hx53 hitE_len) (by decide) rfl rfl) ?_
   refine wS (vS k) rfl (Step.move rfl) ?_
   refine wS (vB (!(sLt x53.key k || x53.key.toList == k.toList))) rfl sP ?_
   refine WL.nil ?_
   refine W.cond (t := !(sLt x53.key k || x53.key.toList == k.toList)) rfl (fun h54 => ?_) (fun h54 => ?_)
   ·
    refine W.region rfl ?_
    refine wS accj_ rfl (Step.move rfl) ?_
    refine wS v3 rfl (Step.move rfl) ?_
    refine wS (vI ↑j_) rfl (Step.move rfl) ?_
    refine wS (vQ v3 j_ 2) rfl (sX j_ Try.un27 Try.el108 rfl rfl hb51) ?_
    refine wS (Value.agg #[(vS x53.key), (vI x53.val)]) rfl (Step.loadEN (k := 0) (cs' := [(vS x53.key), (vI x53.val)]) Try.ag108 (flat_ec (M.rep 0 rfl) hx53 hitE_len) (by decide) rfl rfl rfl) ?_
    refine WL.new (obj := .cells #[(vS x53.key), (vI x53.val)] 108) (fun b => .slice (some ⟨b, 0, none⟩) 1 1) M rfl (fun w => Step.make (by kernel_rfl)) (fun b55 w56 hb55 M => ?_)
    refine WL.does rfl (M.appendF ((((delL l k).takeWhile fun a => sLt a.key k) ++ ([(⟨k, n⟩ : THit)] : List THit)) ++ ((delL l k).take j_).filter fun a => sLt k a.key) ([x53] : List THit) (sv := (Value.slice (some ⟨b55, 0, none⟩) 1 1)) 1 Try.un27 Try.el108 rfl (by decide) rfl rfl rfl (SlAt.of_blk (M.blk 0 rfl) rfl (by decide)) hitE_cel (by have := hac2; simp only [maxLen, List.length_nil, List.length_cons, List.length_append]; omega) (by have := hac2; (try simp only [List.length_nil, List.length_cons, List.length_append]); omega)) ?_
    rintro v57 w58 M
    have sl59 : IsSl v57 := SlAt.isSl (own_slAt (M.chunk 1 rfl).inv)
    refine wS v57 rfl (Step.assign rfl) ?_
    refine WL.nil ?_
    refine W.region rfl ?_
    refine wS (vI ↑j_) rfl (Step.move rfl) ?_
    refine wS (vI (↑j_ + 1)) rfl (Step.add rfl rfl (wrap_i64 (by omega))) ?_
    refine wS (vI (↑j_ + 1)) rfl (Step.assign rfl) ?_
    refine WL.nil ?_
    replace M := M.rechunk 1 (c' := oQ v57 ((((delL l k).takeWhile fun a => sLt a.key k) ++ ([(⟨k, n⟩ : THit)] : List THit)) ++ ((delL l k).take (j_ + 1)).filter fun a => sLt k a.key)) rfl (by rw [filtY (p := fun a : THit => sLt k a.key) hx53 (by have h_ := h54; simpa [sGt, sLe] using h_), ← List.append_assoc])
    replace M := M.sel (L' := [oQ v57 ((((delL l k).takeWhile fun a => sLt a.key k) ++ ([(⟨k, n⟩ : THit)] : List THit)) ++ ((delL l k).take (j_ + 1)).filter fun a => sLt k a.key)]) [1] rfl (by decide)
    exact ⟨_, (by omega), j_ + 1, v57, ⟨(by omega), rfl⟩, ⟨rfl, rfl, rfl, rfl, rfl, rfl, rfl⟩, M⟩
   ·
    refine W.skip ?_
    refine W.region rfl ?_
    refine wS (vI ↑j_) rfl (Step.move rfl) ?_
    refine wS (vI (↑j_ + 1)) rfl (Step.add rfl rfl (wrap_i64 (by omega))) ?_
    refine wS (vI (↑j_ + 1)) rfl (Step.assign rfl) ?_
    refine WL.nil ?_
    replace M := M.rechunk 0 (c' := oQ accj_ ((((delL l k).takeWhile fun a => sLt a.key k) ++ ([(⟨k, n⟩ : THit)] : List THit)) ++ ((delL l k).take (j_ + 1)).filter fun a => sLt k a.key)) rfl (by rw [filtN (p := fun a : THit => sLt k a.key) hx53 (by have h_ := h54; simpa [sGt, sLe] using h_)])
    exact ⟨_, (by omega), j_ + 1, accj_, ⟨(by omega), rfl⟩, ⟨rfl, rfl, rfl, rfl, rfl, rfl, rfl⟩, M⟩
  ·
   have h50p := of_decide_eq_false h50
   refine W.exit ?_
   refine thn_exit ?_
   refine thn_exit ?_
   refine inBlk_hit ?_
   refine wR ?_
   refine wS accj_ rfl (Step.move rfl) ?_
   refine wS accj_ rfl (Step.assign rfl) ?_
   refine WL.nil ?_
   refine W.ret ?_
   refine ⟨.inl rfl, accj_, ?_, ?_⟩
   · exact ⟨rfl, (Res.r1 (show RV _ _ _ (.tmp 6) accj_ from by exact rfl))⟩
   replace M := M.shareOwn 0 rfl
   have e60 : putR l (⟨k, n⟩ : THit) = ((((delL l k).takeWhile fun a => sLt a.key k) ++ ([(⟨k, n⟩ : THit)] : List THit)) ++ ((delL l k).take j_).filter fun a => sLt k a.key) := by
    unfold putR; rw [List.take_of_length_le (by omega)]; simp
   have hf61 := Sh.reList e60 (M.shr' 0 rfl)
   refine ⟨accj_, ?_, M.close [] rfl (by decide) ⟨hf61, trivial⟩⟩
   rfl
end Go.Proofs
set_option maxRecDepth 100000
namespace Go.Proofs
open Go Tp
theorem Try.un70 : Und Try.prog 70 (.slice 130) := by unfold Und; kernel_rfl
theorem Try.ag130 : Aggr Try.prog 130 3 := ⟨fun _ => by kernel_rfl, fun _ => by kernel_rfl⟩
theorem Try.el130 : Elem Try.prog 130 (Value.agg #[(vI 0), (vB false), vZ]) 3 40 := Elem.mk (by kernel_rfl)
theorem Try.en68 : Enters Try.prog 68 := fun _ _ => by kernel_rfl
theorem r_walk : ∀ (d : Nat) {G : Nat → Prop} {w : World} (v : Value) (l : List TPl) (a : Nat) (q : Int)  (t : BT) (hW : walkOk d l a t q) (hq : 0 ≤ q ∧ q + (d : Int) ≤ 1000000) (hb : (flatB d t).length ≤ 400000) (hlb : l.length ≤ 1000000) (M : Mem G (fun _ => False) w [] [RepS PlT v l] w), Rets Try.prog 68 #[v, (vI ↑a), (vI q)] w fun r w' => ∃ (v' : Value), r = (Value.tuple #[v', (vI (↑(a + (placesB d t q).length))), (vB true)]) ∧ Mem G (fun _ => False) w [] [fS v' ((flatB d t).map THit.key)] w' := by
 intro d
 induction d using Nat.strongRecOn
 rename_i d ih
 intro G w v l a q t hW hq hb hlb M
 refine Rets.enter 80 _ Try.func68 rfl Try.ntmps68 Try.results68 (by simp) ?_
 have hle1 := RepS.le' (M.rep 0 rfl)
 have sl2 : IsSl v := RepS.isSl (Mem.rep M 0 rfl)
 obtain ⟨p, hp, hpd, hpl, hpk⟩ := walk_root hW
 have hal := (List.getElem?_eq_some_iff.1 hp).1
 have hkl_ : p.keys.length = t.ks.length := by rw [hpk, List.length_map]
 have htk_ := (walk_ok hW).1
 have hwl_ := walk_len hW
 obtain ⟨cs3, M⟩ := M.openS 0 rfl
 refine wR ?_
 refine wS vZ rfl (Step.assign rfl) ?_
 refine wS (vI 0) rfl (Step.assign rfl) ?_
 refine wS (vB false) rfl (Step.assign rfl) ?_
 refine WL.nil ?_
 refine W.seq' ?_
 refine wR ?_
 refine wS (vI ↑a) rfl (Step.move rfl) ?_
 refine wS v rfl (Step.move rfl) ?_
 refine wS (vI ↑l.length) rfl (Step.lenSl Try.un70 rfl (M.rep 0 rfl)) ?_
 refine wS (vB (decide ((↑a : Int) ≥ (↑l.length : Int)))) rfl sP ?_
 refine wS (vB (decide ((↑a : Int) ≥ (↑l.length : Int)))) rfl (Step.move rfl) ?_
 rcases Bool.eq_false_or_eq_true (decide ((↑a : Int) ≥ (↑l.length : Int))) with h4 | h4
 ·
  have h4p := of_decide_eq_true h4
  omega
 ·
  have h4p := of_decide_eq_false h4
  rw [h4]
  refine wS v rfl (Step.move rfl) ?_
  refine wS (vI ↑a) rfl (Step.move rfl) ?_
  obtain ⟨cap6, hb5⟩ := SlAt.base (M.rep 0 rfl) (by omega)
  obtain ⟨kv7, M⟩ := pl_open M 0 1 rfl rfl rfl hp
  have sl8 : IsSl kv7 := SlAt.isSl (Mem.rep M 1 rfl)
  refine wS (vQ v a 3) rfl (sX a Try.un70 Try.el130 rfl rfl hb5) ?_
  refine wS (vQ v a 3) rfl sP ?_
  refine wS (vI p.depth) rfl (Step.loadE (k := 0) Try.sc3 (M.rep 0 rfl : EC _ _ _ _ _) (by decide) rfl rfl) ?_
  refine wS (vI q) rfl (Step.move rfl) ?_
  refine wS (vB ((p.depth : Int) != (q : Int))) rfl sP ?_
  refine wS (vB ((p.depth : Int) != (q : Int))) rfl (Step.pick (t := false) rfl rfl) ?_
  refine WL.nil ?_
  refine W.cond (t := (p.depth : Int) != (q : Int)) rfl (fun h9 => ?_) (fun h9 => ?_)
  ·
   have h9p : ¬ (p.depth : Int) = (q : Int) := by simpa using h9
   omega
  ·
   have h9p : (p.depth : Int) = (q : Int) := by simpa using h9
   refine W.skip ?_
   refine wR ?_
   refine wS v rfl (Step.move rfl) ?_
   refine wS (vI ↑a) rfl (Step.move rfl) ?_
   refine wS (vQ v a 3) rfl (sX a Try.un70 Try.el130 rfl rfl hb5) ?_
   refine wS (Value.agg #[(vI p.depth), (vB p.leaf), kv7]) rfl (Step.loadEN (k := 0) (cs' := [(vI p.depth), (vB p.leaf), kv7]) Try.ag130 (M.rep 0 rfl : EC _ _ _ _ _) (by decide) rfl rfl rfl) ?_
   refine WL.alloc (c := #[(vI 0), (vB false), vZ]) M rfl Try.el130.zero rfl (fun b10 w11 hb10 M => ?_)
   refine WL.store (v := (Value.agg #[(vI p.depth), (vB p.leaf), kv7])) (cs := [(vI p.depth), (vB p.leaf), kv7]) (c' := #[(vI p.depth), (vB p.leaf), kv7]) M 0 rfl rfl Try.el130.sized rfl rfl rfl rfl (Nat.le_of_ble_eq_true rfl) (cel_cons rfl (cel_cons rfl (cel_cons (IsSl.cel sl8) cel_nil))) rfl rfl (fun w12 M => ?_)
   refine WL.nil ?_
   refine W.seq' ?_
   refine wR ?_
   refine wS (Value.pointer (some ⟨b10, 1, none⟩)) rfl sP ?_
   refine wS (vB p.leaf) rfl (Step.load1 Try.sc4 rfl ((M.cell 0 rfl 1).trans rfl)) ?_
   refine WL.nil ?_
   refine W.cond (t := p.leaf) rfl (fun h13 => ?_) (fun h13 => ?_)
   ·
    have hd0_ : d = 0 := by rw [hpl] at h13; simpa using h13
    refine wR ?_
    refine wS (Value.pointer (some ⟨b10, 2, none⟩)) rfl sP ?_
    refine wS kv7 rfl (Step.load1 Try.sc22 rfl ((M.cell 0 rfl 2).trans rfl)) ?_
    refine wS (vI ↑a) rfl (Step.move rfl) ?_
    refine wS (vI (↑a + 1)) rfl (Step.add rfl rfl (wrap_i64 (by omega))) ?_
    refine wS kv7 rfl (Step.assign rfl) ?_
    refine wS (vI (↑a + 1)) rfl (Step.assign rfl) ?_
    refine wS (vB true) rfl (Step.assign rfl) ?_
    refine WL.nil ?_
    refine W.ret ?_
    refine ⟨.inl rfl, (Value.tuple #[kv7, (vI (↑a + 1)), (vB true)]), ?_, ?_⟩
    · exact ⟨rfl, (Res.r3 (show RV _ _ _ (.tmp 6) kv7 from by exact rfl) (show RV _ _ _ (.tmp 7) (vI (↑a + 1)) from by exact rfl) (show RV _ _ _ (.tmp 8) (vB true) from by exact rfl))⟩
    have e14 : (flatB d t).map THit.key = p.keys := by
     subst hd0_
     rw [hpk]; rfl
    have hf15 := Sh.reList e14 (M.shr' 1 rfl)
    refine ⟨kv7, ?_, M.close [] rfl (by decide) ⟨hf15, trivial⟩⟩
    subst hd0_
    simp [placesB]
   ·
    obtain ⟨e, he_⟩ : ∃ e, d = e + 1 := ⟨d - 1, by rw [hpl] at h13; simp at h13; omega⟩
    have hW1 := he_ ▸ hW
    have hts_ := (walk_ok hW1).2 (by omega)
    have hb1_ := hb
    rw [he_] at hb1_
    refine W.skip ?_
    refine wR ?_
    refine wS vZ rfl (Step.assign rfl) ?_
    refine WL.nil ?_
    refine wR ?_
    refine wS (vI ↑a) rfl (Step.move rfl) ?_
    refine wS (vI (↑(a + 1 + kidsAt e t.ts q 0))) rfl (Step.cast (congrArg (Value.int .i64) (show (↑a + 1 : Int) = ↑(a + 1 + kidsAt e t.ts q 0) by rw [kidsAt_zero]; omega)) (Step.add rfl rfl (wrap_i64 (by omega)))) ?_
    refine wS (vI (↑(a + 1 + kidsAt e t.ts q 0))) rfl (Step.assign rfl) ?_
    refine WL.nil ?_
    refine W.seq' ?_
    refine wR ?_
    refine wS (vI 0) rfl (Step.assign rfl) ?_
    refine WL.nil ?_
    refine W.block ?_
    replace M := M.ownNil 9 1
    replace M := M.rechunk 0 (c' := oS vZ ((partW (t.ts.map (flatB e)) t.ks 0).map THit.key)) rfl rfl
    refine W.loop (fun kk ρ w' => ∃ (i_ : Nat) (v_ : Value), ((i_ ≤ t.ks.length + 1) ∧ kk = t.ks.length + 1 - i_) ∧ ρ.has [(0, v), (1, (vI ↑a)), (2, (vI q)), (9, (vP b10)), (10, v_), (11, (vI (↑(a + 1 + kidsAt e t.ts q i_)))), (12, (vI ↑i_))] ∧ Mem G (fun _ => False) w [oS v_ ((partW (t.ts.map (flatB e)) t.ks i_).map THit.key), bk b10 #[(vI p.depth), (vB p.leaf), kv7] 130] [EC v 3 a [(vI p.depth), (vB p.leaf), kv7], fS kv7 p.keys, SlAt 3 v l.length cs3, RepL PlT cs3 l, RepS PlT v l]  w') _ ⟨0, _, ⟨(Nat.zero_le _), rfl⟩, ⟨rfl, rfl, rfl, rfl, rfl, rfl, rfl, rfl, rfl⟩, M⟩ ?_
    rintro _ ρ17 w16 ⟨i_, v_, ⟨hi18, rfl⟩, hρ, M⟩
    obtain ⟨ρ17, rfl⟩ := hρ.know
    clear hρ
    have sl19 : IsSl v_ := SlAt.isSl (own_slAt (M.chunk 0 rfl).inv)
    refine W.seq' ?_
    refine wR ?_
    refine wS (vI ↑i_) rfl (Step.move rfl) ?_
    refine wS (Value.pointer (some ⟨b10, 2, none⟩)) rfl sP ?_
    refine wS kv7 rfl (Step.load1 Try.sc22 rfl ((M.cell 1 rfl 2).trans rfl)) ?_
    refine wS (vI ↑p.keys.length) rfl (Step.lenSl Try.un22 rfl (M.rep 1 rfl)) ?_
    refine wS (vB (decide ((↑i_ : Int) ≤ (↑p.keys.length : Int)))) rfl sP ?_
    refine WL.nil ?_
    refine W.cond (t := decide ((↑i_ : Int) ≤ (↑p.keys.length : Int))) rfl (fun h20 => ?_) (fun h20 => ?_)
    ·
     have h20p := of_decide_eq_true h20
     refine W.skip ?_
     refine W.seq' ?_
     refine W.block ?_
     refine W.seq' ?_
     obtain ⟨c_, hc_⟩ := elem_of_lt (xs := t.ts) (i := i_) (by omega)
     have hW2 := walk_kid hW1 hc_
     have hrm_ := walk_room hW1.1 (by omega) hc_ hb1_
     refine W.region rfl ?_
     refine wS v rfl (Step.move rfl) ?_
     refine wS (vI (↑(a + 1 + kidsAt e t.ts q i_))) rfl (Step.move rfl) ?_
     refine wS (vI q) rfl (Step.move rfl) ?_
     refine wS (vI (q + 1)) rfl (Step.add rfl rfl (wrap_i64 (by omega))) ?_
     refine WL.callX rfl (ih e (by omega) v l (a + 1 + kidsAt e t.ts q i_) (q + 1) c_ hW2 (by omega) (by simp only [List.length_map] at hrm_; omega) (by omega) (M.enter0 ⟨(M.shr' 4 rfl), trivial⟩)) (CallsF.func Try.en68 rfl) ?_
     rintro _ w22 ⟨v21, rfl, m⟩
     replace M := M.leave0 m
     clear m
     have sl23 : IsSl v21 := SlAt.isSl (Mem.rep M 0 rfl)
     have hle24 := SlAt.le' (M.rep 0 rfl)
     refine wS (Value.tuple #[v21, (vI (↑((a + 1 + kidsAt e t.ts q i_) + (placesB e c_ (q + 1)).length))), (vB true)]) rfl (Step.move rfl) ?_
     refine wS v21 rfl sP ?_
     refine wS (vI (↑(a + 1 + kidsAt e t.ts q (i_ + 1)))) rfl (Step.cast (congrArg (Value.int .i64) (show (↑((a + 1 + kidsAt e t.ts q i_) + (placesB e c_ (q + 1)).length) : Int) = ↑(a + 1 + kidsAt e t.ts q (i_ + 1)) by rw [kidsAt_succ hc_]; omega)) sP) ?_
     refine wS (vB true) rfl sP ?_
     refine wS v21 rfl (Step.assign rfl) ?_
     refine wS (vI (↑(a + 1 + kidsAt e t.ts q (i_ + 1)))) rfl (Step.assign rfl) ?_
     refine wS (vB true) rfl (Step.assign rfl) ?_
     refine WL.nil ?_
     refine W.seq' ?_
     refine wR ?_
     refine wS (vB true) rfl (Step.move rfl) ?_
     refine wS (vB false) rfl sP ?_
     refine WL.nil ?_
     refine W.cond (t := false) rfl (fun h => by cases h) (fun _ => ?_)
     refine W.skip ?_
     refine wR ?_
     refine wS v_ rfl (Step.move rfl) ?_
     refine wS v21 rfl (Step.move rfl) ?_
     refine WL.does rfl (M.appendF ((partW (t.ts.map (flatB e)) t.ks i_).map THit.key) ((flatB e c_).map THit.key) (sv := v21) 0 Try.un22 Try.el9 rfl (by decide) rfl rfl rfl (M.rep 0 rfl) strE_cel (by have := hrm_; simp only [maxLen, List.length_nil, List.length_cons, List.length_append]; omega) (by have := hrm_; (try simp only [List.length_nil, List.length_cons, List.length_append]); omega)) ?_
     rintro v25 w26 M
     have sl27 : IsSl v25 := SlAt.isSl (own_slAt (M.chunk 0 rfl).inv)
     refine wS v25 rfl (Step.assign rfl) ?_
     refine WL.nil ?_
     refine W.seq' ?_
     refine wR ?_
     refine wS (vI ↑i_) rfl (Step.move rfl) ?_
     refine wS (Value.pointer (some ⟨b10, 2, none⟩)) rfl sP ?_
     refine wS kv7 rfl (Step.load1 Try.sc22 rfl ((M.cell 1 rfl 2).trans rfl)) ?_
     refine wS (vI ↑p.keys.length) rfl (Step.lenSl Try.un22 rfl (M.rep 2 rfl)) ?_
     refine wS (vB (decide ((↑i_ : Int) < (↑p.keys.length : Int)))) rfl sP ?_
     refine WL.nil ?_
     refine W.cond (t := decide ((↑i_ : Int) < (↑p.keys.length : Int))) rfl (fun h28 => ?_) (fun h28 => ?_)
     ·
      have h28p := of_decide_eq_true h28
      refine W.region rfl ?_
      refine wS v25 rfl (Step.move rfl) ?_
      refine wS (Value.pointer (some ⟨b10, 2, none⟩)) rfl sP ?_
      refine wS kv7 rfl (Step.load1 Try.sc22 rfl ((M.cell 1 rfl 2).trans rfl)) ?_
      refine wS (vI ↑i_) rfl (Step.move rfl) ?_
      obtain ⟨cap30, hb29⟩ := SlAt.base (M.rep 2 rfl) (by omega)
      obtain ⟨x31, hx31⟩ := elem_of_lt (xs := p.keys) (i := i_) (by omega)
      refine wS (vQ kv7 i_ 1) rfl (sX i_ Try.un22 Try.el9 rfl rfl hb29) ?_
      refine wS (vS x31) rfl (Step.loadE (k := 0) Try.sc9 (flat_ec (M.rep 2 rfl) hx31 strE_len) (by decide) rfl rfl) ?_
      refine WL.new (obj := .cells #[(vS x31)] 9) (fun b => .slice (some ⟨b, 0, none⟩) 1 1) M rfl (fun w => Step.make (by kernel_rfl)) (fun b32 w33 hb32 M => ?_)
      refine WL.does rfl (M.appendF (((partW (t.ts.map (flatB e)) t.ks i_).map THit.key) ++ ((flatB e c_).map THit.key)) ([x31] : List ByteArray) (sv := (Value.slice (some ⟨b32, 0, none⟩) 1 1)) 1 Try.un22 Try.el9 rfl (by decide) rfl rfl rfl (SlAt.of_blk (M.blk 0 rfl) rfl (by decide)) strE_cel (by have := hrm_; simp only [maxLen, List.length_nil, List.length_cons, List.length_append]; omega) (by have := hrm_; (try simp only [List.length_nil, List.length_cons, List.length_append]); omega)) ?_
      rintro v34 w35 M
      have sl36 : IsSl v34 := SlAt.isSl (own_slAt (M.chunk 1 rfl).inv)
      refine wS v34 rfl (Step.assign rfl) ?_
      refine WL.nil ?_
      refine W.region rfl ?_
      refine wS (vI (↑(a + 1 + kidsAt e t.ts q (i_ + 1)))) rfl (Step.move rfl) ?_
      refine wS (vI (↑(a + 1 + kidsAt e t.ts q (i_ + 1)))) rfl (Step.assign rfl) ?_
      refine WL.nil ?_
      refine W.region rfl ?_
      refine wS (vI ↑i_) rfl (Step.move rfl) ?_
      refine wS (vI (↑i_ + 1)) rfl (Step.add rfl rfl (wrap_i64 (by omega))) ?_
      refine wS (vI (↑i_ + 1)) rfl (Step.assign rfl) ?_
      refine WL.nil ?_
      replace M := M.rechunk 1 (c' := oS v34 ((partW (t.ts.map (flatB e)) t.ks (i_ + 1)).map THit.key)) rfl (by rw [walk_hit hpk hx31 hc_])
      replace M := M.sel (L' := [oS v34 ((partW (t.ts.map (flatB e)) t.ks (i_ + 1)).map THit.key), bk b10 #[(vI p.depth), (vB p.leaf), kv7] 130]) [1, 2] rfl (by decide)
      replace M := M.sub (List.Sublist.refl _) (R' := [EC v 3 a [(vI p.depth), (vB p.leaf), kv7], fS kv7 p.keys, SlAt 3 v l.length cs3, RepL PlT cs3 l, RepS PlT v l]) (fun r h => (List.mem_cons_of_mem _ h))
      exact ⟨_, (by omega), i_ + 1, v34, ⟨(by omega), rfl⟩, ⟨rfl, rfl, rfl, rfl, rfl, rfl, rfl, rfl, rfl⟩, M⟩
     ·
      have h28p := of_decide_eq_false h28
      refine W.skip ?_
      refine W.region rfl ?_
      refine wS (vI (↑(a + 1 + kidsAt e t.ts q (i_ + 1)))) rfl (Step.move rfl) ?_
      refine wS (vI (↑(a + 1 + kidsAt e t.ts q (i_ + 1)))) rfl (Step.assign rfl) ?_
      refine WL.nil ?_
      refine W.region rfl ?_
      refine wS (vI ↑i_) rfl (Step.move rfl) ?_
      refine wS (vI (↑i_ + 1)) rfl (Step.add rfl rfl (wrap_i64 (by omega))) ?_
      refine wS (vI (↑i_ + 1)) rfl (Step.assign rfl) ?_
      refine WL.nil ?_
      replace M := M.rechunk 0 (c' := oS v25 ((partW (t.ts.map (flatB e)) t.ks (i_ + 1)).map THit.key)) rfl (by rw [walk_end (by omega) hc_])
      replace M := M.sub (List.Sublist.refl _) (R' := [EC v 3 a [(vI p.depth), (vB p.leaf), kv7], fS kv7 p.keys, SlAt 3 v l.length cs3, RepL PlT cs3 l, RepS PlT v l]) (fun r h => (List.mem_cons_of_mem _ h))
      exact ⟨_, (by omega), i_ + 1, v25, ⟨(by omega), rfl⟩, ⟨rfl, rfl, rfl, rfl, rfl, rfl, rfl, rfl, rfl⟩, M⟩
    ·
     have h20p := of_decide_eq_false h20
     refine W.exit ?_
     refine thn_exit ?_
     refine thn_exit ?_
     refine inBlk_hit ?_
     refine wR ?_
     refine wS v_ rfl (Step.move rfl) ?_
     refine wS (vI (↑(a + 1 + kidsAt e t.ts q i_))) rfl (Step.move rfl) ?_
     refine wS v_ rfl (Step.assign rfl) ?_
     refine wS (vI (↑(a + 1 + kidsAt e t.ts q i_))) rfl (Step.assign rfl) ?_
     refine wS (vB true) rfl (Step.assign rfl) ?_
     refine WL.nil ?_
     refine W.ret ?_
     refine ⟨.inl rfl, (Value.tuple #[v_, (vI (↑(a + 1 + kidsAt e t.ts q i_))), (vB true)]), ?_, ?_⟩
     · exact ⟨rfl, (Res.r3 (show RV _ _ _ (.tmp 6) v_ from by exact rfl) (show RV _ _ _ (.tmp 7) (vI (↑(a + 1 + kidsAt e t.ts q i_))) from by exact rfl) (show RV _ _ _ (.tmp 8) (vB true) from by exact rfl))⟩
     replace M := M.shareOwn 0 rfl
     have e37 : (flatB d t).map THit.key = (partW (t.ts.map (flatB e)) t.ks i_).map THit.key := by
      rw [he_, ← flatB_keys hW1.1, show t.ks.length + 1 = i_ by omega]
     have hf38 := Sh.reList e37 (M.shr' 0 rfl)
     refine ⟨v_, ?_, M.close [] rfl (by decide) ⟨hf38, trivial⟩⟩
     rw [show a + (placesB d t q).length = a + 1 + kidsAt e t.ts q i_ by rw [he_, ← kidsAt_all, show t.ts.length = i_ by omega]; omega]
end Go.Proofs
set_option maxRecDepth 100000
namespace Go.Proofs
open Go Tp
theorem r_right {G : Nat → Prop} {w : World} (v : Value) (l : List TPl) (u : Value) (ks : List ByteArray)  (row : List THit) (D : Nat) (hP : PlcOk row l D) (hk : ks = row.map THit.key) (hu : upT row) (hrl : row.length ≤ 400000) (hlb : l.length ≤ 1000000) (M : Mem G (fun _ => False) w [] [RepS PlT v l, fS u ks] w) : Rets Try.prog 34 #[v, u] w fun r w' => r = (vB true) ∧ Mem G (fun _ => False) w [] [] w' := by
 refine Rets.enter 133 _ Try.func34 rfl Try.ntmps34 Try.results34 (by simp) ?_
 have hle1 := RepS.le' (M.rep 0 rfl)
 have hle2 := SlAt.le' (M.rep 1 rfl)
 have sl3 : IsSl v := RepS.isSl (Mem.rep M 0 rfl)
 have sl4 : IsSl u := SlAt.isSl (Mem.rep M 1 rfl)
 have hbo_ := plc_both hP hk
 obtain ⟨cs5, M⟩ := M.openS 0 rfl
 refine wR ?_
 refine wS (vB false) rfl (Step.assign rfl) ?_
 refine WL.nil ?_
 refine W.seq' ?_
 refine wR ?_
 refine wS v rfl (Step.move rfl) ?_
 refine wS (vI ↑l.length) rfl (Step.lenSl Try.un70 rfl (M.rep 0 rfl)) ?_
 refine wS (vB ((↑l.length : Int) == (0 : Int))) rfl sP ?_
 refine wS (vB ((↑l.length : Int) == (0 : Int))) rfl (Step.move rfl) ?_
 rcases Bool.eq_false_or_eq_true ((↑l.length : Int) == (0 : Int)) with h6 | h6
 ·
  have h6p : (↑l.length : Int) = (0 : Int) := by simpa using h6
  rw [h6]
  refine WL.pass rfl ?_
  refine WL.pass rfl ?_
  refine WL.pass rfl ?_
  refine wS (vB true) rfl (Step.pick (t := true) rfl rfl) ?_
  refine WL.nil ?_
  refine W.cond (t := true) rfl (fun _ => ?_) (fun h => by cases h)
  refine wR ?_
  refine wS v rfl (Step.move rfl) ?_
  refine wS (vI ↑l.length) rfl (Step.lenSl Try.un70 rfl (M.rep 0 rfl)) ?_
  refine wS u rfl (Step.move rfl) ?_
  refine wS (vI ↑ks.length) rfl (Step.lenSl Try.un22 rfl (M.rep 3 rfl)) ?_
  refine wS (vB ((↑l.length : Int) == (↑ks.length : Int))) rfl sP ?_
  refine wS (vB ((↑l.length : Int) == (↑ks.length : Int))) rfl (Step.assign rfl) ?_
  refine WL.nil ?_
  refine W.ret ?_
  refine ⟨.inl rfl, (vB ((↑l.length : Int) == (↑ks.length : Int))), ?_, ?_⟩
  · exact ⟨rfl, (Res.r1 (show RV _ _ _ (.tmp 4) (vB ((↑l.length : Int) == (↑ks.length : Int))) from by exact rfl))⟩
  refine ⟨?_, M.close [] rfl (by decide) trivial⟩
  have := hbo_.1 (by omega)
  simp; omega
 ·
  have h6p : ¬ (↑l.length : Int) = (0 : Int) := by simpa using h6
  rw [h6]
  refine wS u rfl (Step.move rfl) ?_
  refine wS (vI ↑ks.length) rfl (Step.lenSl Try.un22 rfl (M.rep 3 rfl)) ?_
  refine wS (vB ((↑ks.length : Int) == (0 : Int))) rfl sP ?_
  refine wS (vB ((↑ks.length : Int) == (0 : Int))) rfl (Step.pick (t := false) rfl rfl) ?_
  refine WL.nil ?_
  refine W.cond (t := (↑ks.length : Int) == (0 : Int)) rfl (fun h7 => ?_) (fun h7 => ?_)
  ·
   have h7p : (↑ks.length : Int) = (0 : Int) := by simpa using h7
   have := hbo_.2 (by omega); omega
  ·
   have h7p : ¬ (↑ks.length : Int) = (0 : Int) := by simpa using h7
   refine W.skip ?_
   refine wR ?_
   refine wS (vI 0) rfl (Step.assign rfl) ?_
   refine WL.nil ?_
   refine W.seq' ?_
   refine wR ?_
   refine wS (vI 0) rfl (Step.assign rfl) ?_
   refine WL.nil ?_
   refine W.block ?_
   refine W.loop (fun kk ρ w' => ∃ (i_ : Nat) (D_ : Int), ((i_ ≤ l.length) ∧ (D_ = 0 ∨ D_ = (D : Int)) ∧ kk = l.length - i_) ∧ ρ.has [(0, v), (1, u), (5, (vI D_)), (6, (vI ↑i_))] ∧ Mem G (fun _ => False) w [] [SlAt 3 v l.length cs5, RepL PlT cs5 l, RepS PlT v l, fS u ks]  w') _ ⟨0, 0, ⟨(Nat.zero_le _), (.inl rfl), rfl⟩, ⟨rfl, rfl, rfl, rfl, rfl, rfl⟩, M⟩ ?_
   rintro _ ρ9 w8 ⟨i_, D_, ⟨hi10, hi11, rfl⟩, hρ, M⟩
   obtain ⟨ρ9, rfl⟩ := hρ.know
   clear hρ
   have hdp_ : D_ = 0 ∨ D_ = (D : Int) := hi11
   refine W.seq' ?_
   refine wR ?_
   refine wS (vI ↑i_) rfl (Step.move rfl) ?_
   refine wS v rfl (Step.move rfl) ?_
   refine wS (vI ↑l.length) rfl (Step.lenSl Try.un70 rfl (M.rep 0 rfl)) ?_
   refine wS (vB (decide ((↑i_ : Int) < (↑l.length : Int)))) rfl sP ?_
   refine WL.nil ?_
   refine W.cond (t := decide ((↑i_ : Int) < (↑l.length : Int))) rfl (fun h12 => ?_) (fun h12 => ?_)
   ·
    have h12p := of_decide_eq_true h12
    refine W.skip ?_
    refine W.seq' ?_
    refine W.block ?_
    refine wR ?_
    refine wS v rfl (Step.move rfl) ?_
    refine wS (vI ↑i_) rfl (Step.move rfl) ?_
    obtain ⟨cap14, hb13⟩ := SlAt.base (M.rep 0 rfl) (by omega)
    obtain ⟨p15, hp15⟩ := elem_of_lt (xs := l) (i := i_) (by omega)
    obtain ⟨kv16, M⟩ := pl_open M 0 1 rfl rfl rfl hp15
    have sl17 : IsSl kv16 := SlAt.isSl (Mem.rep M 1 rfl)
    obtain ⟨hk1_, hk4_, hk2_⟩ := hP.keys _ _ hp15
    refine wS (vQ v i_ 3) rfl (sX i_ Try.un70 Try.el130 rfl rfl hb13) ?_
    refine wS (vR v i_ 3 2) rfl sP ?_
    refine wS kv16 rfl (Step.loadE (k := 2) Try.sc22 (M.rep 0 rfl : EC _ _ _ _ _) (by decide) rfl rfl) ?_
    refine wS (vI ↑p15.keys.length) rfl (Step.lenSl Try.un22 rfl (M.rep 1 rfl)) ?_
    refine wS (vI ↑p15.keys.length) rfl (Step.assign rfl) ?_
    refine WL.nil ?_
    refine W.seq' ?_
    refine wR ?_
    refine wS (vI ↑p15.keys.length) rfl (Step.move rfl) ?_
    refine wS (vB (decide ((↑p15.keys.length : Int) > (4 : Int)))) rfl sP ?_
    refine wS (vB (decide ((↑p15.keys.length : Int) > (4 : Int)))) rfl (Step.move rfl) ?_
    rcases Bool.eq_false_or_eq_true (decide ((↑p15.keys.length : Int) > (4 : Int))) with h18 | h18
    ·
     have h18p := of_decide_eq_true h18
     omega
    ·
     have h18p := of_decide_eq_false h18
     rw [h18]
     refine wS (vI ↑p15.keys.length) rfl (Step.move rfl) ?_
     refine wS (vB (decide ((↑p15.keys.length : Int) < (1 : Int)))) rfl sP ?_
     refine wS (vB (decide ((↑p15.keys.length : Int) < (1 : Int)))) rfl (Step.pick (t := false) rfl rfl) ?_
     refine wS (vB (decide ((↑p15.keys.length : Int) < (1 : Int)))) rfl (Step.move rfl) ?_
     rcases Bool.eq_false_or_eq_true (decide ((↑p15.keys.length : Int) < (1 : Int))) with h19 | h19
     ·
      have h19p := of_decide_eq_true h19
      omega
     ·
      have h19p := of_decide_eq_false h19
      rw [h19]
      refine wS (vI ↑p15.keys.length) rfl (Step.move rfl) ?_
      refine wS (vB (decide ((↑p15.keys.length : Int) < (2 : Int)))) rfl sP ?_
      refine wS (vB (decide ((↑p15.keys.length : Int) < (2 : Int)))) rfl (Step.move rfl) ?_
      rcases Bool.eq_false_or_eq_true (decide ((↑p15.keys.length : Int) < (2 : Int))) with h20 | h20
      ·
       have h20p := of_decide_eq_true h20
       rw [h20]
       refine wS (vI ↑i_) rfl (Step.move rfl) ?_
       refine wS (vB (decide ((↑i_ : Int) > (0 : Int)))) rfl sP ?_
       refine wS (vB (decide ((↑i_ : Int) > (0 : Int)))) rfl (Step.pick (t := true) rfl rfl) ?_
       refine wS (vB (decide ((↑i_ : Int) > (0 : Int)))) rfl (Step.pick (t := false) rfl rfl) ?_
       refine wS (vB (decide ((↑i_ : Int) > (0 : Int)))) rfl (Step.move rfl) ?_
       rcases Bool.eq_false_or_eq_true (decide ((↑i_ : Int) > (0 : Int))) with h21 | h21
       ·
        have h21p := of_decide_eq_true h21
        omega
       ·
        have h21p := of_decide_eq_false h21
        rw [h21]
        refine wS v rfl (Step.move rfl) ?_
        refine wS (vI ↑i_) rfl (Step.move rfl) ?_
        refine wS (vQ v i_ 3) rfl (sX i_ Try.un70 Try.el130 rfl rfl hb13) ?_
        refine wS (vR v i_ 3 1) rfl sP ?_
        refine wS (vB p15.leaf) rfl (Step.loadE (k := 1) Try.sc4 (M.rep 0 rfl : EC _ _ _ _ _) (by decide) rfl rfl) ?_
        refine wS (vB p15.leaf) rfl (Step.move rfl) ?_
        rcases Bool.eq_false_or_eq_true (p15.leaf) with h22 | h22
        ·
         rw [h22]
         refine wS (vI D_) rfl (Step.move rfl) ?_
         refine wS (vB (decide ((D_ : Int) > (0 : Int)))) rfl sP ?_
         refine wS (vB (decide ((D_ : Int) > (0 : Int)))) rfl (Step.pick (t := true) rfl rfl) ?_
         refine wS (vB (decide ((D_ : Int) > (0 : Int)))) rfl (Step.move rfl) ?_
         rcases Bool.eq_false_or_eq_true (decide ((D_ : Int) > (0 : Int))) with h23 | h23
         ·
          have h23p := of_decide_eq_true h23
          rw [h23]
          refine wS v rfl (Step.move rfl) ?_
          refine wS (vI ↑i_) rfl (Step.move rfl) ?_
          refine wS (vQ v i_ 3) rfl (sX i_ Try.un70 Try.el130 rfl rfl hb13) ?_
          refine wS (vQ v i_ 3) rfl sP ?_
          refine wS (vI p15.depth) rfl (Step.loadE (k := 0) Try.sc3 (M.rep 0 rfl : EC _ _ _ _ _) (by decide) rfl rfl) ?_
          refine wS (vI D_) rfl (Step.move rfl) ?_
          refine wS (vB ((p15.depth : Int) != (D_ : Int))) rfl sP ?_
          refine wS (vB ((p15.depth : Int) != (D_ : Int))) rfl (Step.pick (t := true) rfl rfl) ?_
          refine wS (vB ((p15.depth : Int) != (D_ : Int))) rfl (Step.pick (t := false) rfl rfl) ?_
          refine WL.nil ?_
          refine W.cond (t := (p15.depth : Int) != (D_ : Int)) rfl (fun h24 => ?_) (fun h24 => ?_)
          ·
           have h24p : ¬ (p15.depth : Int) = (D_ : Int) := by simpa using h24
           have hlf_ := hP.leaf _ (List.mem_of_getElem? hp15) h22
           omega
          ·
           have h24p : (p15.depth : Int) = (D_ : Int) := by simpa using h24
           refine W.skip ?_
           refine wR ?_
           refine wS v rfl (Step.move rfl) ?_
           refine wS (vI ↑i_) rfl (Step.move rfl) ?_
           refine wS (vQ v i_ 3) rfl (sX i_ Try.un70 Try.el130 rfl rfl hb13) ?_
           refine wS (vR v i_ 3 1) rfl sP ?_
           refine wS (vB true) rfl (Step.cast (congrArg Value.bool h22) (Step.loadE (k := 1) Try.sc4 (M.rep 0 rfl : EC _ _ _ _ _) (by decide) rfl rfl)) ?_
           refine WL.nil ?_
           refine W.cond (t := true) rfl (fun _ => ?_) (fun h => by cases h)
           refine W.region rfl ?_
           refine wS v rfl (Step.move rfl) ?_
           refine wS (vI ↑i_) rfl (Step.move rfl) ?_
           refine wS (vQ v i_ 3) rfl (sX i_ Try.un70 Try.el130 rfl rfl hb13) ?_
           refine wS (vQ v i_ 3) rfl sP ?_
           refine wS (vI p15.depth) rfl (Step.loadE (k := 0) Try.sc3 (M.rep 0 rfl : EC _ _ _ _ _) (by decide) rfl rfl) ?_
           refine wS (vI p15.depth) rfl (Step.assign rfl) ?_
           refine WL.nil ?_
           refine W.region rfl ?_
           refine wS (vI ↑i_) rfl (Step.move rfl) ?_
           refine wS (vI (↑i_ + 1)) rfl (Step.add rfl rfl (wrap_i64 (by omega))) ?_
           refine wS (vI (↑i_ + 1)) rfl (Step.assign rfl) ?_
           refine WL.nil ?_
           replace M := M.sub (List.Sublist.refl _) (R' := [SlAt 3 v l.length cs5, RepL PlT cs5 l, RepS PlT v l, fS u ks]) (fun r h => (List.mem_cons_of_mem _ (List.mem_cons_of_mem _ h)))
           exact ⟨_, (by omega), i_ + 1, p15.depth, ⟨(by omega), (.inr (hP.leaf _ (List.mem_of_getElem? hp15) h22)), rfl⟩, ⟨rfl, rfl, rfl, rfl, rfl, rfl⟩, M⟩
         ·
          have h23p := of_decide_eq_false h23
          rw [h23]
          refine WL.pass rfl ?_
          refine WL.pass rfl ?_
          refine WL.pass rfl ?_
          refine WL.pass rfl ?_
          refine WL.pass rfl ?_
          refine WL.pass rfl ?_
          refine WL.pass rfl ?_
          refine wS (vB false) rfl (Step.pick (t := false) rfl rfl) ?_
          refine wS (vB false) rfl (Step.pick (t := false) rfl rfl) ?_
          refine WL.nil ?_
          refine W.cond (t := false) rfl (fun h => by cases h) (fun _ => ?_)
          refine W.skip ?_
          refine wR ?_
          refine wS v rfl (Step.move rfl) ?_
          refine wS (vI ↑i_) rfl (Step.move rfl) ?_
          refine wS (vQ v i_ 3) rfl (sX i_ Try.un70 Try.el130 rfl rfl hb13) ?_
          refine wS (vR v i_ 3 1) rfl sP ?_
          refine wS (vB true) rfl (Step.cast (congrArg Value.bool h22) (Step.loadE (k := 1) Try.sc4 (M.rep 0 rfl : EC _ _ _ _ _) (by decide) rfl rfl)) ?_
          refine WL.nil ?_
          refine W.cond (t := true) rfl (fun _ => ?_) (fun h => by cases h)
          refine W.region rfl ?_
          refine wS v rfl (Step.move rfl) ?_
          refine wS (vI ↑i_) rfl (Step.move rfl) ?_
          refine wS (vQ v i_ 3) rfl (sX i_ Try.un70 Try.el130 rfl rfl hb13) ?_
          refine wS (vQ v i_ 3) rfl sP ?_
          refine wS (vI p15.depth) rfl (Step.loadE (k := 0) Try.sc3 (M.rep 0 rfl : EC _ _ _ _ _) (by decide) rfl rfl) ?_
          refine wS (vI p15.depth) rfl (Step.assign rfl) ?_
          refine WL.nil ?_
          refine W.region rfl ?_
          refine wS (vI ↑i_) rfl (Step.move rfl) ?_
          refine wS (vI (↑i_ + 1)) rfl (Step.add rfl rfl (wrap_i64 (by omega))) ?_
          refine wS (vI (↑i_ + 1)) rfl (Step.assign rfl) ?_
          refine WL.nil ?_
          replace M := M.sub (List.Sublist.refl _) (R' := [SlAt 3 v l.length cs5, RepL PlT cs5 l, RepS PlT v l, fS u ks]) (fun r h => (List.mem_cons_of_mem _ (List.mem_cons_of_mem _ h)))
          exact ⟨_, (by omega), i_ + 1, p15.depth, ⟨(by omega), (.inr (hP.leaf _ (List.mem_of_getElem? hp15) h22)), rfl⟩, ⟨rfl, rfl, rfl, rfl, rfl, rfl⟩, M⟩
        ·
         rw [h22]
         refine WL.pass rfl ?_
         refine WL.pass rfl ?_
         refine wS (vB false) rfl (Step.pick (t := false) rfl rfl) ?_
         refine wS (vB false) rfl (Step.move rfl) ?_
         refine WL.pass rfl ?_
         refine WL.pass rfl ?_
         refine WL.pass rfl ?_
         refine WL.pass rfl ?_
         refine WL.pass rfl ?_
         refine WL.pass rfl ?_
         refine WL.pass rfl ?_
         refine wS (vB false) rfl (Step.pick (t := false) rfl rfl) ?_
         refine wS (vB false) rfl (Step.pick (t := false) rfl rfl) ?_
         refine WL.nil ?_
         refine W.cond (t := false) rfl (fun h => by cases h) (fun _ => ?_)
         refine W.skip ?_
         refine wR ?_
         refine wS v rfl (Step.move rfl) ?_
         refine wS (vI ↑i_) rfl (Step.move rfl) ?_
         refine wS (vQ v i_ 3) rfl (sX i_ Try.un70 Try.el130 rfl rfl hb13) ?_
         refine wS (vR v i_ 3 1) rfl sP ?_
         refine wS (vB false) rfl (Step.cast (congrArg Value.bool h22) (Step.loadE (k := 1) Try.sc4 (M.rep 0 rfl : EC _ _ _ _ _) (by decide) rfl rfl)) ?_
         refine WL.nil ?_
         refine W.cond (t := false) rfl (fun h => by cases h) (fun _ => ?_)
         refine W.skip ?_
         refine W.region rfl ?_
         refine wS (vI ↑i_) rfl (Step.move rfl) ?_
         refine wS (vI (↑i_ + 1)) rfl (Step.add rfl rfl (wrap_i64 (by omega))) ?_
         refine wS (vI (↑i_ + 1)) rfl (Step.assign rfl) ?_
         refine WL.nil ?_
         replace M := M.sub (List.Sublist.refl _) (R' := [SlAt 3 v l.length cs5, RepL PlT cs5 l, RepS PlT v l, fS u ks]) (fun r h => (List.mem_cons_of_mem _ (List.mem_cons_of_mem _ h)))
         exact ⟨_, (by omega), i_ + 1, D_, ⟨(by omega), hdp_, rfl⟩, ⟨rfl, rfl, rfl, rfl, rfl, rfl⟩, M⟩
      ·
       have h20p := of_decide_eq_false h20
       rw [h20]
       refine WL.pass rfl ?_
       refine WL.pass rfl ?_
       refine wS (vB false) rfl (Step.pick (t := false) rfl rfl) ?_
       refine wS (vB false) rfl (Step.pick (t := false) rfl rfl) ?_
       refine wS (vB false) rfl (Step.move rfl) ?_
       refine wS v rfl (Step.move rfl) ?_
       refine wS (vI ↑i_) rfl (Step.move rfl) ?_
       refine wS (vQ v i_ 3) rfl (sX i_ Try.un70 Try.el130 rfl rfl hb13) ?_
       refine wS (vR v i_ 3 1) rfl sP ?_
       refine wS (vB p15.leaf) rfl (Step.loadE (k := 1) Try.sc4 (M.rep 0 rfl : EC _ _ _ _ _) (by decide) rfl rfl) ?_
       refine wS (vB p15.leaf) rfl (Step.move rfl) ?_
       rcases Bool.eq_false_or_eq_true (p15.leaf) with h25 | h25
       ·
        rw [h25]
        refine wS (vI D_) rfl (Step.move rfl) ?_
        refine wS (vB (decide ((D_ : Int) > (0 : Int)))) rfl sP ?_
        refine wS (vB (decide ((D_ : Int) > (0 : Int)))) rfl (Step.pick (t := true) rfl rfl) ?_
        refine wS (vB (decide ((D_ : Int) > (0 : Int)))) rfl (Step.move rfl) ?_
        rcases Bool.eq_false_or_eq_true (decide ((D_ : Int) > (0 : Int))) with h26 | h26
        ·
         have h26p := of_decide_eq_true h26
         rw [h26]
         refine wS v rfl (Step.move rfl) ?_
         refine wS (vI ↑i_) rfl (Step.move rfl) ?_
         refine wS (vQ v i_ 3) rfl (sX i_ Try.un70 Try.el130 rfl rfl hb13) ?_
         refine wS (vQ v i_ 3) rfl sP ?_
         refine wS (vI p15.depth) rfl (Step.loadE (k := 0) Try.sc3 (M.rep 0 rfl : EC _ _ _ _ _) (by decide) rfl rfl) ?_
         refine wS (vI D_) rfl (Step.move rfl) ?_
         refine wS (vB ((p15.depth : Int) != (D_ : Int))) rfl sP ?_
         refine wS (vB ((p15.depth : Int) != (D_ : Int))) rfl (Step.pick (t := true) rfl rfl) ?_
         refine wS (vB ((p15.depth : Int) != (D_ : Int))) rfl (Step.pick (t := false) rfl rfl) ?_
         refine WL.nil ?_
         refine W.cond (t := (p15.depth : Int) != (D_ : Int)) rfl (fun h27 => ?_) (fun h27 => ?_)
         ·
          have h27p : ¬ (p15.depth : Int) = (D_ : Int) := by simpa using h27
          have hlf_ := hP.leaf _ (List.mem_of_getElem? hp15) h25
          omega
         ·
          have h27p : (p15.depth : Int) = (D_ : Int) := by simpa using h27
          refine W.skip ?_
          refine wR ?_
          refine wS v rfl (Step.move rfl) ?_
          refine wS (vI ↑i_) rfl (Step.move rfl) ?_
          refine wS (vQ v i_ 3) rfl (sX i_ Try.un70 Try.el130 rfl rfl hb13) ?_
          refine wS (vR v i_ 3 1) rfl sP ?_
          refine wS (vB true) rfl (Step.cast (congrArg Value.bool h25) (Step.loadE (k := 1) Try.sc4 (M.rep 0 rfl : EC _ _ _ _ _) (by decide) rfl rfl)) ?_
          refine WL.nil ?_
          refine W.cond (t := true) rfl (fun _ => ?_) (fun h => by cases h)
          refine W.region rfl ?_
          refine wS v rfl (Step.move rfl) ?_
          refine wS (vI ↑i_) rfl (Step.move rfl) ?_
          refine wS (vQ v i_ 3) rfl (sX i_ Try.un70 Try.el130 rfl rfl hb13) ?_
          refine wS (vQ v i_ 3) rfl sP ?_
          refine wS (vI p15.depth) rfl (Step.loadE (k := 0) Try.sc3 (M.rep 0 rfl : EC _ _ _ _ _) (by decide) rfl rfl) ?_
          refine wS (vI p15.depth) rfl (Step.assign rfl) ?_
          refine WL.nil ?_
          refine W.region rfl ?_
          refine wS (vI ↑i_) rfl (Step.move rfl) ?_
          refine wS (vI (↑i_ + 1)) rfl (Step.add rfl rfl (wrap_i64 (by omega))) ?_
          refine wS (vI (↑i_ + 1)) rfl (Step.assign rfl) ?_
          refine WL.nil ?_
          replace M := M.sub (List.Sublist.refl _) (R' := [SlAt 3 v l.length cs5, RepL PlT cs5 l, RepS PlT v l, fS u ks]) (fun r h => (List.mem_cons_of_mem _ (List.mem_cons_of_mem _ h)))
          exact ⟨_, (by omega), i_ + 1, p15.depth, ⟨(by omega), (.inr (hP.leaf _ (List.mem_of_getElem? hp15) h25)), rfl⟩, ⟨rfl, rfl, rfl, rfl, rfl, rfl⟩, M⟩
        ·
         have h26p := of_decide_eq_false h26
         rw [h26]
         refine WL.pass rfl ?_
         refine WL.pass rfl ?_
         refine WL.pass rfl ?_
         refine WL.pass rfl ?_
         refine WL.pass rfl ?_
         refine WL.pass rfl ?_
         refine WL.pass rfl ?_
         refine wS (vB false) rfl (Step.pick (t := false) rfl rfl) ?_
         refine wS (vB false) rfl (Step.pick (t := false) rfl rfl) ?_
         refine WL.nil ?_
         refine W.cond (t := false) rfl (fun h => by cases h) (fun _ => ?_)
         refine W.skip ?_
         refine wR ?_
         refine wS v rfl (Step.move rfl) ?_
         refine wS (vI ↑i_) rfl (Step.move rfl) ?_
         refine wS (vQ v i_ 3) rfl (sX i_ Try.un70 Try.el130 rfl rfl hb13) ?_
         refine wS (vR v i_ 3 1) rfl sP ?_
         refine wS (vB true) rfl (Step.cast (congrArg Value.bool h25) (Step.loadE (k := 1) Try.sc4 (M.rep 0 rfl : EC _ _ _ _ _) (by decide) rfl rfl)) ?_
         refine WL.nil ?_
         refine W.cond (t := true) rfl (fun _ => ?_) (fun h => by cases h)
         refine W.region rfl ?_
         refine wS v rfl (Step.move rfl) ?_
         refine wS (vI ↑i_) rfl (Step.move rfl) ?_
         refine wS (vQ v i_ 3) rfl (sX i_ Try.un70 Try.el130 rfl rfl hb13) ?_
         refine wS (vQ v i_ 3) rfl sP ?_
         refine wS (vI p15.depth) rfl (Step.loadE (k := 0) Try.sc3 (M.rep 0 rfl : EC _ _ _ _ _) (by decide) rfl rfl) ?_
         refine wS (vI p15.depth) rfl (Step.assign rfl) ?_
         refine WL.nil ?_
         refine W.region rfl ?_
         refine wS (vI ↑i_) rfl (Step.move rfl) ?_
         refine wS (vI (↑i_ + 1)) rfl (Step.add rfl rfl (wrap_i64 (by omega))) ?_
         refine wS (vI (↑i_ + 1)) rfl (Step.assign rfl) ?_
         refine WL.nil ?_
         replace M := M.sub (List.Sublist.refl _) (R' := [SlAt 3 v l.length cs5, RepL PlT cs5 l, RepS PlT v l, fS u ks]) (fun r h => (List.mem_cons_of_mem _ (List.mem_cons_of_mem _ h)))
         exact ⟨_, (by omega), i_ + 1, p15.depth, ⟨(by omega), (.inr (hP.leaf _ (List.mem_of_getElem? hp15) h25)), rfl⟩, ⟨rfl, rfl, rfl, rfl, rfl, rfl⟩, M⟩
       ·
        rw [h25]
        refine WL.pass rfl ?_
        refine WL.pass rfl ?_
        refine wS (vB false) rfl (Step.pick (t := false) rfl rfl) ?_
        refine wS (vB false) rfl (Step.move rfl) ?_
        refine WL.pass rfl ?_
        refine WL.pass rfl ?_
        refine WL.pass rfl ?_
        refine WL.pass rfl ?_
        refine WL.pass rfl ?_
        refine WL.pass rfl ?_
        refine WL.pass rfl ?_
        refine wS (vB false) rfl (Step.pick (t := false) rfl rfl) ?_
        refine wS (vB false) rfl (Step.pick (t := false) rfl rfl) ?_
        refine WL.nil ?_
        refine W.cond (t := false) rfl (fun h => by cases h) (fun _ => ?_)
        refine W.skip ?_
        refine wR ?_
        refine wS v rfl (Step.move rfl) ?_
        refine wS (vI ↑i_) rfl (Step.move rfl) ?_
        refine wS (vQ v i_ 3) rfl (sX i_ Try.un70 Try.el130 rfl rfl hb13) ?_
        refine wS (vR v i_ 3 1) rfl sP ?_
        refine wS (vB false) rfl (Step.cast (congrArg Value.bool h25) (Step.loadE (k := 1) Try.sc4 (M.rep 0 rfl : EC _ _ _ _ _) (by decide) rfl rfl)) ?_
        refine WL.nil ?_
        refine W.cond (t := false) rfl (fun h => by cases h) (fun _ => ?_)
        refine W.skip ?_
        refine W.region rfl ?_
        refine wS (vI ↑i_) rfl (Step.move rfl) ?_
        refine wS (vI (↑i_ + 1)) rfl (Step.add rfl rfl (wrap_i64 (by omega))) ?_
        refine wS (vI (↑i_ + 1)) rfl (Step.assign rfl) ?_
        refine WL.nil ?_
        replace M := M.sub (List.Sublist.refl _) (R' := [SlAt 3 v l.length cs5, RepL PlT cs5 l, RepS PlT v l, fS u ks]) (fun r h => (List.mem_cons_of_mem _ (List.mem_cons_of_mem _ h)))
        exact ⟨_, (by omega), i_ + 1, D_, ⟨(by omega), hdp_, rfl⟩, ⟨rfl, rfl, rfl, rfl, rfl, rfl⟩, M⟩
   ·
    have h12p := of_decide_eq_false h12
    refine W.exit ?_
    refine thn_exit ?_
    refine thn_exit ?_
    refine inBlk_hit ?_
    refine W.seq' ?_
    obtain ⟨d, t, hW, hrow, hlen_⟩ := hP.walk (fun h_ => by rw [h_] at h6; simp at h6)
    have hfl_ : ((flatB d t).map THit.key).length = ks.length := by rw [hk, hrow]
    have hdd_ : d ≤ 400000 := by have h1_ := walk_len hW; have h2_ := hP.deep; exact walk_deep hW hrow (by omega)
    refine W.region rfl ?_
    refine wS v rfl (Step.move rfl) ?_
    refine WL.callX rfl (r_walk d v l 0 1 t hW (by omega) (by rw [← hrow]; omega) (by omega) (M.enter0 ⟨(M.shr' 2 rfl), trivial⟩)) (CallsF.func Try.en68 rfl) ?_
    rintro _ w29 ⟨v28, rfl, m⟩
    replace M := M.leave0 m
    clear m
    have sl30 : IsSl v28 := SlAt.isSl (Mem.rep M 0 rfl)
    have hle31 := SlAt.le' (M.rep 0 rfl)
    refine wS (Value.tuple #[v28, (vI (↑(0 + (placesB d t 1).length))), (vB true)]) rfl (Step.move rfl) ?_
    refine wS v28 rfl sP ?_
    refine wS (vI (↑(0 + (placesB d t 1).length))) rfl sP ?_
    refine wS (vB true) rfl sP ?_
    refine wS v28 rfl (Step.assign rfl) ?_
    refine wS (vI (↑(0 + (placesB d t 1).length))) rfl (Step.assign rfl) ?_
    refine wS (vB true) rfl (Step.assign rfl) ?_
    refine WL.nil ?_
    refine W.seq' ?_
    refine wR ?_
    refine wS (vB true) rfl (Step.move rfl) ?_
    refine wS (vB false) rfl sP ?_
    refine wS (vB false) rfl (Step.move rfl) ?_
    refine wS (vI (↑(0 + (placesB d t 1).length))) rfl (Step.move rfl) ?_
    refine wS v rfl (Step.move rfl) ?_
    refine wS (vI ↑l.length) rfl (Step.lenSl Try.un70 rfl (M.rep 1 rfl)) ?_
    refine wS (vB ((↑(0 + (placesB d t 1).length) : Int) != (↑l.length : Int))) rfl sP ?_
    refine wS (vB ((↑(0 + (placesB d t 1).length) : Int) != (↑l.length : Int))) rfl (Step.pick (t := false) rfl rfl) ?_
    refine wS (vB ((↑(0 + (placesB d t 1).length) : Int) != (↑l.length : Int))) rfl (Step.move rfl) ?_
    rcases Bool.eq_false_or_eq_true ((↑(0 + (placesB d t 1).length) : Int) != (↑l.length : Int)) with h32 | h32
    ·
     have h32p : ¬ (↑(0 + (placesB d t 1).length) : Int) = (↑l.length : Int) := by simpa using h32
     omega
    ·
     have h32p : (↑(0 + (placesB d t 1).length) : Int) = (↑l.length : Int) := by simpa using h32
     rw [h32]
     refine wS v28 rfl (Step.move rfl) ?_
     refine wS (vI (↑(((flatB d t).map THit.key).length))) rfl (Step.lenSl Try.un22 rfl (M.rep 0 rfl)) ?_
     refine wS u rfl (Step.move rfl) ?_
     refine wS (vI ↑ks.length) rfl (Step.lenSl Try.un22 rfl (M.rep 4 rfl)) ?_
     refine wS (vB ((↑(((flatB d t).map THit.key).length) : Int) != (↑ks.length : Int))) rfl sP ?_
     refine wS (vB ((↑(((flatB d t).map THit.key).length) : Int) != (↑ks.length : Int))) rfl (Step.pick (t := false) rfl rfl) ?_
     refine WL.nil ?_
     refine W.cond (t := (↑(((flatB d t).map THit.key).length) : Int) != (↑ks.length : Int)) rfl (fun h33 => ?_) (fun h33 => ?_)
     ·
      have h33p : ¬ (↑(((flatB d t).map THit.key).length) : Int) = (↑ks.length : Int) := by simpa using h33
      omega
     ·
      have h33p : (↑(((flatB d t).map THit.key).length) : Int) = (↑ks.length : Int) := by simpa using h33
      refine W.skip ?_
      refine W.seq' ?_
      refine wR ?_
      refine wS (vI 0) rfl (Step.assign rfl) ?_
      refine WL.nil ?_
      refine W.block ?_
      refine W.loop (fun kk ρ w' => ∃ (i_ : Nat), ((i_ ≤ ((flatB d t).map THit.key).length) ∧ kk = ((flatB d t).map THit.key).length - i_) ∧ ρ.has [(1, u), (8, v28), (11, (vI ↑i_))] ∧ Mem G (fun _ => False) w [] [fS v28 ((flatB d t).map THit.key), SlAt 3 v l.length cs5, RepL PlT cs5 l, RepS PlT v l, fS u ks]  w') _ ⟨0, ⟨(Nat.zero_le _), rfl⟩, ⟨rfl, rfl, rfl, rfl, rfl⟩, M⟩ ?_
      rintro _ ρ35 w34 ⟨i_, ⟨hi36, rfl⟩, hρ, M⟩
      obtain ⟨ρ35, rfl⟩ := hρ.know
      clear hρ
      refine W.seq' ?_
      refine wR ?_
      refine wS (vI ↑i_) rfl (Step.move rfl) ?_
      refine wS v28 rfl (Step.move rfl) ?_
      refine wS (vI (↑(((flatB d t).map THit.key).length))) rfl (Step.lenSl Try.un22 rfl (M.rep 0 rfl)) ?_
      refine wS (vB (decide ((↑i_ : Int) < (↑(((flatB d t).map THit.key).length) : Int)))) rfl sP ?_
      refine WL.nil ?_
      refine W.cond (t := decide ((↑i_ : Int) < (↑(((flatB d t).map THit.key).length) : Int))) rfl (fun h37 => ?_) (fun h37 => ?_)
      ·
       have h37p := of_decide_eq_true h37
       refine W.skip ?_
       refine W.seq' ?_
       refine W.block ?_
       refine W.seq' ?_
       obtain ⟨cap39, hb38⟩ := SlAt.base (M.rep 0 rfl) (by omega)
       obtain ⟨x40, hx40⟩ := elem_of_lt (xs := (flatB d t).map THit.key) (i := i_) (by omega)
       obtain ⟨cap42, hb41⟩ := SlAt.base (M.rep 4 rfl) (by omega)
       obtain ⟨x43, hx43⟩ := elem_of_lt (xs := ks) (i := i_) (by omega)
       have hxy_ : x40 = x43 := Option.some.inj (hx40.symm.trans (by rw [← hrow, ← hk]; exact hx43))
       rcases Bool.eq_false_or_eq_true (!(x40.toList == x43.toList)) with h44 | h44
       ·
        simp [hxy_] at h44
       ·
        rcases Bool.eq_false_or_eq_true (decide ((↑i_ : Int) > (0 : Int))) with h45 | h45
        ·
         have h45p := of_decide_eq_true h45
         obtain ⟨x46, hx46⟩ := elem_of_lt (xs := (flatB d t).map THit.key) (i := i_ - 1) (by omega)
         refine W.drawn M [0, 1, 2, 3, 4, 5, 6, 7, 8, 9, 10, 11, 12, 13, 14, 15, 16, 17, 18, 19, 20, 21, 22, 23, 24] [] [] _ _ sE (fun _ h => h) Try.mixed (by kernel_rfl) ?_
         refine tP v28 rfl (fun w => (Step.move rfl)) ?_
         refine tP (vI ↑i_) rfl (fun w => (Step.move rfl)) ?_
         refine tP (vQ v28 i_ 1) rfl (fun w => (sX i_ Try.un22 Try.el9 rfl rfl hb38)) ?_
         refine tR (vS x40) rfl (fun A w M => (Step.loadE (k := 0) Try.sc9 (flat_ec (M.rep 0 rfl) hx40 strE_len) (by decide) rfl rfl)) ?_
         refine tP u rfl (fun w => (Step.move rfl)) ?_
         refine tP (vI ↑i_) rfl (fun w => (Step.move rfl)) ?_
         refine tP (vQ u i_ 1) rfl (fun w => (sX i_ Try.un22 Try.el9 rfl rfl hb41)) ?_
         refine tR (vS x43) rfl (fun A w M => (Step.loadE (k := 0) Try.sc9 (flat_ec (M.rep 4 rfl) hx43 strE_len) (by decide) rfl rfl)) ?_
         refine tP (vB false) rfl (fun w => (Step.cast (congrArg Value.bool h44) sP)) ?_
         refine tP (vB false) rfl (fun w => (Step.move rfl)) ?_
         refine tP (vI ↑i_) rfl (fun w => (Step.move rfl)) ?_
         refine tP (vB true) rfl (fun w => (Step.cast (congrArg Value.bool h45) sP)) ?_
         refine tP (vB true) rfl (fun w => (Step.move rfl)) ?_
         refine tP v28 rfl (fun w => (Step.move rfl)) ?_
         refine tP (vI ↑i_) rfl (fun w => (Step.move rfl)) ?_
         refine tP (vI ((↑i_ : Int) - 1)) rfl (fun w => (Step.sub rfl rfl (wrap_i64 (by omega)))) ?_
         refine tP (vQ v28 (i_ - 1) 1) rfl (fun w => (sX (i_ - 1) Try.un22 Try.el9 rfl rfl hb38)) ?_
         refine tR (vS x46) rfl (fun A w M => (Step.loadE (k := 0) Try.sc9 (flat_ec (M.rep 0 rfl) hx46 strE_len) (by decide) rfl rfl)) ?_
         refine tP v28 rfl (fun w => (Step.move rfl)) ?_
         refine tP (vI ↑i_) rfl (fun w => (Step.move rfl)) ?_
         refine tP (vQ v28 i_ 1) rfl (fun w => (sX i_ Try.un22 Try.el9 rfl rfl hb38)) ?_
         refine tR (vS x40) rfl (fun A w M => (Step.loadE (k := 0) Try.sc9 (flat_ec (M.rep 0 rfl) hx40 strE_len) (by decide) rfl rfl)) ?_
         refine tP (vB (!(sLt x46 x40))) rfl (fun w => sP) ?_
         refine tP (vB (!(sLt x46 x40))) rfl (fun w => (Step.pick (t := true) rfl rfl)) ?_
         refine tP (vB (!(sLt x46 x40))) rfl (fun w => (Step.pick (t := false) rfl rfl)) ?_
         refine TW.done (fun w47 M => ?_)
         refine W.cond (t := !(sLt x46 x40)) rfl (fun h48 => ?_) (fun h48 => ?_)
         ·
          have hup_ := keys_up hu (by rw [hrow]; exact hx46) (by rw [hrow]; exact hx40) (by omega)
          simp [hup_] at h48
         ·
          refine W.skip ?_
          refine W.region rfl ?_
          refine wS (vI ↑i_) rfl (Step.move rfl) ?_
          refine wS (vI (↑i_ + 1)) rfl (Step.add rfl rfl (wrap_i64 (by omega))) ?_
          refine wS (vI (↑i_ + 1)) rfl (Step.assign rfl) ?_
          refine WL.nil ?_
          exact ⟨_, (by omega), i_ + 1, ⟨(by omega), rfl⟩, ⟨rfl, rfl, rfl, rfl, rfl⟩, M⟩
        ·
         have h45p := of_decide_eq_false h45
         refine W.drawn M [0, 1, 2, 3, 4, 5, 6, 7, 8, 9, 10, 11, 12, 13, 14, 15, 16, 17, 18, 19, 20, 21, 22, 23, 24] [] [] _ _ sE (fun _ h => h) Try.mixed (by kernel_rfl) ?_
         refine tP v28 rfl (fun w => (Step.move rfl)) ?_
         refine tP (vI ↑i_) rfl (fun w => (Step.move rfl)) ?_
         refine tP (vQ v28 i_ 1) rfl (fun w => (sX i_ Try.un22 Try.el9 rfl rfl hb38)) ?_
         refine tR (vS x40) rfl (fun A w M => (Step.loadE (k := 0) Try.sc9 (flat_ec (M.rep 0 rfl) hx40 strE_len) (by decide) rfl rfl)) ?_
         refine tP u rfl (fun w => (Step.move rfl)) ?_
         refine tP (vI ↑i_) rfl (fun w => (Step.move rfl)) ?_
         refine tP (vQ u i_ 1) rfl (fun w => (sX i_ Try.un22 Try.el9 rfl rfl hb41)) ?_
         refine tR (vS x43) rfl (fun A w M => (Step.loadE (k := 0) Try.sc9 (flat_ec (M.rep 4 rfl) hx43 strE_len) (by decide) rfl rfl)) ?_
         refine tP (vB false) rfl (fun w => (Step.cast (congrArg Value.bool h44) sP)) ?_
         refine tP (vB false) rfl (fun w => (Step.move rfl)) ?_
         refine tP (vI ↑i_) rfl (fun w => (Step.move rfl)) ?_
         refine tP (vB false) rfl (fun w => (Step.cast (congrArg Value.bool h45) sP)) ?_
         refine tP (vB false) rfl (fun w => (Step.move rfl)) ?_
         refine TW.skip rfl rfl ?_
         refine TW.skip rfl rfl ?_
         refine TW.skip rfl rfl ?_
         refine TW.skip rfl rfl ?_
         refine TW.skip rfl rfl ?_
         refine TW.skip rfl rfl ?_
         refine TW.skip rfl rfl ?_
         refine TW.skip rfl rfl ?_
         refine TW.skip rfl rfl ?_
         refine TW.skip rfl rfl ?_
         refine tP (vB false) rfl (fun w => (Step.pick (t := false) rfl rfl)) ?_
         refine tP (vB false) rfl (fun w => (Step.pick (t := false) rfl rfl)) ?_
         refine TW.done (fun w49 M => ?_)
         refine W.cond (t := false) rfl (fun h => by cases h) (fun _ => ?_)
         refine W.skip ?_
         refine W.region rfl ?_
         refine wS (vI ↑i_) rfl (Step.move rfl) ?_
         refine wS (vI (↑i_ + 1)) rfl (Step.add rfl rfl (wrap_i64 (by omega))) ?_
         refine wS (vI (↑i_ + 1)) rfl (Step.assign rfl) ?_
         refine WL.nil ?_
         exact ⟨_, (by omega), i_ + 1, ⟨(by omega), rfl⟩, ⟨rfl, rfl, rfl, rfl, rfl⟩, M⟩
      ·
       have h37p := of_decide_eq_false h37
       refine W.exit ?_
       refine thn_exit ?_
       refine thn_exit ?_
       refine inBlk_hit ?_
       refine wR ?_
       refine wS (vB true) rfl (Step.assign rfl) ?_
       refine WL.nil ?_
       refine W.ret ?_
       refine ⟨.inl rfl, (vB true), ?_, ?_⟩
       · exact ⟨rfl, (Res.r1 (show RV _ _ _ (.tmp 4) (vB true) from by exact rfl))⟩
       refine ⟨?_, M.close [] rfl (by decide) trivial⟩
       rfl
end Go.Proofs
set_option maxRecDepth 100000
namespace Go.Proofs
open Go Tp
theorem Try.un9 : Und Try.prog 9 (.string) := by unfold Und; kernel_rfl
theorem Try.un58 : Und Try.prog 58 (.slice 64) := by unfold Und; kernel_rfl
theorem Try.el64 : Elem Try.prog 64 (Value.agg #[(vI 0), (vS sZ), (vI 0)]) 3 32 := Elem.mk (by kernel_rfl)
theorem Try.en69 : Enters Try.prog 69 := fun _ _ => by kernel_rfl
abbrev oL (v : Value) (xs : List PlC) : Chunk := own 130 3 v xs.length (xs.flatMap plcE)
theorem kit_pick {G : Nat → Prop} {w : World} (i : Int) (n : Int)  (hn : n ≤ 1000000000) (M : Mem G (fun _ => False) w [] [] w) : Rets Try.prog 16 #[(vI i), (vI n)] w fun r w' => r = (vI (pickI i n)) ∧ Mem G (fun _ => False) w [] [] w' := by
 refine Rets.enter 14 _ Try.func16 rfl Try.ntmps16 Try.results16 (by simp) ?_
 refine wR ?_
 refine wS (vI 0) rfl (Step.assign rfl) ?_
 refine WL.nil ?_
 refine W.seq' ?_
 refine wR ?_
 refine wS (vI n) rfl (Step.move rfl) ?_
 refine wS (vB (decide ((n : Int) ≤ (0 : Int)))) rfl sP ?_
 refine WL.nil ?_
 refine W.cond (t := decide ((n : Int) ≤ (0 : Int))) rfl (fun h1 => ?_) (fun h1 => ?_)
 ·
  have h1p := of_decide_eq_true h1
  refine wR ?_
  refine wS (vI 0) rfl (Step.assign rfl) ?_
  refine WL.nil ?_
  refine W.ret ?_
  refine ⟨.inl rfl, (vI 0), ?_, ?_⟩
  · exact ⟨rfl, (Res.r1 (show RV _ _ _ (.tmp 4) (vI 0) from by exact rfl))⟩
  refine ⟨?_, M.close [] rfl (by decide) trivial⟩
  refine congrArg (Value.int .i64) ?_
  unfold pickI
  first | rw [if_pos (by omega)] | rw [if_neg (by omega)]
 ·
  have h1p := of_decide_eq_false h1
  have htb := fun h0 => tmod_bounds (a := i) (b := n) h0
  refine W.skip ?_
  refine wR ?_
  refine wS (vI i) rfl (Step.move rfl) ?_
  refine wS (vI n) rfl (Step.move rfl) ?_
  refine wS (vI (i.tmod n)) rfl (Step.rem rfl rfl (by omega)) ?_
  refine wS (vI n) rfl (Step.move rfl) ?_
  refine wS (vI (i.tmod n + n)) rfl (Step.add rfl rfl (wrap_i64 (by omega))) ?_
  refine wS (vI n) rfl (Step.move rfl) ?_
  refine wS (vI ((i.tmod n + n).tmod n)) rfl (Step.rem rfl rfl (by omega)) ?_
  refine wS (vI ((i.tmod n + n).tmod n)) rfl (Step.assign rfl) ?_
  refine WL.nil ?_
  refine W.ret ?_
  refine ⟨.inl rfl, (vI ((i.tmod n + n).tmod n)), ?_, ?_⟩
  · exact ⟨rfl, (Res.r1 (show RV _ _ _ (.tmp 4) (vI ((i.tmod n + n).tmod n)) from by exact rfl))⟩
  refine ⟨?_, M.close [] rfl (by decide) trivial⟩
  refine congrArg (Value.int .i64) ?_
  unfold pickI
  first | rw [if_pos (by omega)] | rw [if_neg (by omega)]
theorem l_few {G : Nat → Prop} {w : World} (v : Value) (l : List TAct) (most : Int)   (M : Mem G (fun _ => False) w [] [SlAt 3 v l.length (l.flatMap actE)] w) : Rets Try.prog 28 #[v, (vI most)] w fun r w' => r = (vB (fewT l most)) ∧ Mem G (fun _ => False) w [] [] w' := by
 refine Rets.enter 23 _ Try.func28 rfl Try.ntmps28 Try.results28 (by simp) ?_
 have hle1 := SlAt.le' (M.rep 0 rfl)
 have sl2 : IsSl v := SlAt.isSl (Mem.rep M 0 rfl)
 refine wR ?_
 refine wS (vB false) rfl (Step.assign rfl) ?_
 refine WL.nil ?_
 refine W.seq' ?_
 refine wR ?_
 refine wS (vI 0) rfl (Step.assign rfl) ?_
 refine WL.nil ?_
 refine W.block ?_
 refine W.loop (fun kk ρ w' => ∃ (i_ : Nat), ((i_ ≤ l.length) ∧ (∀ j u, j < i_ → l[j]? = some u → (fun u : TAct => decide ((u.k.size : Int) > 60)) u = false) ∧ kk = l.length - i_) ∧ ρ.has [(0, v), (1, (vI most)), (5, (vI ↑i_))] ∧ Mem G (fun _ => False) w [] [SlAt 3 v l.length (l.flatMap actE)]  w') _ ⟨0, ⟨(Nat.zero_le _), (fun _ _ h => absurd h (Nat.not_lt_zero _)), rfl⟩, ⟨rfl, rfl, rfl, rfl, rfl⟩, M⟩ ?_
 rintro _ ρ4 w3 ⟨i_, ⟨hi5, hi6, rfl⟩, hρ, M⟩
 obtain ⟨ρ4, rfl⟩ := hρ.know
 clear hρ
 refine W.seq' ?_
 refine wR ?_
 refine wS (vI ↑i_) rfl (Step.move rfl) ?_
 refine wS v rfl (Step.move rfl) ?_
 refine wS (vI ↑l.length) rfl (Step.lenSl Try.un58 rfl (M.rep 0 rfl)) ?_
 refine wS (vB (decide ((↑i_ : Int) < (↑l.length : Int)))) rfl sP ?_
 refine WL.nil ?_
 refine W.cond (t := decide ((↑i_ : Int) < (↑l.length : Int))) rfl (fun h7 => ?_) (fun h7 => ?_)
 ·
  have h7p := of_decide_eq_true h7
  refine W.skip ?_
  refine W.seq' ?_
  refine W.block ?_
  refine wR ?_
  refine wS v rfl (Step.move rfl) ?_
  refine wS (vI ↑i_) rfl (Step.move rfl) ?_
  obtain ⟨cap9, hb8⟩ := SlAt.base (M.rep 0 rfl) (by omega)
  obtain ⟨x10, hx10⟩ := elem_of_lt (xs := l) (i := i_) (by omega)
  refine wS (vQ v i_ 3) rfl (sX i_ Try.un58 Try.el64 rfl rfl hb8) ?_
  refine wS (vR v i_ 3 1) rfl sP ?_
  refine wS (vS x10.k) rfl (Step.loadE (k := 1) Try.sc9 (flat_ec (M.rep 0 rfl) hx10 actE_len) (by decide) rfl rfl) ?_
  refine wS (vI ↑x10.k.size) rfl (Step.lenStr Try.un9 rfl) ?_
  refine wS (vB (decide ((↑x10.k.size : Int) > (60 : Int)))) rfl sP ?_
  refine WL.nil ?_
  refine W.cond (t := decide ((↑x10.k.size : Int) > (60 : Int))) rfl (fun h11 => ?_) (fun h11 => ?_)
  ·
   have h11p := of_decide_eq_true h11
   refine wR ?_
   refine wS (vB false) rfl (Step.assign rfl) ?_
   refine WL.nil ?_
   refine W.ret ?_
   refine ⟨.inl rfl, (vB false), ?_, ?_⟩
   · exact ⟨rfl, (Res.r1 (show RV _ _ _ (.tmp 4) (vB false) from by exact rfl))⟩
   refine ⟨?_, M.close [] rfl (by decide) trivial⟩
   refine congrArg Value.bool ?_
   rw [few_bad hx10 h11p]
  ·
   have h11p := of_decide_eq_false h11
   refine W.skip ?_
   refine W.region rfl ?_
   refine wS (vI ↑i_) rfl (Step.move rfl) ?_
   refine wS (vI (↑i_ + 1)) rfl (Step.add rfl rfl (wrap_i64 (by omega))) ?_
   refine wS (vI (↑i_ + 1)) rfl (Step.assign rfl) ?_
   refine WL.nil ?_
   exact ⟨_, (by omega), i_ + 1, ⟨(by omega), (below_stepG hi6 hx10 h11), rfl⟩, ⟨rfl, rfl, rfl, rfl, rfl⟩, M⟩
 ·
  have h7p := of_decide_eq_false h7
  refine W.exit ?_
  refine thn_exit ?_
  refine thn_exit ?_
  refine inBlk_hit ?_
  refine wR ?_
  refine wS v rfl (Step.move rfl) ?_
  refine wS (vI ↑l.length) rfl (Step.lenSl Try.un58 rfl (M.rep 0 rfl)) ?_
  refine wS (vI most) rfl (Step.move rfl) ?_
  refine wS (vB (decide ((↑l.length : Int) ≤ (most : Int)))) rfl sP ?_
  refine wS (vB (decide ((↑l.length : Int) ≤ (most : Int)))) rfl (Step.assign rfl) ?_
  refine WL.nil ?_
  refine W.ret ?_
  refine ⟨.inl rfl, (vB (decide ((↑l.length : Int) ≤ (most : Int)))), ?_, ?_⟩
  · exact ⟨rfl, (Res.r1 (show RV _ _ _ (.tmp 4) (vB (decide ((↑l.length : Int) ≤ (most : Int)))) from by exact rfl))⟩
  refine ⟨?_, M.close [] rfl (by decide) trivial⟩
  refine congrArg Value.bool ?_
  rw [few_good hi6 (by omega)]
theorem l_hit1 {G : Nat → Prop} {w : World} (a : THit) (ok : Bool)   (M : Mem G (fun _ => False) w [] [] w) : Rets Try.prog 69 #[(Value.agg #[(vS a.key), (vI a.val)]), (vB ok), (Value.agg #[(vS a.key), (vI a.val)]), (vB ok)] w fun r w' => r = (vB true) ∧ Mem G (fun _ => False) w [] [] w' := by
 refine Rets.enter 26 _ Try.func69 rfl Try.ntmps69 Try.results69 (by simp) ?_
 refine wR ?_
 refine WL.box (v := (Value.agg #[(vS a.key), (vI a.val)])) (c := #[(vS a.key), (vI a.val)]) M rfl rfl rfl (fun b1 w2 hb1 M => ?_)
 refine WL.box (v := (Value.agg #[(vS a.key), (vI a.val)])) (c := #[(vS a.key), (vI a.val)]) M rfl rfl rfl (fun b3 w4 hb3 M => ?_)
 refine wS (vB false) rfl (Step.assign rfl) ?_
 refine WL.nil ?_
 refine wR ?_
 refine wS (vB ok) rfl (Step.move rfl) ?_
 refine wS (vB ok) rfl (Step.move rfl) ?_
 refine wS (vB true) rfl (Step.cast (congrArg Value.bool (by simp)) (Step.pure (v := .bool ((ok == ok))) (by kernel_rfl))) ?_
 refine wS (vB true) rfl (Step.move rfl) ?_
 refine wS (vP b1) rfl sP ?_
 refine wS (vS a.key) rfl (Step.load1 Try.sc9 rfl ((M.cell 1 rfl 0).trans rfl)) ?_
 refine wS (vP b3) rfl sP ?_
 refine wS (vS a.key) rfl (Step.load1 Try.sc9 rfl ((M.cell 0 rfl 0).trans rfl)) ?_
 refine wS (vB true) rfl (Step.cast (congrArg Value.bool (show (a.key.toList == a.key.toList) = true by simp)) sP) ?_
 refine wS (vB true) rfl (Step.pick (t := true) rfl rfl) ?_
 refine wS (vB true) rfl (Step.move rfl) ?_
 refine wS (Value.pointer (some ⟨b1, 1, none⟩)) rfl sP ?_
 refine wS (vI a.val) rfl (Step.load1 Try.sc3 rfl ((M.cell 1 rfl 1).trans rfl)) ?_
 refine wS (Value.pointer (some ⟨b3, 1, none⟩)) rfl sP ?_
 refine wS (vI a.val) rfl (Step.load1 Try.sc3 rfl ((M.cell 0 rfl 1).trans rfl)) ?_
 refine wS (vB true) rfl (Step.cast (congrArg Value.bool (show ((a.val : Int) == (a.val : Int)) = true by simp)) sP) ?_
 refine wS (vB true) rfl (Step.pick (t := true) rfl rfl) ?_
 refine wS (vB true) rfl (Step.assign rfl) ?_
 refine WL.nil ?_
 refine W.ret ?_
 refine ⟨.inl rfl, (vB true), ?_, ?_⟩
 · exact ⟨rfl, (Res.r1 (show RV _ _ _ (.tmp 8) (vB true) from by exact rfl))⟩
 refine ⟨?_, M.close [] rfl (by decide) trivial⟩
 rfl
theorem l_same {G : Nat → Prop} {w : World} (v : Value) (xs : List THit) (u : Value)   (M : Mem G (fun _ => False) w [] [fR v xs, fR u xs] w) : Rets Try.prog 37 #[v, u] w fun r w' => r = (vB true) ∧ Mem G (fun _ => False) w [] [] w' := by
 refine Rets.enter 27 _ Try.func37 rfl Try.ntmps37 Try.results37 (by simp) ?_
 have hle1 := SlAt.le' (M.rep 0 rfl)
 have hle2 := SlAt.le' (M.rep 1 rfl)
 have sl3 : IsSl v := SlAt.isSl (Mem.rep M 0 rfl)
 have sl4 : IsSl u := SlAt.isSl (Mem.rep M 1 rfl)
 refine wR ?_
 refine wS (vB false) rfl (Step.assign rfl) ?_
 refine WL.nil ?_
 refine W.seq' ?_
 refine wR ?_
 refine wS v rfl (Step.move rfl) ?_
 refine wS (vI ↑xs.length) rfl (Step.lenSl Try.un34 rfl (M.rep 0 rfl)) ?_
 refine wS u rfl (Step.move rfl) ?_
 refine wS (vI ↑xs.length) rfl (Step.lenSl Try.un27 rfl (M.rep 1 rfl)) ?_
 refine wS (vB false) rfl (Step.cast (congrArg Value.bool (show ((↑xs.length : Int) != (↑xs.length : Int)) = false by simp)) sP) ?_
 refine WL.nil ?_
 refine W.cond (t := false) rfl (fun h => by cases h) (fun _ => ?_)
 refine W.skip ?_
 refine W.seq' ?_
 refine wR ?_
 refine wS (vI 0) rfl (Step.assign rfl) ?_
 refine WL.nil ?_
 refine W.block ?_
 refine W.loop (fun kk ρ w' => ∃ (i_ : Nat), ((i_ ≤ xs.length) ∧ kk = xs.length - i_) ∧ ρ.has [(0, v), (1, u), (5, (vI ↑i_))] ∧ Mem G (fun _ => False) w [] [fR v xs, fR u xs]  w') _ ⟨0, ⟨(Nat.zero_le _), rfl⟩, ⟨rfl, rfl, rfl, rfl, rfl⟩, M⟩ ?_
 rintro _ ρ6 w5 ⟨i_, ⟨hi7, rfl⟩, hρ, M⟩
 obtain ⟨ρ6, rfl⟩ := hρ.know
 clear hρ
 refine W.seq' ?_
 refine wR ?_
 refine wS (vI ↑i_) rfl (Step.move rfl) ?_
 refine wS v rfl (Step.move rfl) ?_
 refine wS (vI ↑xs.length) rfl (Step.lenSl Try.un34 rfl (M.rep 0 rfl)) ?_
 refine wS (vB (decide ((↑i_ : Int) < (↑xs.length : Int)))) rfl sP ?_
 refine WL.nil ?_
 refine W.cond (t := decide ((↑i_ : Int) < (↑xs.length : Int))) rfl (fun h8 => ?_) (fun h8 => ?_)
 ·
  have h8p := of_decide_eq_true h8
  refine W.skip ?_
  refine W.seq' ?_
  refine W.block ?_
  refine W.seq' ?_
  obtain ⟨cap10, hb9⟩ := SlAt.base (M.rep 0 rfl) (by omega)
  obtain ⟨x11, hx11⟩ := elem_of_lt (xs := xs) (i := i_) (by omega)
  obtain ⟨cap13, hb12⟩ := SlAt.base (M.rep 1 rfl) (by omega)
  refine W.drawn M [0, 1, 2, 3, 4, 5, 6, 7, 8, 9] [8] [] _ _ sE (fun _ h => h) Try.mixed (by kernel_rfl) ?_
  refine tP v rfl (fun w => (Step.move rfl)) ?_
  refine tP (vI ↑i_) rfl (fun w => (Step.move rfl)) ?_
  refine tP (vQ v i_ 2) rfl (fun w => (sX i_ Try.un34 Try.el41 rfl rfl hb9)) ?_
  refine tR (Value.agg #[(vS x11.key), (vI x11.val)]) rfl (fun A w M => (Step.loadEN (k := 0) (cs' := [(vS x11.key), (vI x11.val)]) Try.ag41 (flat_ec (M.rep 0 rfl) hx11 hitE_len) (by decide) rfl rfl rfl)) ?_
  refine tP u rfl (fun w => (Step.move rfl)) ?_
  refine tP (vI ↑i_) rfl (fun w => (Step.move rfl)) ?_
  refine tP (vQ u i_ 2) rfl (fun w => (sX i_ Try.un27 Try.el108 rfl rfl hb12)) ?_
  refine tR (Value.agg #[(vS x11.key), (vI x11.val)]) rfl (fun A w M => (Step.loadEN (k := 0) (cs' := [(vS x11.key), (vI x11.val)]) Try.ag108 (flat_ec (M.rep 1 rfl) hx11 hitE_len) (by decide) rfl rfl rfl)) ?_
  refine TW.callX (ι := Unit) (fun jx v_ => v_ = (vB true)) (fun jx => []) (fun jx => [fR v xs, fR u xs]) rfl (by decide) rfl (fun jx => sE) (fun jx r h => h) (fun A w M => Rets.mono (l_hit1 x11 true (M.enterW0 trivial)) (fun v_ w_ ⟨e_, m⟩ => ⟨(), e_, (M.leaveW0 m).sel [0] rfl (by decide), fun b hb => M.k0F m b hb⟩)) (fun w => CallsF.func Try.en69 rfl) (fun jx v hp hin => ?_)
  replace hp := hp.symm; subst hp
  clear hin
  refine tP (vB false) rfl (fun w => sP) ?_
  refine TW.done (fun w14 M => ?_)
  refine W.cond (t := false) rfl (fun h => by cases h) (fun _ => ?_)
  refine W.skip ?_
  refine W.region rfl ?_
  refine wS (vI ↑i_) rfl (Step.move rfl) ?_
  refine wS (vI (↑i_ + 1)) rfl (Step.add rfl rfl (wrap_i64 (by omega))) ?_
  refine wS (vI (↑i_ + 1)) rfl (Step.assign rfl) ?_
  refine WL.nil ?_
  exact ⟨_, (by omega), i_ + 1, ⟨(by omega), rfl⟩, ⟨rfl, rfl, rfl, rfl, rfl⟩, M⟩
 ·
  have h8p := of_decide_eq_false h8
  refine W.exit ?_
  refine thn_exit ?_
  refine thn_exit ?_
  refine inBlk_hit ?_
  refine wR ?_
  refine wS (vB true) rfl (Step.assign rfl) ?_
  refine WL.nil ?_
  refine W.ret ?_
  refine ⟨.inl rfl, (vB true), ?_, ?_⟩
  · exact ⟨rfl, (Res.r1 (show RV _ _ _ (.tmp 4) (vB true) from by exact rfl))⟩
  refine ⟨?_, M.close [] rfl (by decide) trivial⟩
  rfl
theorem l_keys {G : Nat → Prop} {w : World} (v : Value) (l : List THit)  (hb : l.length ≤ 400000) (M : Mem G (fun _ => False) w [] [fR v l] w) : Rets Try.prog 36 #[v] w fun r w' => ∃ (v' : Value), r = v' ∧ Mem G (fun _ => False) w [] [fS v' (l.map THit.key)] w' := by
 refine Rets.enter 20 _ Try.func36 rfl Try.ntmps36 Try.results36 (by simp) ?_
 have hle1 := SlAt.le' (M.rep 0 rfl)
 have sl2 : IsSl v := SlAt.isSl (Mem.rep M 0 rfl)
 refine wR ?_
 refine wS vZ rfl (Step.assign rfl) ?_
 refine WL.nil ?_
 refine wR ?_
 refine wS vZ rfl (Step.assign rfl) ?_
 refine WL.nil ?_
 refine W.seq' ?_
 refine wR ?_
 refine wS (vI 0) rfl (Step.assign rfl) ?_
 refine WL.nil ?_
 refine W.block ?_
 replace M := M.ownNil 9 1
 replace M := M.rechunk 0 (c' := oS vZ ((l.take 0).map THit.key)) rfl rfl
 refine W.loop (fun kk ρ w' => ∃ (i_ : Nat) (acci_ : Value), ((i_ ≤ l.length) ∧ kk = l.length - i_) ∧ ρ.has [(0, v), (2, vZ), (3, acci_), (4, (vI ↑i_))] ∧ Mem G (fun _ => False) w [oS acci_ ((l.take i_).map THit.key)] [fR v l]  w') _ ⟨0, _, ⟨(Nat.zero_le _), rfl⟩, ⟨rfl, rfl, rfl, rfl, rfl, rfl⟩, M⟩ ?_
 rintro _ ρ4 w3 ⟨i_, acci_, ⟨hi5, rfl⟩, hρ, M⟩
 obtain ⟨ρ4, rfl⟩ := hρ.know
 clear hρ
 have sl6 : IsSl acci_ := SlAt.isSl (own_slAt (M.chunk 0 rfl).inv)
 have hacl : ((l.take i_).map THit.key).length ≤ 400000 := by rw [List.length_map, List.length_take]; omega
 refine W.seq' ?_
 refine wR ?_
 refine wS (vI ↑i_) rfl (Step.move rfl) ?_
 refine wS v rfl (Step.move rfl) ?_
 refine wS (vI ↑l.length) rfl (Step.lenSl Try.un27 rfl (M.rep 0 rfl)) ?_
 refine wS (vB (decide ((↑i_ : Int) < (↑l.length : Int)))) rfl sP ?_
 refine WL.nil ?_
 refine W.cond (t := decide ((↑i_ : Int) < (↑l.length : Int))) rfl (fun h7 => ?_) (fun h7 => ?_)
 ·
  have h7p := of_decide_eq_true h7
  refine W.skip ?_
  refine W.seq' ?_
  refine W.block ?_
  refine W.region rfl ?_
  refine wS acci_ rfl (Step.move rfl) ?_
  refine wS v rfl (Step.move rfl) ?_
  refine wS (vI ↑i_) rfl (Step.move rfl) ?_
  obtain ⟨cap9, hb8⟩ := SlAt.base (M.rep 0 rfl) (by omega)
  obtain ⟨x10, hx10⟩ := elem_of_lt (xs := l) (i := i_) (by omega)
  refine wS (vQ v i_ 2) rfl (sX i_ Try.un27 Try.el108 rfl rfl hb8) ?_
  refine wS (vQ v i_ 2) rfl sP ?_
  refine wS (vS x10.key) rfl (Step.loadE (k := 0) Try.sc9 (flat_ec (M.rep 0 rfl) hx10 hitE_len) (by decide) rfl rfl) ?_
  refine WL.new (obj := .cells #[(vS x10.key)] 9) (fun b => .slice (some ⟨b, 0, none⟩) 1 1) M rfl (fun w => Step.make (by kernel_rfl)) (fun b11 w12 hb11 M => ?_)
  refine WL.does rfl (M.appendF ((l.take i_).map THit.key) ([x10.key] : List ByteArray) (sv := (Value.slice (some ⟨b11, 0, none⟩) 1 1)) 1 Try.un22 Try.el9 rfl (by decide) rfl rfl rfl (SlAt.of_blk (M.blk 0 rfl) rfl (by decide)) strE_cel (by have := hacl; simp only [maxLen, List.length_nil, List.length_cons, List.length_append]; omega) (by have := hacl; (try simp only [List.length_nil, List.length_cons, List.length_append]); omega)) ?_
  rintro v13 w14 M
  have sl15 : IsSl v13 := SlAt.isSl (own_slAt (M.chunk 1 rfl).inv)
  refine wS v13 rfl (Step.assign rfl) ?_
  refine WL.nil ?_
  refine W.region rfl ?_
  refine wS (vI ↑i_) rfl (Step.move rfl) ?_
  refine wS (vI (↑i_ + 1)) rfl (Step.add rfl rfl (wrap_i64 (by omega))) ?_
  refine wS (vI (↑i_ + 1)) rfl (Step.assign rfl) ?_
  refine WL.nil ?_
  replace M := M.rechunk 1 (c' := oS v13 ((l.take (i_ + 1)).map THit.key)) rfl (by rw [map_snoc hx10])
  replace M := M.sel (L' := [oS v13 ((l.take (i_ + 1)).map THit.key)]) [1] rfl (by decide)
  exact ⟨_, (by omega), i_ + 1, v13, ⟨(by omega), rfl⟩, ⟨rfl, rfl, rfl, rfl, rfl, rfl⟩, M⟩
 ·
  have h7p := of_decide_eq_false h7
  refine W.exit ?_
  refine thn_exit ?_
  refine thn_exit ?_
  refine inBlk_hit ?_
  refine wR ?_
  refine wS acci_ rfl (Step.move rfl) ?_
  refine wS acci_ rfl (Step.assign rfl) ?_
  refine WL.nil ?_
  refine W.ret ?_
  refine ⟨.inl rfl, acci_, ?_, ?_⟩
  · exact ⟨rfl, (Res.r1 (show RV _ _ _ (.tmp 2) acci_ from by exact rfl))⟩
  replace M := M.shareOwn 0 rfl
  have e16 : l.map THit.key = (l.take i_).map THit.key := by
   rw [List.take_of_length_le (by omega)]
  have hf17 := Sh.reList e16 (M.shr' 0 rfl)
  refine ⟨acci_, ?_, M.close [] rfl (by decide) ⟨hf17, trivial⟩⟩
  rfl
end Go.Proofs
set_option maxRecDepth 100000
namespace Go.Proofs
open Go Tp
theorem l_places {G : Nat → Prop} {w : World} (v : Value) (l : List TPl)  (hlb : l.length ≤ 400000) (hk4 : ∀ p, p ∈ l → p.keys.length ≤ 4) (M : Mem G (fun _ => False) w [] [RepS PlT v l] w) : Rets Try.prog 35 #[v] w fun r w' => ∃ (v' : Value) (cs' : List PlC) (N' : Nat → Prop), r = v' ∧ Mem G (fun _ => False) w [oL v' cs', rowsC 9 N' 0 cs' l] [] w' := by
 refine Rets.enter 34 _ Try.func35 rfl Try.ntmps35 Try.results35 (by simp) ?_
 have hle1 := RepS.le' (M.rep 0 rfl)
 have sl2 : IsSl v := RepS.isSl (Mem.rep M 0 rfl)
 obtain ⟨cs3, M⟩ := M.openS 0 rfl
 refine wR ?_
 refine wS vZ rfl (Step.assign rfl) ?_
 refine WL.nil ?_
 refine wR ?_
 refine wS vZ rfl (Step.assign rfl) ?_
 refine WL.nil ?_
 refine W.seq' ?_
 refine wR ?_
 refine wS (vI 0) rfl (Step.assign rfl) ?_
 refine WL.nil ?_
 refine W.block ?_
 replace M := M.ownNil 130 3
 replace M := M.rowsNil 9
 replace M := M.rechunk 0 (c' := rowsC 9 (fun _ => False) 0 ([] : List PlC) (l.take 0)) rfl (rfl)
 refine W.loop (fun kk ρ w' => ∃ (i_ : Nat) (v_ : Value) (cs_ : List PlC) (N_ : Nat → Prop), ((i_ ≤ l.length) ∧ kk = l.length - i_) ∧ ρ.has [(0, v), (2, vZ), (3, v_), (4, (vI ↑i_))] ∧ Mem G (fun _ => False) w [rowsC 9 N_ 0 cs_ (l.take i_), oL v_ cs_] [SlAt 3 v l.length cs3, RepL PlT cs3 l, RepS PlT v l]  w') _ ⟨0, _, _, _, ⟨(Nat.zero_le _), rfl⟩, ⟨rfl, rfl, rfl, rfl, rfl, rfl⟩, M⟩ ?_
 rintro _ ρ5 w4 ⟨i_, v_, cs_, N_, ⟨hi6, rfl⟩, hρ, M⟩
 obtain ⟨ρ5, rfl⟩ := hρ.know
 clear hρ
 have sl7 : IsSl v_ := SlAt.isSl (own_slAt (M.chunk 1 rfl).inv)
 have hcl_ : cs_.length ≤ 400000 := by have := rows_len (M.chunk 0 rfl).inv; rw [List.length_take] at this; omega
 refine W.seq' ?_
 refine wR ?_
 refine wS (vI ↑i_) rfl (Step.move rfl) ?_
 refine wS v rfl (Step.move rfl) ?_
 refine wS (vI ↑l.length) rfl (Step.lenSl Try.un65 rfl (M.rep 0 rfl)) ?_
 refine wS (vB (decide ((↑i_ : Int) < (↑l.length : Int)))) rfl sP ?_
 refine WL.nil ?_
 refine W.cond (t := decide ((↑i_ : Int) < (↑l.length : Int))) rfl (fun h8 => ?_) (fun h8 => ?_)
 ·
  have h8p := of_decide_eq_true h8
  refine W.skip ?_
  refine W.seq' ?_
  refine W.block ?_
  refine wR ?_
  refine wS vZ rfl (Step.assign rfl) ?_
  refine WL.nil ?_
  replace M := M.ownNil 9 1
  obtain ⟨cap10, hb9⟩ := SlAt.base (M.rep 0 rfl) (by omega)
  obtain ⟨p11, hp11⟩ := elem_of_lt (xs := l) (i := i_) (by omega)
  obtain ⟨kv12, M⟩ := pl_open M 0 1 rfl rfl rfl hp11
  have sl13 : IsSl kv12 := SlAt.isSl (Mem.rep M 1 rfl)
  have hpk_ : p11.keys.length ≤ 4 := (hk4 _ (List.mem_of_getElem? hp11))
  refine W.drawn M [0, 1, 2, 3, 4, 5, 6, 7, 8, 9, 10, 11, 12, 13, 14, 15, 16, 17, 18, 19, 20, 21] [17, 20] [19] _ _ (sN (sY (sN sE))) (fun _ h => h) Try.mixed (by kernel_rfl) ?_
  refine tP v_ rfl (fun w => (Step.move rfl)) ?_
  refine tP v rfl (fun w => (Step.move rfl)) ?_
  refine tP (vI ↑i_) rfl (fun w => (Step.move rfl)) ?_
  refine tP (vQ v i_ 3) rfl (fun w => (sX i_ Try.un65 Try.el74 rfl rfl hb9)) ?_
  refine tP (vQ v i_ 3) rfl (fun w => sP) ?_
  refine tR (vI p11.depth) rfl (fun A w M => (Step.loadE (k := 0) Try.sc3 (M.rep 0 rfl : EC _ _ _ _ _) (by decide) rfl rfl)) ?_
  refine tP v rfl (fun w => (Step.move rfl)) ?_
  refine tP (vI ↑i_) rfl (fun w => (Step.move rfl)) ?_
  refine tP (vQ v i_ 3) rfl (fun w => (sX i_ Try.un65 Try.el74 rfl rfl hb9)) ?_
  refine tP (vR v i_ 3 1) rfl (fun w => sP) ?_
  refine tR (vB p11.leaf) rfl (fun A w M => (Step.loadE (k := 1) Try.sc4 (M.rep 0 rfl : EC _ _ _ _ _) (by decide) rfl rfl)) ?_
  refine tP vZ rfl (fun w => (Step.move rfl)) ?_
  refine tP v rfl (fun w => (Step.move rfl)) ?_
  refine tP (vI ↑i_) rfl (fun w => (Step.move rfl)) ?_
  refine tP (vQ v i_ 3) rfl (fun w => (sX i_ Try.un65 Try.el74 rfl rfl hb9)) ?_
  refine tP (vR v i_ 3 2) rfl (fun w => sP) ?_
  refine tR kv12 rfl (fun A w M => (Step.loadE (k := 2) Try.sc22 (M.rep 0 rfl : EC _ _ _ _ _) (by decide) rfl rfl)) ?_
  refine TW.doesM (fun v_ => oS v_ (([] : List ByteArray) ++ p11.keys)) 0 rfl rfl (by decide) rfl (fun v_ => (sN (sY (sN sE)))) (fun r h => h) (fun A w M => M.appendF' ([] : List ByteArray) p11.keys (sv := kv12) 1 Try.un22 Try.el9 rfl (by decide) rfl rfl rfl (M.rep 1 rfl) strE_cel (by have := hpk_; simp only [maxLen, List.length_nil, List.length_cons, List.length_append]; omega) (by have := hpk_; (try simp only [List.length_nil, List.length_cons, List.length_append]); omega)) (fun v26 hin => ?_)
  obtain ⟨_, _, hin⟩ := hin
  have sl28 : IsSl v26 := SlAt.isSl (own_slAt (Mem.chunk hin 1 rfl).inv)
  clear hin
  refine tP (Value.agg #[(vI p11.depth), (vB p11.leaf), v26]) rfl (fun w => (by obtain ⟨_, _, _, e⟩ := sl28; subst e; exact sP)) ?_
  refine TW.new (obj := .cells #[(vI p11.depth), (vB p11.leaf), v26] 130) (fun b => .slice (some ⟨b, 0, none⟩) 1 1) rfl (by decide) (by decide) rfl (fun w => (by obtain ⟨_, _, _, e⟩ := sl28; subst e; exact Step.make (by kernel_rfl))) (fun b29 => ?_)
  refine TW.doesM (fun v_ => oL v_ (cs_ ++ ([(⟨p11.depth, p11.leaf, ⟨v26, sl28⟩⟩ : PlC)] : List PlC))) 3 rfl rfl (by decide) rfl (fun v_ => (sN (sN (sY (sN sE))))) (fun r h => h) (fun A w M => M.appendF' cs_ ([(⟨p11.depth, p11.leaf, ⟨v26, sl28⟩⟩ : PlC)] : List PlC) (sv := (Value.slice (some ⟨b29, 0, none⟩) 1 1)) 4 Try.un70 Try.el130 rfl (by decide) rfl rfl rfl (SlAt.of_blk (M.blk 1 rfl) rfl (by decide)) plcE_cel (by have := hcl_; simp only [maxLen, List.length_nil, List.length_cons, List.length_append]; omega) (by have := hcl_; (try simp only [List.length_nil, List.length_cons, List.length_append]); omega)) (fun v30 hin => ?_)
  obtain ⟨_, _, hin⟩ := hin
  have sl32 : IsSl v30 := SlAt.isSl (own_slAt (Mem.chunk hin 4 rfl).inv)
  clear hin
  refine tP v30 rfl (fun w => (Step.assign rfl)) ?_
  refine TW.done (fun w33 M => ?_)
  refine W.region rfl ?_
  refine wS (vI ↑i_) rfl (Step.move rfl) ?_
  refine wS (vI (↑i_ + 1)) rfl (Step.add rfl rfl (wrap_i64 (by omega))) ?_
  refine wS (vI (↑i_ + 1)) rfl (Step.assign rfl) ?_
  refine WL.nil ?_
  replace M := M.rechunk 1 (c' := oS v26 p11.keys) rfl rfl
  replace M := M.sel (L' := [rowsC 9 N_ 0 cs_ (l.take i_), oS v26 p11.keys, bk b29 #[(vI p11.depth), (vB p11.leaf), v26] 130, oL v30 (cs_ ++ ([(⟨p11.depth, p11.leaf, ⟨v26, sl28⟩⟩ : PlC)] : List PlC))]) [2, 1, 0, 3] rfl (by decide)
  obtain ⟨N2_, M⟩ := M.rowsAdd (d := p11.depth) (lf := p11.leaf) (sl := sl28) (ks := p11.keys)
  replace M := M.rechunk 0 (c' := rowsC 9 N2_ 0 (cs_ ++ ([(⟨p11.depth, p11.leaf, ⟨v26, sl28⟩⟩ : PlC)] : List PlC)) (l.take (i_ + 1))) rfl (by rw [← take_snoc hp11])
  replace M := M.sel (L' := [rowsC 9 N2_ 0 (cs_ ++ ([(⟨p11.depth, p11.leaf, ⟨v26, sl28⟩⟩ : PlC)] : List PlC)) (l.take (i_ + 1)), oL v30 (cs_ ++ ([(⟨p11.depth, p11.leaf, ⟨v26, sl28⟩⟩ : PlC)] : List PlC))]) [0, 2] rfl (by decide)
  replace M := M.sub (List.Sublist.refl _) (R' := [SlAt 3 v l.length cs3, RepL PlT cs3 l, RepS PlT v l]) (fun r h => (List.mem_cons_of_mem _ (List.mem_cons_of_mem _ h)))
  exact ⟨_, (by omega), i_ + 1, v30, cs_ ++ ([(⟨p11.depth, p11.leaf, ⟨v26, sl28⟩⟩ : PlC)] : List PlC), N2_, ⟨(by omega), rfl⟩, ⟨rfl, rfl, rfl, rfl, rfl, rfl⟩, M⟩
 ·
  have h8p := of_decide_eq_false h8
  refine W.exit ?_
  refine thn_exit ?_
  refine thn_exit ?_
  refine inBlk_hit ?_
  refine wR ?_
  refine wS v_ rfl (Step.move rfl) ?_
  refine wS v_ rfl (Step.assign rfl) ?_
  refine WL.nil ?_
  refine W.ret ?_
  refine ⟨.inl rfl, v_, ?_, ?_⟩
  · exact ⟨rfl, (Res.r1 (show RV _ _ _ (.tmp 2) v_ from by exact rfl))⟩
  have e34 : l = l.take i_ := by
   rw [List.take_of_length_le (by omega)]
  replace M := M.rechunk 0 (c' := rowsC 9 N_ 0 cs_ l) rfl (congrArg (fun z => rowsC 9 N_ 0 cs_ z) e34.symm)
  refine ⟨v_, cs_, N_, ?_, M.close [1, 0] rfl (by decide) trivial⟩
  rfl
end Go.Proofs
set_option maxRecDepth 100000
namespace Go.Proofs
open Go Tp
theorem Try.en16 : Enters Try.prog 16 := fun _ _ => by kernel_rfl
theorem Try.en18 : Enters Try.prog 18 := fun _ _ => by kernel_rfl
theorem Try.en19 : Enters Try.prog 19 := fun _ _ => by kernel_rfl
theorem Try.en39 : Enters Try.prog 39 := fun _ _ => by kernel_rfl
theorem Try.en40 : Enters Try.prog 40 := fun _ _ => by kernel_rfl
theorem Try.en60 : Enters Try.prog 60 := fun _ _ => by kernel_rfl
theorem Try.fl41 : (Try.prog.fieldsOf 41).toList = [⟨ "Key", 9, 0, false, "", "", 0⟩, ⟨ "Val", 3, 1, false, "", "", 16⟩] := by kernel_rfl
theorem Try.eg41 : Try.prog.eqGuardType Try.prog.depth 41 = false := by kernel_rfl
theorem Try.eq41 (d : Nat) (a0 : ByteArray) (a1 : Int) (b0 : ByteArray) (b1 : Int) : ∀ w, (Op.equalIn (d + 2) 41 (Value.agg #[(vS a0), (vI a1)]) (Value.agg #[(vS b0), (vI b1)])).run Try.prog w = .ok ((a0.toList == b0.toList) && (((a1 : Int) == (b1 : Int)) && true)) w :=
  (eq_struct (by kernel_rfl) (by kernel_rfl) (Try.fl41) (eqF_cons (x := (vS a0)) (y := (vS b0)) (by decide) (fun _ => by kernel_rfl) (fun _ => by kernel_rfl) (fun w => run_equalIn_string w _ _ _ _ (by kernel_rfl)) (eqF_cons (x := (vI a1)) (y := (vI b1)) (by decide) (fun _ => by kernel_rfl) (fun _ => by kernel_rfl) (fun w => run_equalIn_int w _ _ _ .i64 _ _ (by kernel_rfl)) eqF_nil)))
theorem l_does {G X : Nat → Prop} {w : World} (tb : Nat) (S : Nat → Prop) (row : List THit) (c : Nat) (rv : Value) (a : TAct)  (hc : c ≤ 800) (M : Mem G X w [tT S tb row c] [fR rv row] w) : Rets Try.prog 31 #[(vP tb), rv, (Value.agg #[(vI a.do_), (vS a.k), (vI a.v)])] w fun r w' => ∃ (rv' : Value) (S' : Nat → Prop), r = (Value.tuple #[rv', (vB true)]) ∧ Mem G X w [tT S' tb (doesR row a) (c + 1)] [fR rv' (doesR row a)] w' := by
 refine Rets.enter 89 _ Try.func31 rfl Try.ntmps31 Try.results31 (by simp) ?_
 have hle1 := SlAt.le' (M.rep 0 rfl)
 have sl2 : IsSl rv := SlAt.isSl (Mem.rep M 0 rfl)
 obtain ⟨hup0_, hrc_⟩ := tabC_up (M.chunk 0 rfl).inv
 refine wR ?_
 refine WL.box (v := (Value.agg #[(vI a.do_), (vS a.k), (vI a.v)])) (c := #[(vI a.do_), (vS a.k), (vI a.v)]) M rfl rfl rfl (fun b3 w4 hb3 M => ?_)
 refine wS vZ rfl (Step.assign rfl) ?_
 refine wS (vB false) rfl (Step.assign rfl) ?_
 refine WL.nil ?_
 refine wR ?_
 refine wS rv rfl (Step.move rfl) ?_
 refine wS (Value.pointer (some ⟨b3, 1, none⟩)) rfl sP ?_
 refine wS (vS a.k) rfl (Step.load1 Try.sc9 rfl ((M.cell 0 rfl 1).trans rfl)) ?_
 refine WL.callX rfl (r_get rv row a.k (M.enterW0 ⟨(M.wideR0 0 rfl), trivial⟩)) (CallsF.func Try.en40 rfl) ?_
 rintro _ w5 ⟨rfl, m⟩
 replace M := M.leaveW0 m
 clear m
 refine wS (Value.tuple #[(vI ((getL row a.k).1)), (vB ((getL row a.k).2))]) rfl (Step.move rfl) ?_
 refine wS (vI ((getL row a.k).1)) rfl sP ?_
 refine wS (vB ((getL row a.k).2)) rfl sP ?_
 refine wS (vI ((getL row a.k).1)) rfl (Step.assign rfl) ?_
 refine wS (vB ((getL row a.k).2)) rfl (Step.assign rfl) ?_
 refine WL.nil ?_
 refine W.seq' ?_
 refine wR ?_
 refine wS (vP b3) rfl sP ?_
 refine wS (vI a.do_) rfl (Step.load1 Try.sc3 rfl ((M.cell 0 rfl 0).trans rfl)) ?_
 refine WL.callX rfl (kit_pick a.do_ 4 (by omega) (M.enterW0 trivial)) (CallsF.func Try.en16 rfl) ?_
 rintro _ w6 ⟨rfl, m⟩
 replace M := M.leaveW0 m
 clear m
 refine WL.nil ?_
 refine W.block ?_
 refine W.seq' ?_
 refine wR ?_
 refine wS (vB ((pickI a.do_ 4 : Int) == (0 : Int))) rfl sP ?_
 refine wS (vB ((pickI a.do_ 4 : Int) == (0 : Int))) rfl (Step.assign rfl) ?_
 refine WL.nil ?_
 refine W.cond (t := (pickI a.do_ 4 : Int) == (0 : Int)) rfl (fun h7 => ?_) (fun h7 => ?_)
 ·
  have h7p : (pickI a.do_ 4 : Int) = (0 : Int) := by simpa using h7
  refine W.skip ?_
  refine W.cond (t := (pickI a.do_ 4 : Int) == (0 : Int)) rfl (fun h8 => ?_) (fun h8 => ?_)
  ·
   refine wR ?_
   refine wS (vP tb) rfl (Step.move rfl) ?_
   refine wS (Value.pointer (some ⟨b3, 1, none⟩)) rfl sP ?_
   refine wS (vS a.k) rfl (Step.load1 Try.sc9 rfl ((M.cell 0 rfl 1).trans rfl)) ?_
   refine wS (Value.pointer (some ⟨b3, 2, none⟩)) rfl sP ?_
   refine wS (vI a.v) rfl (Step.load1 Try.sc3 rfl ((M.cell 0 rfl 2).trans rfl)) ?_
   have fq := M.frm [tT S tb row c] [bk b3 #[(vI a.do_), (vS a.k), (vI a.v)] 64] [1, 0] rfl
   refine WL.callX rfl (T_put tb S row c a.k a.v (by first | assumption | omega) (M.eF fq trivial)) (CallsF.func Try.en18 rfl) ?_
   rintro _ w10 ⟨S9, rfl, m⟩
   replace M := M.lF fq m
   clear m
   refine wS (Value.tuple #[(vI ((getL row a.k).1)), (vB ((getL row a.k).2))]) rfl (Step.move rfl) ?_
   refine wS (vI ((getL row a.k).1)) rfl sP ?_
   refine wS (vB ((getL row a.k).2)) rfl sP ?_
   refine wS (vI ((getL row a.k).1)) rfl (Step.assign rfl) ?_
   refine wS (vB ((getL row a.k).2)) rfl (Step.assign rfl) ?_
   refine WL.nil ?_
   refine wR ?_
   refine wS rv rfl (Step.move rfl) ?_
   refine wS (Value.pointer (some ⟨b3, 1, none⟩)) rfl sP ?_
   refine wS (vS a.k) rfl (Step.load1 Try.sc9 rfl ((M.cell 1 rfl 1).trans rfl)) ?_
   refine wS (Value.pointer (some ⟨b3, 2, none⟩)) rfl sP ?_
   refine wS (vI a.v) rfl (Step.load1 Try.sc3 rfl ((M.cell 1 rfl 2).trans rfl)) ?_
   refine WL.callX rfl (r_put rv row a.k a.v (by omega) (M.enter0 ⟨(M.shr' 0 rfl), trivial⟩)) (CallsF.func Try.en39 rfl) ?_
   rintro v11 w12 ⟨_, rfl, m⟩
   replace M := M.leave0 m
   clear m
   have sl13 : IsSl v11 := SlAt.isSl (Mem.rep M 0 rfl)
   have hle14 := SlAt.le' (M.rep 0 rfl)
   refine wS (vI ((getL row a.k).1)) rfl (Step.move rfl) ?_
   refine wS (vI ((getL row a.k).1)) rfl (Step.move rfl) ?_
   refine wS (vB true) rfl (Step.cast (congrArg Value.bool (show (((getL row a.k).1 : Int) == ((getL row a.k).1 : Int)) = true by simp)) sP) ?_
   refine wS (vB true) rfl (Step.move rfl) ?_
   refine wS (vB ((getL row a.k).2)) rfl (Step.move rfl) ?_
   refine wS (vB ((getL row a.k).2)) rfl (Step.move rfl) ?_
   refine wS (vB true) rfl (Step.cast (congrArg Value.bool (by simp)) (Step.pure (v := .bool ((((getL row a.k).2) == ((getL row a.k).2)))) (by kernel_rfl))) ?_
   refine wS (vB true) rfl (Step.pick (t := true) rfl rfl) ?_
   refine wS v11 rfl (Step.assign rfl) ?_
   refine wS (vB true) rfl (Step.assign rfl) ?_
   refine WL.nil ?_
   refine W.ret ?_
   refine ⟨.inl rfl, (Value.tuple #[v11, (vB true)]), ?_, ?_⟩
   · exact ⟨rfl, (Res.r2 (show RV _ _ _ (.tmp 6) v11 from by exact rfl) (show RV _ _ _ (.tmp 7) (vB true) from by exact rfl))⟩
   have e15 : doesR row a = putR row (⟨a.k, a.v⟩ : THit) := by
    rw [does_put (.inl h7p)]
   replace M := M.rechunk 0 (c' := tT S9 tb (doesR row a) (c + 1)) rfl (by rw [e15])
   have e16 : doesR row a = putR row (⟨a.k, a.v⟩ : THit) := by
    rw [does_put (.inl h7p)]
   have hf17 := Sh.reList e16 (M.shr' 0 rfl)
   refine ⟨v11, S9, ?_, M.close [0] rfl (by decide) ⟨hf17, trivial⟩⟩
   rfl
  · exact absurd (h8.symm.trans h7) (by decide)
 ·
  have h7p : ¬ (pickI a.do_ 4 : Int) = (0 : Int) := by simpa using h7
  refine W.region rfl ?_
  refine wS (vB ((pickI a.do_ 4 : Int) == (1 : Int))) rfl sP ?_
  refine wS (vB ((pickI a.do_ 4 : Int) == (1 : Int))) rfl (Step.assign rfl) ?_
  refine WL.nil ?_
  refine W.cond (t := (pickI a.do_ 4 : Int) == (1 : Int)) rfl (fun h18 => ?_) (fun h18 => ?_)
  ·
   have h18p : (pickI a.do_ 4 : Int) = (1 : Int) := by simpa using h18
   refine wR ?_
   refine wS (vP tb) rfl (Step.move rfl) ?_
   refine wS (Value.pointer (some ⟨b3, 1, none⟩)) rfl sP ?_
   refine wS (vS a.k) rfl (Step.load1 Try.sc9 rfl ((M.cell 0 rfl 1).trans rfl)) ?_
   refine wS (Value.pointer (some ⟨b3, 2, none⟩)) rfl sP ?_
   refine wS (vI a.v) rfl (Step.load1 Try.sc3 rfl ((M.cell 0 rfl 2).trans rfl)) ?_
   have fq := M.frm [tT S tb row c] [bk b3 #[(vI a.do_), (vS a.k), (vI a.v)] 64] [1, 0] rfl
   refine WL.callX rfl (T_put tb S row c a.k a.v (by first | assumption | omega) (M.eF fq trivial)) (CallsF.func Try.en18 rfl) ?_
   rintro _ w20 ⟨S19, rfl, m⟩
   replace M := M.lF fq m
   clear m
   refine wS (Value.tuple #[(vI ((getL row a.k).1)), (vB ((getL row a.k).2))]) rfl (Step.move rfl) ?_
   refine wS (vI ((getL row a.k).1)) rfl sP ?_
   refine wS (vB ((getL row a.k).2)) rfl sP ?_
   refine wS (vI ((getL row a.k).1)) rfl (Step.assign rfl) ?_
   refine wS (vB ((getL row a.k).2)) rfl (Step.assign rfl) ?_
   refine WL.nil ?_
   refine wR ?_
   refine wS rv rfl (Step.move rfl) ?_
   refine wS (Value.pointer (some ⟨b3, 1, none⟩)) rfl sP ?_
   refine wS (vS a.k) rfl (Step.load1 Try.sc9 rfl ((M.cell 1 rfl 1).trans rfl)) ?_
   refine wS (Value.pointer (some ⟨b3, 2, none⟩)) rfl sP ?_
   refine wS (vI a.v) rfl (Step.load1 Try.sc3 rfl ((M.cell 1 rfl 2).trans rfl)) ?_
   refine WL.callX rfl (r_put rv row a.k a.v (by omega) (M.enter0 ⟨(M.shr' 0 rfl), trivial⟩)) (CallsF.func Try.en39 rfl) ?_
   rintro v21 w22 ⟨_, rfl, m⟩
   replace M := M.leave0 m
   clear m
   have sl23 : IsSl v21 := SlAt.isSl (Mem.rep M 0 rfl)
   have hle24 := SlAt.le' (M.rep 0 rfl)
   refine wS (vI ((getL row a.k).1)) rfl (Step.move rfl) ?_
   refine wS (vI ((getL row a.k).1)) rfl (Step.move rfl) ?_
   refine wS (vB true) rfl (Step.cast (congrArg Value.bool (show (((getL row a.k).1 : Int) == ((getL row a.k).1 : Int)) = true by simp)) sP) ?_
   refine wS (vB true) rfl (Step.move rfl) ?_
   refine wS (vB ((getL row a.k).2)) rfl (Step.move rfl) ?_
   refine wS (vB ((getL row a.k).2)) rfl (Step.move rfl) ?_
   refine wS (vB true) rfl (Step.cast (congrArg Value.bool (by simp)) (Step.pure (v := .bool ((((getL row a.k).2) == ((getL row a.k).2)))) (by kernel_rfl))) ?_
   refine wS (vB true) rfl (Step.pick (t := true) rfl rfl) ?_
   refine wS v21 rfl (Step.assign rfl) ?_
   refine wS (vB true) rfl (Step.assign rfl) ?_
   refine WL.nil ?_
   refine W.ret ?_
   refine ⟨.inl rfl, (Value.tuple #[v21, (vB true)]), ?_, ?_⟩
   · exact ⟨rfl, (Res.r2 (show RV _ _ _ (.tmp 6) v21 from by exact rfl) (show RV _ _ _ (.tmp 7) (vB true) from by exact rfl))⟩
   have e25 : doesR row a = putR row (⟨a.k, a.v⟩ : THit) := by
    rw [does_put (.inr h18p)]
   replace M := M.rechunk 0 (c' := tT S19 tb (doesR row a) (c + 1)) rfl (by rw [e25])
   have e26 : doesR row a = putR row (⟨a.k, a.v⟩ : THit) := by
    rw [does_put (.inr h18p)]
   have hf27 := Sh.reList e26 (M.shr' 0 rfl)
   refine ⟨v21, S19, ?_, M.close [0] rfl (by decide) ⟨hf27, trivial⟩⟩
   rfl
  ·
   have h18p : ¬ (pickI a.do_ 4 : Int) = (1 : Int) := by simpa using h18
   refine wR ?_
   refine wS (vB ((pickI a.do_ 4 : Int) == (2 : Int))) rfl sP ?_
   refine wS (vB ((pickI a.do_ 4 : Int) == (2 : Int))) rfl (Step.assign rfl) ?_
   refine WL.nil ?_
   refine W.cond (t := (pickI a.do_ 4 : Int) == (2 : Int)) rfl (fun h28 => ?_) (fun h28 => ?_)
   ·
    have h28p : (pickI a.do_ 4 : Int) = (2 : Int) := by simpa using h28
    refine wR ?_
    refine wS (vP tb) rfl (Step.move rfl) ?_
    refine wS (Value.pointer (some ⟨b3, 1, none⟩)) rfl sP ?_
    refine wS (vS a.k) rfl (Step.load1 Try.sc9 rfl ((M.cell 0 rfl 1).trans rfl)) ?_
    have fq := M.frm [tT S tb row c] [bk b3 #[(vI a.do_), (vS a.k), (vI a.v)] 64] [1, 0] rfl
    refine WL.callX rfl (T_delete tb S row c a.k (by first | assumption | omega) (M.eF fq trivial)) (CallsF.func Try.en19 rfl) ?_
    rintro _ w30 ⟨S29, rfl, m⟩
    replace M := M.lF fq m
    clear m
    refine wS (Value.tuple #[(vI ((getL row a.k).1)), (vB ((getL row a.k).2))]) rfl (Step.move rfl) ?_
    refine wS (vI ((getL row a.k).1)) rfl sP ?_
    refine wS (vB ((getL row a.k).2)) rfl sP ?_
    refine wS (vI ((getL row a.k).1)) rfl (Step.assign rfl) ?_
    refine wS (vB ((getL row a.k).2)) rfl (Step.assign rfl) ?_
    refine WL.nil ?_
    refine wR ?_
    refine wS rv rfl (Step.move rfl) ?_
    refine wS (Value.pointer (some ⟨b3, 1, none⟩)) rfl sP ?_
    refine wS (vS a.k) rfl (Step.load1 Try.sc9 rfl ((M.cell 1 rfl 1).trans rfl)) ?_
    refine WL.callX rfl (r_delete rv row a.k (by omega) (M.enter0 ⟨(M.shr' 0 rfl), trivial⟩)) (CallsF.func Try.en41 rfl) ?_
    rintro v31 w32 ⟨_, rfl, m⟩
    replace M := M.leave0 m
    clear m
    have sl33 : IsSl v31 := SlAt.isSl (Mem.rep M 0 rfl)
    have hle34 := SlAt.le' (M.rep 0 rfl)
    refine wS (vI ((getL row a.k).1)) rfl (Step.move rfl) ?_
    refine wS (vI ((getL row a.k).1)) rfl (Step.move rfl) ?_
    refine wS (vB true) rfl (Step.cast (congrArg Value.bool (show (((getL row a.k).1 : Int) == ((getL row a.k).1 : Int)) = true by simp)) sP) ?_
    refine wS (vB true) rfl (Step.move rfl) ?_
    refine wS (vB ((getL row a.k).2)) rfl (Step.move rfl) ?_
    refine wS (vB ((getL row a.k).2)) rfl (Step.move rfl) ?_
    refine wS (vB true) rfl (Step.cast (congrArg Value.bool (by simp)) (Step.pure (v := .bool ((((getL row a.k).2) == ((getL row a.k).2)))) (by kernel_rfl))) ?_
    refine wS (vB true) rfl (Step.pick (t := true) rfl rfl) ?_
    refine wS v31 rfl (Step.assign rfl) ?_
    refine wS (vB true) rfl (Step.assign rfl) ?_
    refine WL.nil ?_
    refine W.ret ?_
    refine ⟨.inl rfl, (Value.tuple #[v31, (vB true)]), ?_, ?_⟩
    · exact ⟨rfl, (Res.r2 (show RV _ _ _ (.tmp 6) v31 from by exact rfl) (show RV _ _ _ (.tmp 7) (vB true) from by exact rfl))⟩
    replace M := M.tabUp
    have e35 : doesR row a = delL row a.k := by
     rw [does_del h7p h18p h28p]
    replace M := M.rechunk 0 (c' := tT S29 tb (doesR row a) (c + 1)) rfl (by rw [e35])
    have e36 : doesR row a = delL row a.k := by
     rw [does_del h7p h18p h28p]
    have hf37 := Sh.reList e36 (M.shr' 0 rfl)
    refine ⟨v31, S29, ?_, M.close [0] rfl (by decide) ⟨hf37, trivial⟩⟩
    rfl
   ·
    have h28p : ¬ (pickI a.do_ 4 : Int) = (2 : Int) := by simpa using h28
    refine W.skip ?_
    refine wR ?_
    refine wS (vP tb) rfl (Step.move rfl) ?_
    refine wS (Value.pointer (some ⟨b3, 1, none⟩)) rfl sP ?_
    refine wS (vS a.k) rfl (Step.load1 Try.sc9 rfl ((M.cell 0 rfl 1).trans rfl)) ?_
    have fq := M.frm [tT S tb row c] [bk b3 #[(vI a.do_), (vS a.k), (vI a.v)] 64] [1, 0] rfl
    refine WL.callX rfl (T_get tb S row c a.k (by first | assumption | omega) (M.eF fq trivial)) (CallsF.func Try.en17 rfl) ?_
    rintro _ w38 ⟨rfl, m⟩
    replace M := M.lF fq m
    clear m
    refine wS (Value.tuple #[(vI ((getL row a.k).1)), (vB ((getL row a.k).2))]) rfl (Step.move rfl) ?_
    refine wS (vI ((getL row a.k).1)) rfl sP ?_
    refine wS (vB ((getL row a.k).2)) rfl sP ?_
    refine wS (vI ((getL row a.k).1)) rfl (Step.assign rfl) ?_
    refine wS (vB ((getL row a.k).2)) rfl (Step.assign rfl) ?_
    refine WL.nil ?_
    refine wR ?_
    refine wS rv rfl (Step.move rfl) ?_
    refine wS (vI ((getL row a.k).1)) rfl (Step.move rfl) ?_
    refine wS (vI ((getL row a.k).1)) rfl (Step.move rfl) ?_
    refine wS (vB true) rfl (Step.cast (congrArg Value.bool (show (((getL row a.k).1 : Int) == ((getL row a.k).1 : Int)) = true by simp)) sP) ?_
    refine wS (vB true) rfl (Step.move rfl) ?_
    refine wS (vB ((getL row a.k).2)) rfl (Step.move rfl) ?_
    refine wS (vB ((getL row a.k).2)) rfl (Step.move rfl) ?_
    refine wS (vB true) rfl (Step.cast (congrArg Value.bool (by simp)) (Step.pure (v := .bool ((((getL row a.k).2) == ((getL row a.k).2)))) (by kernel_rfl))) ?_
    refine wS (vB true) rfl (Step.pick (t := true) rfl rfl) ?_
    refine wS rv rfl (Step.assign rfl) ?_
    refine wS (vB true) rfl (Step.assign rfl) ?_
    refine WL.nil ?_
    refine W.ret ?_
    refine ⟨.inl rfl, (Value.tuple #[rv, (vB true)]), ?_, ?_⟩
    · exact ⟨rfl, (Res.r2 (show RV _ _ _ (.tmp 6) rv from by exact rfl) (show RV _ _ _ (.tmp 7) (vB true) from by exact rfl))⟩
    replace M := M.tabUp
    have e39 : doesR row a = row := by
     rw [does_get h7p h18p h28p]
    replace M := M.rechunk 0 (c' := tT S tb (doesR row a) (c + 1)) rfl (by rw [e39])
    have e40 : doesR row a = row := by
     rw [does_get h7p h18p h28p]
    have hf41 := Sh.reList e40 (M.shr' 0 rfl)
    refine ⟨rv, S, ?_, M.close [0] rfl (by decide) ⟨hf41, trivial⟩⟩
    rfl
end Go.Proofs
