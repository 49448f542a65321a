/- Proved here: lemmas and walks on which the claim stands (part 5 of 6). No condition. -/
import Derived.Test.YtnlnpfpfggbheaaSn4
set_option linter.all false
set_option maxRecDepth 100000
namespace Go.Proofs
open Go Tp
theorem Try.en48 : Enters Try.prog 48 := fun _ _ => by kernel_rfl
theorem Try.en92 : Enters Try.prog 92 := fun _ _ => by kernel_rfl
set_option maxHeartbeats 1000000 in
theorem tr_remove : ∀ (d : Nat) {G X : Nat → Prop} {w : World} (tb ab : Nat) (r : Handle) (fu : Bool) (ln : Int) (l : List RPlace) (S : Nat → Prop) (h : Handle) (k : ByteArray)  (hO : remOk d l h k) (M : Mem G X w [arenaC 143 145 S ab l] [bF tb #[(vP ab), (vI r.at_), (vI r.turn), (vB fu), (vI ln)] 94] w), Rets Try.prog 48 #[(vP tb), (Value.agg #[(vI h.at_), (vI h.turn)]), (vS k)] w fun r w' => ∃ (S' : Nat → Prop), r = undef ∧ Mem G X w [arenaC 143 145 S' ab (remF d l h k)] [] w' := by
 intro d
 induction d using Nat.strongRecOn
 rename_i d ih
 intro G X w tb ab r fu ln l S h k hO M
 refine Rets.enter 83 _ Try.func48 rfl Try.ntmps48 Try.results48 (by simp) ?_
 obtain ⟨n, hn⟩ : ∃ n, (rget l h).1 = n := ⟨_, rfl⟩
 obtain ⟨hA, hty, hvl, hup⟩ := remOk_node hO hn
 obtain ⟨ht1, ht2, ht3⟩ := hty
 have hbi_ := bsI_le n.keys k
 refine wR ?_
 refine WL.box (v := (Value.agg #[(vI h.at_), (vI h.turn)])) (c := #[(vI h.at_), (vI h.turn)]) M rfl rfl rfl (fun b1 w2 hb1 M => ?_)
 refine WL.nil (wR (wM (vP tb) (wS (Value.agg #[(vI h.at_), (vI h.turn)]) rfl (Step.loadN Try.ag92 rfl (M.blk 0 rfl) (Nat.le_of_ble_eq_true rfl) rfl) ?_)))
 have fq := M.frm [arenaC 143 145 S ab l] [bk b1 #[(vI h.at_), (vI h.turn)] 92] [1, 0] rfl
 refine WL.callX rfl (tr_node tb ab r fu ln l S h (by assumption) n hn (M.eF fq ⟨(M.rF fq 0 rfl), trivial⟩)) (CallsF.func Try.en49 rfl) ?_
 rintro _ w6 ⟨kv3, dv4, vv5, rfl, m⟩
 replace M := M.lF fq m
 clear m
 have sl7 : IsSl kv3 := SlAt.isSl (own_slAt (Mem.chunk M 1 rfl).inv)
 have hle8 := SlAt.le' (own_slAt (Mem.chunk M 1 rfl).inv)
 have sl9 : IsSl dv4 := SlAt.isSl (own_slAt (Mem.chunk M 2 rfl).inv)
 have hle10 := SlAt.le' (own_slAt (Mem.chunk M 2 rfl).inv)
 have sl11 : IsSl vv5 := SlAt.isSl (own_slAt (Mem.chunk M 3 rfl).inv)
 have hle12 := SlAt.le' (own_slAt (Mem.chunk M 3 rfl).inv)
 refine WL.alloc (c := #[(vB false), vZ, vZ, vZ]) M rfl Try.el99.zero rfl (fun b13 w14 hb13 M => ?_)
 refine WL.store (v := (Value.agg #[(vB n.leaf), kv3, dv4, vv5])) (cs := [(vB n.leaf), kv3, dv4, vv5]) (c' := #[(vB n.leaf), kv3, dv4, vv5]) M 0 rfl rfl Try.el99.sized rfl rfl rfl rfl (Nat.le_of_ble_eq_true rfl) (cel_cons rfl (cel_cons (IsSl.cel sl7) (cel_cons (IsSl.cel sl9) (cel_cons (IsSl.cel sl11) cel_nil)))) rfl rfl (fun w15 M => ?_)
 refine WL.nil (wR (wP (Value.pointer (some ⟨b13, 1, none⟩)) (wS kv3 rfl (Step.load1 Try.sc22 rfl ((M.cell 0 rfl 1).trans rfl)) (wM (vS k) ?_))))
 refine WL.callX rfl (bs_str kv3 n.keys k (by omega) (by assumption) (M.enterW0 ⟨((M.wideC0 2 rfl).imp fun _ h => own_slAt h), trivial⟩)) (CallsF.func Try.en83 rfl) ?_
 rintro _ w16 ⟨rfl, m⟩
 replace M := M.leaveW0 m
 clear m
 refine wM (Value.tuple #[(vI (↑(bsI n.keys k))), (vB (bsF n.keys k))]) (wP (vI (↑(bsI n.keys k))) (wP (vB (bsF n.keys k)) (wA (vI (↑(bsI n.keys k))) (wA (vB (bsF n.keys k)) (WL.nil ?_)))))
 refine W.seq' (W.block (wR (wM (vB (bsF n.keys k)) (wM (vB (bsF n.keys k)) ?_))))
 rcases Bool.eq_false_or_eq_true (bsF n.keys k) with h17 | h17
 ·
  have hbl_ := bsF_lt h17
  rw [h17]
  refine wP (vP b13) (wS (vB n.leaf) rfl (Step.load1 Try.sc4 rfl ((M.cell 0 rfl 0).trans rfl)) (wS (vB n.leaf) rfl (Step.pick (t := true) rfl rfl) (wA (vB n.leaf) (WL.nil ?_))))
  refine W.cond (t := n.leaf) rfl (fun h18 => ?_) (fun h18 => ?_)
  ·
   have hlf_ : n.leaf = true := h18
   refine W.seq' ?_
   refine W.drawn2 M [0, 1, 2, 3, 4, 5, 6, 7, 8, 9, 10, 11, 12] [13, 14, 15] [5, 11, 13, 15] [] _ _ (sY (sY (sN (sY (sN (sY sE)))))) (fun _ h => h) Try.mixed (by kernel_rfl) ?_
   refine tP (Value.pointer (some ⟨b13, 1, none⟩)) rfl (fun w => sP) ?_
   refine tR kv3 rfl (fun A w M => (Step.load1 Try.sc22 rfl ((M.cell 1 rfl 1).trans rfl))) ?_
   refine tP (vI (↑(bsI n.keys k))) rfl (fun w => (Step.move rfl)) ?_
   refine tP (vI (↑(bsI n.keys k))) rfl (fun w => (Step.move rfl)) ?_
   refine tP (vI (↑((bsI n.keys k) + 1))) rfl (fun w => (Step.cast (congrArg (Value.int .i64) (show (↑(bsI n.keys k) + 1 : Int) = ↑((bsI n.keys k) + 1) by omega)) (Step.add rfl rfl (wrap_i64 (by omega))))) ?_
   let Q : List Chunk := [bk b13 #[(vB n.leaf), kv3, dv4, vv5] 99, arenaC 143 145 S ab l, oH dv4 n.kids, oI vv5 n.vals, bk b1 #[(vI h.at_), (vI h.turn)] 92]
   refine TW.callX (ι := Value) (fun jx v_ => v_ = jx) (fun jx => oS jx (n.keys.take (Int.toNat (↑(bsI n.keys k))) ++ n.keys.drop (Int.toNat (↑((bsI n.keys k) + 1)))) :: Q) (fun jx => [bF tb #[(vP ab), (vI r.at_), (vI r.turn), (vB fu), (vI ln)] 94]) rfl (by decide) rfl (fun jx => (sN (sY (sY (sY (sN (sY sE))))))) (fun jx r h => h) (fun A w M => have fq := M.frm [oS kv3 n.keys] (fl A :: Q) [3, 0, 1, 2, 4, 5, 6] rfl; Rets.mono (delete_str kv3 n.keys (↑(bsI n.keys k)) (↑((bsI n.keys k) + 1)) (by omega) (M.eF fq trivial)) (fun v_ w_ ⟨v31, e_, m⟩ => ⟨v31, e_, (M.lF fq m).sel [1, 0, 2, 3, 4, 5, 6] rfl (by decide), fun b hb => M.kF fq m b hb⟩)) (fun w => CallsF.func Try.en89 rfl) (fun v31 v hp hin => ?_)
   replace hp := hp.symm; subst hp
   obtain ⟨_, _, hin⟩ := hin
   have sl32 : IsSl v31 := SlAt.isSl (own_slAt (Mem.chunk hin 1 rfl).inv)
   have hle33 := SlAt.le' (own_slAt (Mem.chunk hin 1 rfl).inv)
   clear hin
   refine tP (Value.pointer (some ⟨b13, 3, none⟩)) rfl (fun w => sP) ?_
   refine tR vv5 rfl (fun A w M => (Step.load1 Try.sc97 rfl ((M.cell 1 rfl 3).trans rfl))) ?_
   refine tP (vI (↑(bsI n.keys k))) rfl (fun w => (Step.move rfl)) ?_
   refine tP (vI (↑(bsI n.keys k))) rfl (fun w => (Step.move rfl)) ?_
   refine tP (vI (↑((bsI n.keys k) + 1))) rfl (fun w => (Step.cast (congrArg (Value.int .i64) (show (↑(bsI n.keys k) + 1 : Int) = ↑((bsI n.keys k) + 1) by omega)) (Step.add rfl rfl (wrap_i64 (by omega))))) ?_
   let Q : List Chunk := [oS v31 (n.keys.take (Int.toNat (↑(bsI n.keys k))) ++ n.keys.drop (Int.toNat (↑((bsI n.keys k) + 1)))), bk b13 #[(vB n.leaf), kv3, dv4, vv5] 99, arenaC 143 145 S ab l, oH dv4 n.kids, bk b1 #[(vI h.at_), (vI h.turn)] 92]
   refine TW.callX (ι := Value) (fun jx v_ => v_ = jx) (fun jx => oI jx (n.vals.take (Int.toNat (↑(bsI n.keys k))) ++ n.vals.drop (Int.toNat (↑((bsI n.keys k) + 1)))) :: Q) (fun jx => [bF tb #[(vP ab), (vI r.at_), (vI r.turn), (vB fu), (vI ln)] 94]) rfl (by decide) rfl (fun jx => (sN (sN (sY (sY (sY (sY sE))))))) (fun jx r h => h) (fun A w M => have fq := M.frm [oI vv5 n.vals] (fl A :: Q) [5, 0, 1, 2, 3, 4, 6] rfl; Rets.mono (delete_int vv5 n.vals (↑(bsI n.keys k)) (↑((bsI n.keys k) + 1)) (by omega) (M.eF fq trivial)) (fun v_ w_ ⟨v34, e_, m⟩ => ⟨v34, e_, (M.lF fq m).sel [1, 0, 2, 3, 4, 5, 6] rfl (by decide), fun b hb => M.kF fq m b hb⟩)) (fun w => CallsF.func Try.en90 rfl) (fun v34 v hp hin => ?_)
   replace hp := hp.symm; subst hp
   obtain ⟨_, _, hin⟩ := hin
   have sl35 : IsSl v34 := SlAt.isSl (own_slAt (Mem.chunk hin 1 rfl).inv)
   have hle36 := SlAt.le' (own_slAt (Mem.chunk hin 1 rfl).inv)
   clear hin
   refine tP (Value.pointer (some ⟨b13, 1, none⟩)) rfl (fun w => sP) ?_
   refine TW.turn _ _ (sY (sY (sN (sY (sY (sY sE)))))) (fun _ h => h) ?_
   refine TW.store (v := v31) (cs := [v31]) (c' := #[(vB n.leaf), v31, dv4, vv5]) 2 rfl rfl (by decide) rfl Try.el22.sized rfl rfl (IsSl.list sl32) rfl (Nat.le_of_ble_eq_true rfl) (cel_cons (IsSl.cel sl32) cel_nil) rfl rfl (sY (sY (sN (sY (sY (sY sE)))))) (fun r h => h) ?_
   refine tP (Value.pointer (some ⟨b13, 3, none⟩)) rfl (fun w => sP) ?_
   refine TW.store (v := v34) (cs := [v34]) (c' := #[(vB n.leaf), v31, dv4, v34]) 2 rfl rfl (by decide) rfl Try.el97.sized rfl rfl (IsSl.list sl35) rfl (Nat.le_of_ble_eq_true rfl) (cel_cons (IsSl.cel sl35) cel_nil) rfl rfl (sY (sY (sN (sY (sY (sY sE)))))) (fun r h => h) ?_
   refine TW.done (fun w39 M => ?_)
   refine wR (wM (vP tb) (wS (Value.agg #[(vI h.at_), (vI h.turn)]) rfl (Step.loadN Try.ag92 rfl (M.blk 5 rfl) (Nat.le_of_ble_eq_true rfl) rfl) (wS (Value.agg #[(vB n.leaf), v31, dv4, v34]) rfl (Step.loadN Try.ag99 rfl (M.blk 2 rfl) (Nat.le_of_ble_eq_true rfl) rfl) ?_)))
   have fq := M.frm [arenaC 143 145 S ab l] [oI v34 (n.vals.take (Int.toNat (↑(bsI n.keys k))) ++ n.vals.drop (Int.toNat (↑((bsI n.keys k) + 1)))), oS v31 (n.keys.take (Int.toNat (↑(bsI n.keys k))) ++ n.keys.drop (Int.toNat (↑((bsI n.keys k) + 1)))), bk b13 #[(vB n.leaf), v31, dv4, v34] 99, oH dv4 n.kids, bk b1 #[(vI h.at_), (vI h.turn)] 92] [3, 0, 1, 2, 4, 5] rfl
   refine WL.callX rfl (tr_put tb ab r fu ln l S h v31 dv4 v34 (⟨n.leaf, n.keys.take (Int.toNat (↑(bsI n.keys k))) ++ n.keys.drop (Int.toNat (↑((bsI n.keys k) + 1))), n.kids, n.vals.take (Int.toNat (↑(bsI n.keys k))) ++ n.vals.drop (Int.toNat (↑((bsI n.keys k) + 1)))⟩ : Nd) (by assumption) (by simp [insL] <;> omega) (by simp [insL] <;> omega) (by simp [insL] <;> omega) (M.eF fq ⟨(M.rF fq 0 rfl), ((M.cF fq 1 rfl).imp fun _ h => own_slAt h), ((M.cF fq 3 rfl).imp fun _ h => own_slAt h), ((M.cF fq 0 rfl).imp fun _ h => own_slAt h), trivial⟩)) (CallsF.func Try.en84 rfl) ?_
   rintro _ w41 ⟨S40, rfl, m⟩
   replace M := M.lF fq m
   clear m
   refine WL.nil ?_
   refine W.ret ?_
   refine ⟨.inl rfl, undef, ?_, ?_⟩
   · exact ⟨rfl, Res.none⟩
   have e42 : (remF d l h k) = (rput l h (⟨n.leaf, n.keys.take (Int.toNat (↑(bsI n.keys k))) ++ n.keys.drop (Int.toNat (↑((bsI n.keys k) + 1))), n.kids, n.vals.take (Int.toNat (↑(bsI n.keys k))) ++ n.vals.drop (Int.toNat (↑((bsI n.keys k) + 1)))⟩ : Nd)).1 := by
    rw [remF_leaf hn h17 hlf_]
    simp [List.eraseIdx_eq_take_drop_succ]
   replace M := M.rechunk 0 (c' := arenaC 143 145 S40 ab (remF d l h k)) rfl (congrArg (fun z => arenaC 143 145 S40 ab z) e42.symm)
   refine ⟨S40, ?_, M.close [0] rfl (by decide) trivial⟩
   rfl
  ·
   have hlf_ : n.leaf = false := h18
   obtain ⟨e, rfl, hkl_, hO2⟩ := remOk_hit hO hn h17 hlf_
   refine wR (wM (vB true) (wA (vB true) (WL.nil ?_)))
   refine W.cond (t := true) rfl (fun _ => ?_) (fun h => by cases h)
   refine wR (wM (vP tb) (wP (Value.pointer (some ⟨b13, 2, none⟩)) (wS dv4 rfl (Step.load1 Try.sc96 rfl ((M.cell 0 rfl 2).trans rfl)) (wM (vI (↑(bsI n.keys k))) ?_))))
   obtain ⟨cap44, hb43⟩ := SlAt.base (own_slAt (M.chunk 3 rfl).inv) (by omega)
   obtain ⟨x45, hx45⟩ := elem_of_lt (xs := n.kids) (i := bsI n.keys k) (by omega)
   have hgd_ : n.kids.getD (bsI n.keys k) hdZero = x45 := by rw [List.getD_eq_getElem?_getD, hx45]; rfl
   obtain ⟨hLo, hO3, hM⟩ := hO2 _ hgd_
   refine wS (vQ dv4 (bsI n.keys k) 2) rfl (sX (bsI n.keys k) Try.un96 Try.el92 rfl rfl hb43) (wS (Value.agg #[(vI x45.at_), (vI x45.turn)]) rfl (Step.loadEN (k := 0) (cs' := [(vI x45.at_), (vI x45.turn)]) Try.ag92 (flat_ec (own_slAt (M.chunk 3 rfl).inv) hx45 handleE_len) (by decide) rfl rfl rfl) ?_)
   have fq := M.frm [arenaC 143 145 S ab l] [bk b13 #[(vB n.leaf), kv3, dv4, vv5] 99, oS kv3 n.keys, oH dv4 n.kids, oI vv5 n.vals, bk b1 #[(vI h.at_), (vI h.turn)] 92] [1, 0, 2, 3, 4, 5] rfl
   refine WL.callX rfl (tr_last e tb ab r fu ln l S x45 (by assumption) (by assumption) (M.eF fq ⟨(M.rF fq 0 rfl), trivial⟩)) (CallsF.func Try.en91 rfl) ?_
   rintro _ w46 ⟨rfl, m⟩
   replace M := M.lF fq m
   clear m
   refine WL.alloc (c := #[(vS sZ), (vI 0)]) M rfl Try.el41.zero rfl (fun b47 w48 hb47 M => ?_)
   refine WL.store (v := (Value.agg #[(vS ((lastF e l x45).key)), (vI ((lastF e l x45).val))])) (cs := [(vS ((lastF e l x45).key)), (vI ((lastF e l x45).val))]) (c' := #[(vS ((lastF e l x45).key)), (vI ((lastF e l x45).val))]) M 0 rfl rfl Try.el41.sized rfl rfl rfl rfl (Nat.le_of_ble_eq_true rfl) (cel_cons rfl (cel_cons rfl cel_nil)) rfl rfl (fun w49 M => ?_)
   refine WL.nil (W.seq' ?_)
   obtain ⟨cap51, hb50⟩ := SlAt.base (own_slAt (M.chunk 3 rfl).inv) (by omega)
   obtain ⟨x52, hx52⟩ := elem_of_lt (xs := n.keys) (i := bsI n.keys k) (by omega)
   obtain ⟨pre53, post54, hcs55, hpre56, hback57⟩ := flat_open strE_len hx52
   replace M := M.rechunk 3 (c' := own 9 1 kv3 n.keys.length (pre53 ++ ([(vS x52)] ++ post54))) rfl (by show own 9 1 kv3 n.keys.length (n.keys.flatMap strE) = _; rw [hcs55]; rfl)
   obtain ⟨cap59, hb58⟩ := SlAt.base (own_slAt (M.chunk 5 rfl).inv) (by omega)
   obtain ⟨x60, hx60⟩ := elem_of_lt (xs := n.vals) (i := bsI n.keys k) (by omega)
   obtain ⟨pre61, post62, hcs63, hpre64, hback65⟩ := flat_open intE_len hx60
   replace M := M.rechunk 5 (c' := own 3 1 vv5 n.vals.length (pre61 ++ ([(vI x60)] ++ post62))) rfl (by show own 3 1 vv5 n.vals.length (n.vals.flatMap intE) = _; rw [hcs63]; rfl)
   refine W.drawn M [0, 1, 2, 3, 4, 5, 6, 7, 8, 9, 10, 11, 12, 13] [11, 13] [] _ _ (sY (sY (sY (sN (sY (sN (sY sE))))))) (fun _ h => h) Try.mixed (by kernel_rfl) ?_
   refine tP (Value.pointer (some ⟨b13, 1, none⟩)) rfl (fun w => sP) ?_
   refine tR kv3 rfl (fun A w M => (Step.load1 Try.sc22 rfl ((M.cell 3 rfl 1).trans rfl))) ?_
   refine tP (vI (↑(bsI n.keys k))) rfl (fun w => (Step.move rfl)) ?_
   refine tP (Value.pointer (some ⟨b13, 3, none⟩)) rfl (fun w => sP) ?_
   refine tR vv5 rfl (fun A w M => (Step.load1 Try.sc97 rfl ((M.cell 3 rfl 3).trans rfl))) ?_
   refine tP (vI (↑(bsI n.keys k))) rfl (fun w => (Step.move rfl)) ?_
   refine tP (vP b47) rfl (fun w => sP) ?_
   refine tR (vS ((lastF e l x45).key)) rfl (fun A w M => (Step.load1 Try.sc9 rfl ((M.cell 1 rfl 0).trans rfl))) ?_
   refine tP (Value.pointer (some ⟨b47, 1, none⟩)) rfl (fun w => sP) ?_
   refine tR (vI ((lastF e l x45).val)) rfl (fun A w M => (Step.load1 Try.sc3 rfl ((M.cell 1 rfl 1).trans rfl))) ?_
   refine tP (vQ kv3 (bsI n.keys k) 1) rfl (fun w => (sX (bsI n.keys k) Try.un22 Try.el9 rfl rfl hb50)) ?_
   refine TW.act (c' := own 9 1 kv3 n.keys.length (pre53 ++ ([(vS ((lastF e l x45).key))] ++ post54))) 3 rfl rfl (by decide) rfl (sY (sY (sY (sN (sY (sN (sY sE))))))) (fun r h => h) (fun A w M => M.storeAt (cells := [(vS x52)]) (cells' := [(vS ((lastF e l x45).key))]) (new := [(vS ((lastF e l x45).key))]) (k := 0) 4 rfl hpre56 Try.el9.sized rfl rfl rfl (cel_cons rfl cel_nil) (by first | omega | (simp only [List.length_set, List.length_append, List.length_cons, List.length_nil]; omega)) (Nat.le_of_ble_eq_true rfl) rfl rfl) ?_
   refine tP (vQ vv5 (bsI n.keys k) 1) rfl (fun w => (sX (bsI n.keys k) Try.un97 Try.el3 rfl rfl hb58)) ?_
   refine TW.act (c' := own 3 1 vv5 n.vals.length (pre61 ++ ([(vI ((lastF e l x45).val))] ++ post62))) 5 rfl rfl (by decide) rfl (sY (sY (sY (sN (sY (sN (sY sE))))))) (fun r h => h) (fun A w M => M.storeAt (cells := [(vI x60)]) (cells' := [(vI ((lastF e l x45).val))]) (new := [(vI ((lastF e l x45).val))]) (k := 0) 6 rfl hpre64 Try.el3.sized rfl rfl rfl (cel_cons rfl cel_nil) (by first | omega | (simp only [List.length_set, List.length_append, List.length_cons, List.length_nil]; omega)) (Nat.le_of_ble_eq_true rfl) rfl rfl) ?_
   refine TW.done (fun w66 M => ?_)
   refine wR (wM (vP tb) (wS (Value.agg #[(vI h.at_), (vI h.turn)]) rfl (Step.loadN Try.ag92 rfl (M.blk 6 rfl) (Nat.le_of_ble_eq_true rfl) rfl) (wS (Value.agg #[(vB n.leaf), kv3, dv4, vv5]) rfl (Step.loadN Try.ag99 rfl (M.blk 2 rfl) (Nat.le_of_ble_eq_true rfl) rfl) ?_)))
   replace M := M.rechunk 3 (c' := own 9 1 kv3 (n.keys.length) ((n.keys.set (bsI n.keys k) ((lastF e l x45).key)).flatMap strE)) rfl (by rw [← hback57]; rfl)
   replace M := M.rechunk 3 (c' := oS kv3 (n.keys.set (bsI n.keys k) ((lastF e l x45).key))) rfl (by show _ = own 9 1 kv3 ((n.keys.set (bsI n.keys k) ((lastF e l x45).key)).length) ((n.keys.set (bsI n.keys k) ((lastF e l x45).key)).flatMap strE); rw [List.length_set])
   replace M := M.rechunk 5 (c' := own 3 1 vv5 (n.vals.length) ((n.vals.set (bsI n.keys k) ((lastF e l x45).val)).flatMap intE)) rfl (by rw [← hback65]; rfl)
   replace M := M.rechunk 5 (c' := oI vv5 (n.vals.set (bsI n.keys k) ((lastF e l x45).val))) rfl (by show _ = own 3 1 vv5 ((n.vals.set (bsI n.keys k) ((lastF e l x45).val)).length) ((n.vals.set (bsI n.keys k) ((lastF e l x45).val)).flatMap intE); rw [List.length_set])
   have fq := M.frm [arenaC 143 145 S ab l] [bk b47 #[(vS ((lastF e l x45).key)), (vI ((lastF e l x45).val))] 41, bk b13 #[(vB n.leaf), kv3, dv4, vv5] 99, oS kv3 (n.keys.set (bsI n.keys k) ((lastF e l x45).key)), oH dv4 n.kids, oI vv5 (n.vals.set (bsI n.keys k) ((lastF e l x45).val)), bk b1 #[(vI h.at_), (vI h.turn)] 92] [1, 0, 2, 3, 4, 5, 6] rfl
   refine WL.callX rfl (tr_put tb ab r fu ln l S h kv3 dv4 vv5 (⟨n.leaf, n.keys.set (bsI n.keys k) ((lastF e l x45).key), n.kids, n.vals.set (bsI n.keys k) ((lastF e l x45).val)⟩ : Nd) (by assumption) (by simp [insL] <;> omega) (by simp [insL] <;> omega) (by simp [insL] <;> omega) (M.eF fq ⟨(M.rF fq 0 rfl), ((M.cF fq 2 rfl).imp fun _ h => own_slAt h), ((M.cF fq 3 rfl).imp fun _ h => own_slAt h), ((M.cF fq 4 rfl).imp fun _ h => own_slAt h), trivial⟩)) (CallsF.func Try.en84 rfl) ?_
   rintro _ w68 ⟨S67, rfl, m⟩
   replace M := M.lF fq m
   clear m
   refine WL.nil ?_
   obtain ⟨l1_, hl1_⟩ : ∃ q, ((rput l h (⟨n.leaf, n.keys.set (bsI n.keys k) ((lastF e l x45).key), n.kids, n.vals.set (bsI n.keys k) ((lastF e l x45).val)⟩ : Nd)).1) = q := ⟨_, rfl⟩
   have hAl1_ : SmallA l1_ := by rw [← hl1_]; first | exact SmallA.put (by assumption) (by first | omega | (simp [insL] <;> omega)) (by first | omega | (simp [insL] <;> omega)) (by first | omega | (simp [insL] <;> omega)) | exact SmallA.free (by assumption)
   replace M := M.rechunk 0 (c' := arenaC 143 145 S67 ab l1_) rfl (by rw [hl1_])
   rw [hl1_] at hO3 hM
   refine W.region rfl (wP (vP b47) (wS (vS ((lastF e l x45).key)) rfl (Step.load1 Try.sc9 rfl ((M.cell 1 rfl 0).trans rfl)) (wA (vS ((lastF e l x45).key)) (WL.nil (W.seq' ?_)))))
   replace M := M.loseI 1
   refine W.region rfl (wM (vP tb) (wP (Value.pointer (some ⟨b13, 2, none⟩)) (wS dv4 rfl (Step.load1 Try.sc96 rfl ((M.cell 1 rfl 2).trans rfl)) (wM (vI (↑(bsI n.keys k))) (wS (vQ dv4 (bsI n.keys k) 2) rfl (sX (bsI n.keys k) Try.un96 Try.el92 rfl rfl hb43) ?_)))))
   refine wS (Value.agg #[(vI x45.at_), (vI x45.turn)]) rfl (Step.loadEN (k := 0) (cs' := [(vI x45.at_), (vI x45.turn)]) Try.ag92 (flat_ec (own_slAt (M.chunk 3 rfl).inv) hx45 handleE_len) (by decide) rfl rfl rfl) (wM (vS ((lastF e l x45).key)) ?_)
   have fq := M.frm [arenaC 143 145 S67 ab l1_] [bk b13 #[(vB n.leaf), kv3, dv4, vv5] 99, oS kv3 (n.keys.set (bsI n.keys k) ((lastF e l x45).key)), oH dv4 n.kids, oI vv5 (n.vals.set (bsI n.keys k) ((lastF e l x45).val)), bk b1 #[(vI h.at_), (vI h.turn)] 92] [0, 1, 2, 3, 4, 5] rfl
   refine WL.callX rfl (ih e (by omega) tb ab r fu ln l1_ S67 x45 ((lastF e l x45).key) (by assumption) (M.eF fq ⟨(M.rF fq 0 rfl), trivial⟩)) (CallsF.func Try.en48 rfl) ?_
   rintro _ w70 ⟨S69, rfl, m⟩
   replace M := M.lF fq m
   clear m
   refine WL.nil ?_
   replace M := M.loseI 4
   replace M := M.loseI 3
   replace M := M.loseI 2
   replace M := M.loseI 1
   refine W.region rfl (wM (vP tb) (wS (Value.agg #[(vI h.at_), (vI h.turn)]) rfl (Step.loadN Try.ag92 rfl (M.blk 1 rfl) (Nat.le_of_ble_eq_true rfl) rfl) (wM (vI (↑(bsI n.keys k))) ?_)))
   have fq := M.frm [arenaC 143 145 S69 ab (remF e l1_ x45 ((lastF e l x45).key))] [bk b1 #[(vI h.at_), (vI h.turn)] 92] [0, 1] rfl
   refine WL.callX rfl (tr_mend tb ab r fu ln (remF e l1_ x45 ((lastF e l x45).key)) S69 h (bsI n.keys k) (by assumption) (M.eF fq ⟨(M.rF fq 0 rfl), trivial⟩)) (CallsF.func Try.en92 rfl) ?_
   rintro _ w72 ⟨S71, rfl, m⟩
   replace M := M.lF fq m
   clear m
   refine WL.nil ?_
   refine ⟨.inr rfl, undef, ?_, ?_⟩
   · exact ⟨rfl, Res.none⟩
   have e73 : (remF (e + 1) l h k) = (mendF (remF e l1_ x45 ((lastF e l x45).key)) h (bsI n.keys k)) := by
    rw [remF_hit hn h17 hlf_ hgd_]
    rw [hl1_]
   replace M := M.rechunk 0 (c' := arenaC 143 145 S71 ab (remF (e + 1) l h k)) rfl (congrArg (fun z => arenaC 143 145 S71 ab z) e73.symm)
   refine ⟨S71, ?_, M.close [0] rfl (by decide) trivial⟩
   rfl
 ·
  obtain ⟨e, rfl, hkl_, hO2⟩ := remOk_miss hO hn h17
  rw [h17]
  refine WL.pass rfl ?_
  refine WL.pass rfl ?_
  refine wS (vB false) rfl (Step.pick (t := false) rfl rfl) (wA (vB false) (WL.nil ?_))
  refine W.cond (t := false) rfl (fun h => by cases h) (fun _ => ?_)
  refine wR (wM (vB false) (wA (vB false) (WL.nil ?_)))
  refine W.cond (t := false) rfl (fun h => by cases h) (fun _ => ?_)
  refine W.skip (wR (wM (vP tb) (wP (Value.pointer (some ⟨b13, 2, none⟩)) (wS dv4 rfl (Step.load1 Try.sc96 rfl ((M.cell 0 rfl 2).trans rfl)) (wM (vI (↑(bsI n.keys k))) ?_)))))
  obtain ⟨cap75, hb74⟩ := SlAt.base (own_slAt (M.chunk 3 rfl).inv) (by omega)
  obtain ⟨x76, hx76⟩ := elem_of_lt (xs := n.kids) (i := bsI n.keys k) (by omega)
  have hgd_ : n.kids.getD (bsI n.keys k) hdZero = x76 := by rw [List.getD_eq_getElem?_getD, hx76]; rfl
  obtain ⟨hO3, hM⟩ := hO2 _ hgd_
  refine wS (vQ dv4 (bsI n.keys k) 2) rfl (sX (bsI n.keys k) Try.un96 Try.el92 rfl rfl hb74) (wS (Value.agg #[(vI x76.at_), (vI x76.turn)]) rfl (Step.loadEN (k := 0) (cs' := [(vI x76.at_), (vI x76.turn)]) Try.ag92 (flat_ec (own_slAt (M.chunk 3 rfl).inv) hx76 handleE_len) (by decide) rfl rfl rfl) (wM (vS k) ?_))
  have fq := M.frm [arenaC 143 145 S ab l] [bk b13 #[(vB n.leaf), kv3, dv4, vv5] 99, oS kv3 n.keys, oH dv4 n.kids, oI vv5 n.vals, bk b1 #[(vI h.at_), (vI h.turn)] 92] [1, 0, 2, 3, 4, 5] rfl
  refine WL.callX rfl (ih e (by omega) tb ab r fu ln l S x76 k (by assumption) (M.eF fq ⟨(M.rF fq 0 rfl), trivial⟩)) (CallsF.func Try.en48 rfl) ?_
  rintro _ w78 ⟨S77, rfl, m⟩
  replace M := M.lF fq m
  clear m
  refine WL.nil ?_
  replace M := M.loseI 4
  replace M := M.loseI 3
  replace M := M.loseI 2
  replace M := M.loseI 1
  refine W.region rfl (wM (vP tb) (wS (Value.agg #[(vI h.at_), (vI h.turn)]) rfl (Step.loadN Try.ag92 rfl (M.blk 1 rfl) (Nat.le_of_ble_eq_true rfl) rfl) (wM (vI (↑(bsI n.keys k))) ?_)))
  have fq := M.frm [arenaC 143 145 S77 ab (remF e l x76 k)] [bk b1 #[(vI h.at_), (vI h.turn)] 92] [0, 1] rfl
  refine WL.callX rfl (tr_mend tb ab r fu ln (remF e l x76 k) S77 h (bsI n.keys k) (by assumption) (M.eF fq ⟨(M.rF fq 0 rfl), trivial⟩)) (CallsF.func Try.en92 rfl) ?_
  rintro _ w80 ⟨S79, rfl, m⟩
  replace M := M.lF fq m
  clear m
  refine WL.nil ?_
  refine ⟨.inr rfl, undef, ?_, ?_⟩
  · exact ⟨rfl, Res.none⟩
  have e81 : (remF (e + 1) l h k) = (mendF (remF e l x76 k) h (bsI n.keys k)) := by
   rw [remF_miss hn h17 hgd_]
  replace M := M.rechunk 0 (c' := arenaC 143 145 S79 ab (remF (e + 1) l h k)) rfl (congrArg (fun z => arenaC 143 145 S79 ab z) e81.symm)
  refine ⟨S79, ?_, M.close [0] rfl (by decide) trivial⟩
  rfl
end Go.Proofs
set_option maxRecDepth 100000
namespace Go.Proofs
open Go Tp
theorem Try.en61 : Enters Try.prog 61 := fun _ _ => by kernel_rfl
theorem tab_new {G : Nat → Prop} {w : World}    (M : Mem G (fun _ => False) w [] [] w) : Rets Try.prog 30 #[] w fun r w' => ∃ (tb' : Nat) (ab' : Nat) (S' : Nat → Prop), r = (vP tb') ∧ Mem G (fun _ => False) w [bk tb' #[(vP ab'), (vI 0), (vI 0), (vB false), (vI 0)] 94, arenaC 143 145 S' ab' ([] : List RPlace)] [] w' := by
 refine Rets.enter 4 _ Try.func30 rfl Try.ntmps30 Try.results30 (by simp) ?_
 refine wR (wA vN (WL.nil (wR ?_)))
 refine WL.callX rfl (ar_new  (M.enterW0 trivial)) (CallsF.func Try.en61 rfl) ?_
 rintro _ w3 ⟨ab1, S2, rfl, m⟩
 replace M := M.leaveW0 m
 clear m
 refine wP (Value.agg #[(vP ab1), (vI 0), (vI 0), (vB false), (vI 0)]) ?_
 refine WL.box (v := (Value.agg #[(vP ab1), (vI 0), (vI 0), (vB false), (vI 0)])) (c := #[(vP ab1), (vI 0), (vI 0), (vB false), (vI 0)]) M rfl rfl rfl (fun b4 w5 hb4 M => ?_)
 refine wA (vP b4) (WL.nil ?_)
 refine W.ret ?_
 refine ⟨.inl rfl, (vP b4), ?_, ?_⟩
 · exact ⟨rfl, (Res.r1 (show RV _ _ _ (.tmp 0) (vP b4) from by exact rfl))⟩
 refine ⟨b4, ab1, S2, ?_, M.close [0, 1] rfl (by decide) trivial⟩
 rfl
end Go.Proofs
set_option maxRecDepth 100000
namespace Go.Proofs
open Go Tp
theorem Try.el4 : Elem Try.prog 4 (vB false) 1 1 := Elem.mk (by kernel_rfl)
set_option maxHeartbeats 1000000 in
theorem tab_put {G X : Nat → Prop} {w : World} (tb ab : Nat) (rt : Handle) (fu : Bool) (ln : Int) (l : List RPlace) (S : Nat → Prop) (k : ByteArray) (v : Int)  (hA : SmallA l) (d : Nat) (hO : insOk d (put0 l rt fu).1 (put0 l rt fu).2 (⟨k, v⟩ : THit)) (hS : SmallA (insF d (put0 l rt fu).1 (put0 l rt fu).2 (⟨k, v⟩ : THit)).1) (hln : 0 ≤ ln ∧ ln ≤ 1000000) (M : Mem G X w [bk tb #[(vP ab), (vI rt.at_), (vI rt.turn), (vB fu), (vI ln)] 94, arenaC 143 145 S ab l] [] w) : Rets Try.prog 18 #[(vP tb), (vS k), (vI v)] w fun r w' => ∃ (S' : Nat → Prop), r = (Value.tuple #[(vI ((putT d l rt fu ln (⟨k, v⟩ : THit)).2.2.1)), (vB ((putT d l rt fu ln (⟨k, v⟩ : THit)).2.2.2))]) ∧ Mem G X w [bk tb #[(vP ab), (vI (((putT d l rt fu ln (⟨k, v⟩ : THit)).1.2).at_)), (vI (((putT d l rt fu ln (⟨k, v⟩ : THit)).1.2).turn)), (vB true), (vI ((putT d l rt fu ln (⟨k, v⟩ : THit)).2.1))] 94, arenaC 143 145 S' ab ((putT d l rt fu ln (⟨k, v⟩ : THit)).1.1)] [] w' := by
 refine Rets.enter 84 _ Try.func18 rfl Try.ntmps18 Try.results18 (by simp) ?_
 refine wR (wA (vI 0) (wA (vB false) (WL.nil (W.seq' (wR ?_)))))
 refine wM (vP tb) (wP (vB false) (WL.nil ?_))
 refine W.cond (t := false) rfl (fun h => by cases h) (fun _ => ?_)
 refine W.skip (W.seq' (wR (wM (vP tb) (wP (vP tb) (wP (Value.pointer (some ⟨tb, 3, none⟩)) ?_)))))
 refine wS (vB fu) rfl (Step.load1 Try.sc4 rfl ((M.cell 0 rfl 3).trans rfl)) (wP (vB !fu) (WL.nil ?_))
 refine W.cond (t := !fu) rfl (fun h1 => ?_) (fun h1 => ?_)
 ·
  refine W.region rfl (wM (vP tb) (wM (vP tb) (wM (vP tb) (wP (vP tb) (wP (vP tb) ?_)))))
  refine wS (vP ab) rfl (Step.load1 Try.sc90 rfl ((M.cell 0 rfl 0).trans rfl)) (wP (Value.agg #[(vB true), vZ, vZ, vZ]) ?_)
  have fq := M.frm [arenaC 143 145 S ab l] [bk tb #[(vP ab), (vI rt.at_), (vI rt.turn), (vB fu), (vI ln)] 94] [1, 0] rfl
  refine WL.callX rfl (ar_make ab l S vZ vZ vZ (⟨true, ([] : List ByteArray), ([] : List Handle), ([] : List Int)⟩ : Nd) (by assumption) (by simp [insL] <;> omega) (by simp [insL] <;> omega) (by simp [insL] <;> omega) (M.eF fq ⟨(Sh.pure fun w => SlAt.nil 1 w), (Sh.pure fun w => SlAt.nil 2 w), (Sh.pure fun w => SlAt.nil 1 w), trivial⟩)) (CallsF.func Try.en46 rfl) ?_
  rintro _ w3 ⟨S2, rfl, m⟩
  replace M := M.lF fq m
  clear m
  refine wP (vP tb) (wP (Value.pointer (some ⟨tb, 1, none⟩)) ?_)
  refine WL.store (v := (Value.agg #[(vI (((rmake l (⟨true, ([] : List ByteArray), ([] : List Handle), ([] : List Int)⟩ : Nd)).2).at_)), (vI (((rmake l (⟨true, ([] : List ByteArray), ([] : List Handle), ([] : List Int)⟩ : Nd)).2).turn))])) (cs := [(vI (((rmake l (⟨true, ([] : List ByteArray), ([] : List Handle), ([] : List Int)⟩ : Nd)).2).at_)), (vI (((rmake l (⟨true, ([] : List ByteArray), ([] : List Handle), ([] : List Int)⟩ : Nd)).2).turn))]) (c' := #[(vP ab), (vI (((rmake l (⟨true, ([] : List ByteArray), ([] : List Handle), ([] : List Int)⟩ : Nd)).2).at_)), (vI (((rmake l (⟨true, ([] : List ByteArray), ([] : List Handle), ([] : List Int)⟩ : Nd)).2).turn)), (vB fu), (vI ln)]) M 1 rfl rfl Try.el92.sized rfl rfl rfl rfl (Nat.le_of_ble_eq_true rfl) (cel_cons rfl (cel_cons rfl cel_nil)) rfl rfl (fun w4 M => ?_)
  refine wP (vP tb) (wP (Value.pointer (some ⟨tb, 3, none⟩)) ?_)
  refine WL.store (v := (vB true)) (cs := [(vB true)]) (c' := #[(vP ab), (vI (((rmake l (⟨true, ([] : List ByteArray), ([] : List Handle), ([] : List Int)⟩ : Nd)).2).at_)), (vI (((rmake l (⟨true, ([] : List ByteArray), ([] : List Handle), ([] : List Int)⟩ : Nd)).2).turn)), (vB true), (vI ln)]) M 1 rfl rfl Try.el4.sized rfl rfl rfl rfl (Nat.le_of_ble_eq_true rfl) (cel_cons rfl cel_nil) rfl rfl (fun w5 M => ?_)
  refine WL.nil (W.seq' ?_)
  replace M := M.rechunk 1 (c' := bk tb #[(vP ab), (vI ((put0 l rt fu).2.at_)), (vI ((put0 l rt fu).2.turn)), (vB true), (vI ln)] 94) rfl (by simp [put0, (by simpa using h1)])
  replace M := M.rechunk 0 (c' := arenaC 143 145 S2 ab ((put0 l rt fu).1)) rfl (by simp [put0, (by simpa using h1)])
  have hA0_ : SmallA (put0 l rt fu).1 := (insOk_node hO rfl).small
  refine W.region rfl (wM (vP tb) (wM (vP tb) (wP (vP tb) (wP (Value.pointer (some ⟨tb, 1, none⟩)) (wS (Value.agg #[(vI ((put0 l rt fu).2.at_)), (vI ((put0 l rt fu).2.turn))]) rfl (Step.loadN Try.ag92 rfl (M.blk 1 rfl) (Nat.le_of_ble_eq_true rfl) rfl) ?_)))))
  refine wM (vS k) (wM (vI v) (wP (Value.agg #[(vS k), (vI v)]) ?_))
  have fq := M.frm [arenaC 143 145 S2 ab ((put0 l rt fu).1)] [bk tb #[(vP ab), (vI ((put0 l rt fu).2.at_)), (vI ((put0 l rt fu).2.turn)), (vB true), (vI ln)] 94] [0, 1] rfl
  refine WL.callX rfl (tr_insert d tb ab ((put0 l rt fu).2) true ln ((put0 l rt fu).1) S2 ((put0 l rt fu).2) (⟨k, v⟩ : THit) (by assumption) (M.eF fq ⟨(M.cF fq 0 rfl), trivial⟩)) (CallsF.func Try.en47 rfl) ?_
  rintro _ w8 ⟨u6, S7, rfl, m⟩
  replace M := M.lF fq m
  clear m
  refine wM (Value.tuple #[(vI ((insF d ((put0 l rt fu).1) ((put0 l rt fu).2) (⟨k, v⟩ : THit)).2.1.1)), (vB ((insF d ((put0 l rt fu).1) ((put0 l rt fu).2) (⟨k, v⟩ : THit)).2.1.2)), u6]) (wP (vI ((insF d ((put0 l rt fu).1) ((put0 l rt fu).2) (⟨k, v⟩ : THit)).2.1.1)) (wP (vB ((insF d ((put0 l rt fu).1) ((put0 l rt fu).2) (⟨k, v⟩ : THit)).2.1.2)) (wP u6 (wA (vI ((insF d ((put0 l rt fu).1) ((put0 l rt fu).2) (⟨k, v⟩ : THit)).2.1.1)) (wA (vB ((insF d ((put0 l rt fu).1) ((put0 l rt fu).2) (⟨k, v⟩ : THit)).2.1.2)) ?_)))))
  refine wA u6 (WL.nil (W.seq' (W.seq' ?_)))
  rcases ho_ : (insF d ((put0 l rt fu).1) ((put0 l rt fu).2) (⟨k, v⟩ : THit)).2.2 with _ | u_
  ·
   rw [ho_] at M
   obtain rfl := M.upNone 1 rfl
   replace M := M.sel (L' := [arenaC 143 145 S7 ab ((insF d ((put0 l rt fu).1) ((put0 l rt fu).2) (⟨k, v⟩ : THit)).1), bk tb #[(vP ab), (vI ((put0 l rt fu).2.at_)), (vI ((put0 l rt fu).2.turn)), (vB true), (vI ln)] 94]) [0, 2] rfl (by decide)
   refine W.region rfl (wM vN (wP (vB false) (WL.nil ?_)))
   refine W.cond (t := false) rfl (fun h => by cases h) (fun _ => ?_)
   refine W.skip (W.seq' (wR (wM (vB ((insF d ((put0 l rt fu).1) ((put0 l rt fu).2) (⟨k, v⟩ : THit)).2.1.2)) (wP (vB (!((insF d ((put0 l rt fu).1) ((put0 l rt fu).2) (⟨k, v⟩ : THit)).2.1.2))) (WL.nil ?_)))))
   refine W.cond (t := !((insF d ((put0 l rt fu).1) ((put0 l rt fu).2) (⟨k, v⟩ : THit)).2.1.2)) rfl (fun h10 => ?_) (fun h10 => ?_)
   ·
    refine W.region rfl (wM (vP tb) (wP (vP tb) (wP (Value.pointer (some ⟨tb, 4, none⟩)) (wS (vI ln) rfl (Step.load1 Try.sc3 rfl ((M.cell 1 rfl 4).trans rfl)) (wS (vI (ln + 1)) rfl (Step.add rfl rfl (wrap_i64 (by omega))) ?_)))))
    refine wP (vP tb) (wP (Value.pointer (some ⟨tb, 4, none⟩)) ?_)
    refine WL.store (v := (vI (ln + 1))) (cs := [(vI (ln + 1))]) (c' := #[(vP ab), (vI ((put0 l rt fu).2.at_)), (vI ((put0 l rt fu).2.turn)), (vB true), (vI (ln + 1))]) M 1 rfl rfl Try.el3.sized rfl rfl rfl rfl (Nat.le_of_ble_eq_true rfl) (cel_cons rfl cel_nil) rfl rfl (fun w11 M => ?_)
    refine WL.nil (wR (wM (vI ((insF d ((put0 l rt fu).1) ((put0 l rt fu).2) (⟨k, v⟩ : THit)).2.1.1)) (wS (vB false) rfl (Step.cast (congrArg Value.bool (show ((insF d ((put0 l rt fu).1) ((put0 l rt fu).2) (⟨k, v⟩ : THit)).2.1.2) = false by simpa using h10)) (Step.move rfl)) (wA (vI ((insF d ((put0 l rt fu).1) ((put0 l rt fu).2) (⟨k, v⟩ : THit)).2.1.1)) (wA (vB false) ?_)))))
    refine WL.nil ?_
    refine W.ret ?_
    refine ⟨.inl rfl, (Value.tuple #[(vI ((insF d ((put0 l rt fu).1) ((put0 l rt fu).2) (⟨k, v⟩ : THit)).2.1.1)), (vB false)]), ?_, ?_⟩
    · exact ⟨rfl, (Res.r2 (show RV _ _ _ (.tmp 6) (vI ((insF d ((put0 l rt fu).1) ((put0 l rt fu).2) (⟨k, v⟩ : THit)).2.1.1)) from by exact rfl) (show RV _ _ _ (.tmp 7) (vB false) from by exact rfl))⟩
    have e12 : (bk tb #[(vP ab), (vI (((putT d l rt fu ln (⟨k, v⟩ : THit)).1.2).at_)), (vI (((putT d l rt fu ln (⟨k, v⟩ : THit)).1.2).turn)), (vB true), (vI ((putT d l rt fu ln (⟨k, v⟩ : THit)).2.1))] 94 : Chunk) = (bk tb #[(vP ab), (vI ((put0 l rt fu).2.at_)), (vI ((put0 l rt fu).2.turn)), (vB true), (vI (ln + 1))] 94 : Chunk) := by
     have hth_ : (insF d (put0 l rt fu).1 (put0 l rt fu).2 (⟨k, v⟩ : THit)).2.1.2 = false := by simpa using h10
     unfold putT putU; simp only [ho_]
     try simp [hth_]
    replace M := M.rechunk 1 (c' := bk tb #[(vP ab), (vI (((putT d l rt fu ln (⟨k, v⟩ : THit)).1.2).at_)), (vI (((putT d l rt fu ln (⟨k, v⟩ : THit)).1.2).turn)), (vB true), (vI ((putT d l rt fu ln (⟨k, v⟩ : THit)).2.1))] 94) rfl e12.symm
    have e13 : (putT d l rt fu ln (⟨k, v⟩ : THit)).1.1 = (insF d ((put0 l rt fu).1) ((put0 l rt fu).2) (⟨k, v⟩ : THit)).1 := by
     have hth_ : (insF d (put0 l rt fu).1 (put0 l rt fu).2 (⟨k, v⟩ : THit)).2.1.2 = false := by simpa using h10
     unfold putT putU; simp only [ho_]
     try simp [hth_]
    replace M := M.rechunk 0 (c' := arenaC 143 145 S7 ab ((putT d l rt fu ln (⟨k, v⟩ : THit)).1.1)) rfl (congrArg (fun z => arenaC 143 145 S7 ab z) e13.symm)
    refine ⟨S7, ?_, M.close [1, 0] rfl (by decide) trivial⟩
    have hth_ : (insF d (put0 l rt fu).1 (put0 l rt fu).2 (⟨k, v⟩ : THit)).2.1.2 = false := by simpa using h10
    unfold putT putU; simp only [ho_]
    try simp [hth_]
   ·
    refine W.skip (wR (wM (vI ((insF d ((put0 l rt fu).1) ((put0 l rt fu).2) (⟨k, v⟩ : THit)).2.1.1)) (wS (vB true) rfl (Step.cast (congrArg Value.bool (show ((insF d ((put0 l rt fu).1) ((put0 l rt fu).2) (⟨k, v⟩ : THit)).2.1.2) = true by simpa using h10)) (Step.move rfl)) (wA (vI ((insF d ((put0 l rt fu).1) ((put0 l rt fu).2) (⟨k, v⟩ : THit)).2.1.1)) (wA (vB true) ?_)))))
    refine WL.nil ?_
    refine W.ret ?_
    refine ⟨.inl rfl, (Value.tuple #[(vI ((insF d ((put0 l rt fu).1) ((put0 l rt fu).2) (⟨k, v⟩ : THit)).2.1.1)), (vB true)]), ?_, ?_⟩
    · exact ⟨rfl, (Res.r2 (show RV _ _ _ (.tmp 6) (vI ((insF d ((put0 l rt fu).1) ((put0 l rt fu).2) (⟨k, v⟩ : THit)).2.1.1)) from by exact rfl) (show RV _ _ _ (.tmp 7) (vB true) from by exact rfl))⟩
    have e14 : (bk tb #[(vP ab), (vI (((putT d l rt fu ln (⟨k, v⟩ : THit)).1.2).at_)), (vI (((putT d l rt fu ln (⟨k, v⟩ : THit)).1.2).turn)), (vB true), (vI ((putT d l rt fu ln (⟨k, v⟩ : THit)).2.1))] 94 : Chunk) = (bk tb #[(vP ab), (vI ((put0 l rt fu).2.at_)), (vI ((put0 l rt fu).2.turn)), (vB true), (vI ln)] 94 : Chunk) := by
     have hth_ : (insF d (put0 l rt fu).1 (put0 l rt fu).2 (⟨k, v⟩ : THit)).2.1.2 = true := by simpa using h10
     unfold putT putU; simp only [ho_]
     try simp [hth_]
    replace M := M.rechunk 1 (c' := bk tb #[(vP ab), (vI (((putT d l rt fu ln (⟨k, v⟩ : THit)).1.2).at_)), (vI (((putT d l rt fu ln (⟨k, v⟩ : THit)).1.2).turn)), (vB true), (vI ((putT d l rt fu ln (⟨k, v⟩ : THit)).2.1))] 94) rfl e14.symm
    have e15 : (putT d l rt fu ln (⟨k, v⟩ : THit)).1.1 = (insF d ((put0 l rt fu).1) ((put0 l rt fu).2) (⟨k, v⟩ : THit)).1 := by
     have hth_ : (insF d (put0 l rt fu).1 (put0 l rt fu).2 (⟨k, v⟩ : THit)).2.1.2 = true := by simpa using h10
     unfold putT putU; simp only [ho_]
     try simp [hth_]
    replace M := M.rechunk 0 (c' := arenaC 143 145 S7 ab ((putT d l rt fu ln (⟨k, v⟩ : THit)).1.1)) rfl (congrArg (fun z => arenaC 143 145 S7 ab z) e15.symm)
    refine ⟨S7, ?_, M.close [1, 0] rfl (by decide) trivial⟩
    have hth_ : (insF d (put0 l rt fu).1 (put0 l rt fu).2 (⟨k, v⟩ : THit)).2.1.2 = true := by simpa using h10
    unfold putT putU; simp only [ho_]
    try simp [hth_]
  ·
   rw [ho_] at M
   obtain ⟨b9, rfl, M⟩ := M.upSome 1 rfl
   refine W.region rfl (wM (vP b9) (wP (vB true) (WL.nil ?_)))
   refine W.cond (t := true) rfl (fun _ => ?_) (fun h => by cases h)
   refine W.drawn2 M [0, 1, 2, 3, 4, 5, 6, 7, 8, 9, 11, 12, 13, 14, 15, 17, 18, 19, 20, 21, 22, 23, 24, 10, 16, 25, 26, 27] [28, 29, 30] [27, 30] [10, 16, 25] _ _ (sN (sY (sY sE))) (fun _ h => h) Try.mixed (by kernel_rfl) ?_
   refine tP (vP tb) rfl (fun w => (Step.move rfl)) ?_
   refine tP (vP tb) rfl (fun w => (Step.move rfl)) ?_
   refine tP (vP tb) rfl (fun w => sP) ?_
   refine tP (vP tb) rfl (fun w => sP) ?_
   refine tR (vP ab) rfl (fun A w M => (Step.load1 Try.sc90 rfl ((M.cell 2 rfl 0).trans rfl))) ?_
   refine tP (vP b9) rfl (fun w => (Step.move rfl)) ?_
   refine tP (vP b9) rfl (fun w => sP) ?_
   refine tP (vP b9) rfl (fun w => sP) ?_
   refine tP (vP b9) rfl (fun w => sP) ?_
   refine tR (vS u_.1.key) rfl (fun A w M => (Step.load1 Try.sc9 rfl ((M.cell 1 rfl 0).trans rfl))) ?_
   refine tP (vP b9) rfl (fun w => (Step.move rfl)) ?_
   refine tP (vP b9) rfl (fun w => sP) ?_
   refine tP (vP b9) rfl (fun w => sP) ?_
   refine tP (Value.pointer (some ⟨b9, 1, none⟩)) rfl (fun w => sP) ?_
   refine tR (vI u_.1.val) rfl (fun A w M => (Step.load1 Try.sc3 rfl ((M.cell 1 rfl 1).trans rfl))) ?_
   refine tP (vP tb) rfl (fun w => (Step.move rfl)) ?_
   refine tP (vP tb) rfl (fun w => sP) ?_
   refine tP (Value.pointer (some ⟨tb, 1, none⟩)) rfl (fun w => sP) ?_
   refine tR (Value.agg #[(vI ((put0 l rt fu).2.at_)), (vI ((put0 l rt fu).2.turn))]) rfl (fun A w M => (Step.loadN Try.ag92 rfl (M.blk 2 rfl) (Nat.le_of_ble_eq_true rfl) rfl)) ?_
   refine tP (vP b9) rfl (fun w => (Step.move rfl)) ?_
   refine tP (vP b9) rfl (fun w => sP) ?_
   refine tP (Value.pointer (some ⟨b9, 2, none⟩)) rfl (fun w => sP) ?_
   refine tR (Value.agg #[(vI u_.2.at_), (vI u_.2.turn)]) rfl (fun A w M => (Step.loadN Try.ag92 rfl (M.blk 1 rfl) (Nat.le_of_ble_eq_true rfl) rfl)) ?_
   refine TW.new (obj := .cells #[(vS u_.1.key)] 9) (fun b => .slice (some ⟨b, 0, none⟩) 1 1) rfl (by decide) (by decide) rfl (fun w => Step.make (by kernel_rfl)) (fun b46 => ?_)
   refine TW.new (obj := .cells #[(vI u_.1.val)] 3) (fun b => .slice (some ⟨b, 0, none⟩) 1 1) rfl (by decide) (by decide) rfl (fun w => Step.make (by kernel_rfl)) (fun b47 => ?_)
   refine TW.new (obj := .cells #[(vI ((put0 l rt fu).2.at_)), (vI ((put0 l rt fu).2.turn)), (vI u_.2.at_), (vI u_.2.turn)] 92) (fun b => .slice (some ⟨b, 0, none⟩) 2 2) rfl (by decide) (by decide) rfl (fun w => Step.make (by kernel_rfl)) (fun b48 => ?_)
   refine tP (Value.agg #[(vB false), (Value.slice (some ⟨b46, 0, none⟩) 1 1), (Value.slice (some ⟨b48, 0, none⟩) 2 2), (Value.slice (some ⟨b47, 0, none⟩) 1 1)]) rfl (fun w => sP) ?_
   let Q : List Chunk := [bk b48 #[(vI ((put0 l rt fu).2.at_)), (vI ((put0 l rt fu).2.turn)), (vI u_.2.at_), (vI u_.2.turn)] 92, bk b47 #[(vI u_.1.val)] 3, bk b46 #[(vS u_.1.key)] 9, bk b9 #[(vS u_.1.key), (vI u_.1.val), (vI u_.2.at_), (vI u_.2.turn)] 104, bk tb #[(vP ab), (vI ((put0 l rt fu).2.at_)), (vI ((put0 l rt fu).2.turn)), (vB true), (vI ln)] 94]
   refine TW.callX (ι := (Nat → Prop)) (fun jx v_ => v_ = (Value.agg #[(vI (((rmake ((insF d ((put0 l rt fu).1) ((put0 l rt fu).2) (⟨k, v⟩ : THit)).1) (⟨false, ([u_.1.key] : List ByteArray), ([(put0 l rt fu).2, u_.2] : List Handle), ([u_.1.val] : List Int)⟩ : Nd)).2).at_)), (vI (((rmake ((insF d ((put0 l rt fu).1) ((put0 l rt fu).2) (⟨k, v⟩ : THit)).1) (⟨false, ([u_.1.key] : List ByteArray), ([(put0 l rt fu).2, u_.2] : List Handle), ([u_.1.val] : List Int)⟩ : Nd)).2).turn))])) (fun jx => arenaC 143 145 jx ab ((rmake ((insF d ((put0 l rt fu).1) ((put0 l rt fu).2) (⟨k, v⟩ : THit)).1) (⟨false, ([u_.1.key] : List ByteArray), ([(put0 l rt fu).2, u_.2] : List Handle), ([u_.1.val] : List Int)⟩ : Nd)).1) :: Q) (fun jx => []) rfl (by decide) rfl (fun jx => (sN (sN (sN (sN (sY (sY sE))))))) (fun jx r h => h) (fun A w M => have fq := M.frm [arenaC 143 145 S7 ab ((insF d ((put0 l rt fu).1) ((put0 l rt fu).2) (⟨k, v⟩ : THit)).1)] (fl A :: Q) [4, 0, 1, 2, 3, 5, 6] rfl; Rets.mono (ar_make ab ((insF d ((put0 l rt fu).1) ((put0 l rt fu).2) (⟨k, v⟩ : THit)).1) S7 (Value.slice (some ⟨b46, 0, none⟩) 1 1) (Value.slice (some ⟨b48, 0, none⟩) 2 2) (Value.slice (some ⟨b47, 0, none⟩) 1 1) (⟨false, ([u_.1.key] : List ByteArray), ([(put0 l rt fu).2, u_.2] : List Handle), ([u_.1.val] : List Int)⟩ : Nd) (by first | assumption | exact smallA_of rfl) (by simp [insL] <;> omega) (by simp [insL] <;> omega) (by simp [insL] <;> omega) (M.eF fq ⟨((M.cF fq 3 rfl).imp fun _ h => SlAt.of_blk (n := 1) (size := 1) h rfl (by decide)), ((M.cF fq 1 rfl).imp fun _ h => SlAt.of_blk (n := 2) (size := 2) h rfl (by decide)), ((M.cF fq 2 rfl).imp fun _ h => SlAt.of_blk (n := 1) (size := 1) h rfl (by decide)), trivial⟩)) (fun v_ w_ ⟨S49, e_, m⟩ => ⟨S49, e_, (M.lF fq m).sel [1, 0, 2, 3, 4, 5, 6] rfl (by decide), fun b hb => M.kF fq m b hb⟩)) (fun w => CallsF.func Try.en46 rfl) (fun S49 v hp hin => ?_)
   replace hp := hp.symm; subst hp
   obtain ⟨_, _, hin⟩ := hin
   clear hin
   refine TW.turn _ _ (sY (sY (sY (sY (sY (sN sE)))))) (fun _ h => h) ?_
   refine tP (vP tb) rfl (fun w => sP) ?_
   refine tP (Value.pointer (some ⟨tb, 1, none⟩)) rfl (fun w => sP) ?_
   refine TW.store (v := (Value.agg #[(vI (((rmake ((insF d ((put0 l rt fu).1) ((put0 l rt fu).2) (⟨k, v⟩ : THit)).1) (⟨false, ([u_.1.key] : List ByteArray), ([(put0 l rt fu).2, u_.2] : List Handle), ([u_.1.val] : List Int)⟩ : Nd)).2).at_)), (vI (((rmake ((insF d ((put0 l rt fu).1) ((put0 l rt fu).2) (⟨k, v⟩ : THit)).1) (⟨false, ([u_.1.key] : List ByteArray), ([(put0 l rt fu).2, u_.2] : List Handle), ([u_.1.val] : List Int)⟩ : Nd)).2).turn))])) (cs := [(vI (((rmake ((insF d ((put0 l rt fu).1) ((put0 l rt fu).2) (⟨k, v⟩ : THit)).1) (⟨false, ([u_.1.key] : List ByteArray), ([(put0 l rt fu).2, u_.2] : List Handle), ([u_.1.val] : List Int)⟩ : Nd)).2).at_)), (vI (((rmake ((insF d ((put0 l rt fu).1) ((put0 l rt fu).2) (⟨k, v⟩ : THit)).1) (⟨false, ([u_.1.key] : List ByteArray), ([(put0 l rt fu).2, u_.2] : List Handle), ([u_.1.val] : List Int)⟩ : Nd)).2).turn))]) (c' := #[(vP ab), (vI (((rmake ((insF d ((put0 l rt fu).1) ((put0 l rt fu).2) (⟨k, v⟩ : THit)).1) (⟨false, ([u_.1.key] : List ByteArray), ([(put0 l rt fu).2, u_.2] : List Handle), ([u_.1.val] : List Int)⟩ : Nd)).2).at_)), (vI (((rmake ((insF d ((put0 l rt fu).1) ((put0 l rt fu).2) (⟨k, v⟩ : THit)).1) (⟨false, ([u_.1.key] : List ByteArray), ([(put0 l rt fu).2, u_.2] : List Handle), ([u_.1.val] : List Int)⟩ : Nd)).2).turn)), (vB true), (vI ln)]) 5 rfl rfl (by decide) rfl Try.el92.sized rfl rfl rfl rfl (Nat.le_of_ble_eq_true rfl) (cel_cons rfl (cel_cons rfl cel_nil)) rfl rfl (sY (sY (sY (sY (sY (sN sE)))))) (fun r h => h) ?_
   refine TW.done (fun w51 M => ?_)
   refine W.seq' (wR (wM (vB ((insF d ((put0 l rt fu).1) ((put0 l rt fu).2) (⟨k, v⟩ : THit)).2.1.2)) (wP (vB (!((insF d ((put0 l rt fu).1) ((put0 l rt fu).2) (⟨k, v⟩ : THit)).2.1.2))) (WL.nil ?_))))
   refine W.cond (t := !((insF d ((put0 l rt fu).1) ((put0 l rt fu).2) (⟨k, v⟩ : THit)).2.1.2)) rfl (fun h52 => ?_) (fun h52 => ?_)
   ·
    refine W.region rfl (wM (vP tb) (wP (vP tb) (wP (Value.pointer (some ⟨tb, 4, none⟩)) (wS (vI ln) rfl (Step.load1 Try.sc3 rfl ((M.cell 5 rfl 4).trans rfl)) (wS (vI (ln + 1)) rfl (Step.add rfl rfl (wrap_i64 (by omega))) ?_)))))
    refine wP (vP tb) (wP (Value.pointer (some ⟨tb, 4, none⟩)) ?_)
    refine WL.store (v := (vI (ln + 1))) (cs := [(vI (ln + 1))]) (c' := #[(vP ab), (vI (((rmake ((insF d ((put0 l rt fu).1) ((put0 l rt fu).2) (⟨k, v⟩ : THit)).1) (⟨false, ([u_.1.key] : List ByteArray), ([(put0 l rt fu).2, u_.2] : List Handle), ([u_.1.val] : List Int)⟩ : Nd)).2).at_)), (vI (((rmake ((insF d ((put0 l rt fu).1) ((put0 l rt fu).2) (⟨k, v⟩ : THit)).1) (⟨false, ([u_.1.key] : List ByteArray), ([(put0 l rt fu).2, u_.2] : List Handle), ([u_.1.val] : List Int)⟩ : Nd)).2).turn)), (vB true), (vI (ln + 1))]) M 5 rfl rfl Try.el3.sized rfl rfl rfl rfl (Nat.le_of_ble_eq_true rfl) (cel_cons rfl cel_nil) rfl rfl (fun w53 M => ?_)
    refine WL.nil (wR (wM (vI ((insF d ((put0 l rt fu).1) ((put0 l rt fu).2) (⟨k, v⟩ : THit)).2.1.1)) (wS (vB false) rfl (Step.cast (congrArg Value.bool (show ((insF d ((put0 l rt fu).1) ((put0 l rt fu).2) (⟨k, v⟩ : THit)).2.1.2) = false by simpa using h52)) (Step.move rfl)) (wA (vI ((insF d ((put0 l rt fu).1) ((put0 l rt fu).2) (⟨k, v⟩ : THit)).2.1.1)) (wA (vB false) ?_)))))
    refine WL.nil ?_
    refine W.ret ?_
    refine ⟨.inl rfl, (Value.tuple #[(vI ((insF d ((put0 l rt fu).1) ((put0 l rt fu).2) (⟨k, v⟩ : THit)).2.1.1)), (vB false)]), ?_, ?_⟩
    · exact ⟨rfl, (Res.r2 (show RV _ _ _ (.tmp 6) (vI ((insF d ((put0 l rt fu).1) ((put0 l rt fu).2) (⟨k, v⟩ : THit)).2.1.1)) from by exact rfl) (show RV _ _ _ (.tmp 7) (vB false) from by exact rfl))⟩
    have e54 : (bk tb #[(vP ab), (vI (((putT d l rt fu ln (⟨k, v⟩ : THit)).1.2).at_)), (vI (((putT d l rt fu ln (⟨k, v⟩ : THit)).1.2).turn)), (vB true), (vI ((putT d l rt fu ln (⟨k, v⟩ : THit)).2.1))] 94 : Chunk) = (bk tb #[(vP ab), (vI (((rmake ((insF d ((put0 l rt fu).1) ((put0 l rt fu).2) (⟨k, v⟩ : THit)).1) (⟨false, ([u_.1.key] : List ByteArray), ([(put0 l rt fu).2, u_.2] : List Handle), ([u_.1.val] : List Int)⟩ : Nd)).2).at_)), (vI (((rmake ((insF d ((put0 l rt fu).1) ((put0 l rt fu).2) (⟨k, v⟩ : THit)).1) (⟨false, ([u_.1.key] : List ByteArray), ([(put0 l rt fu).2, u_.2] : List Handle), ([u_.1.val] : List Int)⟩ : Nd)).2).turn)), (vB true), (vI (ln + 1))] 94 : Chunk) := by
     have hth_ : (insF d (put0 l rt fu).1 (put0 l rt fu).2 (⟨k, v⟩ : THit)).2.1.2 = false := by simpa using h52
     unfold putT putU; simp only [ho_]
     try simp [hth_]
    replace M := M.rechunk 5 (c' := bk tb #[(vP ab), (vI (((putT d l rt fu ln (⟨k, v⟩ : THit)).1.2).at_)), (vI (((putT d l rt fu ln (⟨k, v⟩ : THit)).1.2).turn)), (vB true), (vI ((putT d l rt fu ln (⟨k, v⟩ : THit)).2.1))] 94) rfl e54.symm
    have e55 : (putT d l rt fu ln (⟨k, v⟩ : THit)).1.1 = (rmake ((insF d ((put0 l rt fu).1) ((put0 l rt fu).2) (⟨k, v⟩ : THit)).1) (⟨false, ([u_.1.key] : List ByteArray), ([(put0 l rt fu).2, u_.2] : List Handle), ([u_.1.val] : List Int)⟩ : Nd)).1 := by
     have hth_ : (insF d (put0 l rt fu).1 (put0 l rt fu).2 (⟨k, v⟩ : THit)).2.1.2 = false := by simpa using h52
     unfold putT putU; simp only [ho_]
     try simp [hth_]
    replace M := M.rechunk 0 (c' := arenaC 143 145 S49 ab ((putT d l rt fu ln (⟨k, v⟩ : THit)).1.1)) rfl (congrArg (fun z => arenaC 143 145 S49 ab z) e55.symm)
    refine ⟨S49, ?_, M.close [5, 0] rfl (by decide) trivial⟩
    have hth_ : (insF d (put0 l rt fu).1 (put0 l rt fu).2 (⟨k, v⟩ : THit)).2.1.2 = false := by simpa using h52
    unfold putT putU; simp only [ho_]
    try simp [hth_]
   ·
    refine W.skip (wR (wM (vI ((insF d ((put0 l rt fu).1) ((put0 l rt fu).2) (⟨k, v⟩ : THit)).2.1.1)) (wS (vB true) rfl (Step.cast (congrArg Value.bool (show ((insF d ((put0 l rt fu).1) ((put0 l rt fu).2) (⟨k, v⟩ : THit)).2.1.2) = true by simpa using h52)) (Step.move rfl)) (wA (vI ((insF d ((put0 l rt fu).1) ((put0 l rt fu).2) (⟨k, v⟩ : THit)).2.1.1)) (wA (vB true) ?_)))))
    refine WL.nil ?_
    refine W.ret ?_
    refine ⟨.inl rfl, (Value.tuple #[(vI ((insF d ((put0 l rt fu).1) ((put0 l rt fu).2) (⟨k, v⟩ : THit)).2.1.1)), (vB true)]), ?_, ?_⟩
    · exact ⟨rfl, (Res.r2 (show RV _ _ _ (.tmp 6) (vI ((insF d ((put0 l rt fu).1) ((put0 l rt fu).2) (⟨k, v⟩ : THit)).2.1.1)) from by exact rfl) (show RV _ _ _ (.tmp 7) (vB true) from by exact rfl))⟩
    have e56 : (bk tb #[(vP ab), (vI (((putT d l rt fu ln (⟨k, v⟩ : THit)).1.2).at_)), (vI (((putT d l rt fu ln (⟨k, v⟩ : THit)).1.2).turn)), (vB true), (vI ((putT d l rt fu ln (⟨k, v⟩ : THit)).2.1))] 94 : Chunk) = (bk tb #[(vP ab), (vI (((rmake ((insF d ((put0 l rt fu).1) ((put0 l rt fu).2) (⟨k, v⟩ : THit)).1) (⟨false, ([u_.1.key] : List ByteArray), ([(put0 l rt fu).2, u_.2] : List Handle), ([u_.1.val] : List Int)⟩ : Nd)).2).at_)), (vI (((rmake ((insF d ((put0 l rt fu).1) ((put0 l rt fu).2) (⟨k, v⟩ : THit)).1) (⟨false, ([u_.1.key] : List ByteArray), ([(put0 l rt fu).2, u_.2] : List Handle), ([u_.1.val] : List Int)⟩ : Nd)).2).turn)), (vB true), (vI ln)] 94 : Chunk) := by
     have hth_ : (insF d (put0 l rt fu).1 (put0 l rt fu).2 (⟨k, v⟩ : THit)).2.1.2 = true := by simpa using h52
     unfold putT putU; simp only [ho_]
     try simp [hth_]
    replace M := M.rechunk 5 (c' := bk tb #[(vP ab), (vI (((putT d l rt fu ln (⟨k, v⟩ : THit)).1.2).at_)), (vI (((putT d l rt fu ln (⟨k, v⟩ : THit)).1.2).turn)), (vB true), (vI ((putT d l rt fu ln (⟨k, v⟩ : THit)).2.1))] 94) rfl e56.symm
    have e57 : (putT d l rt fu ln (⟨k, v⟩ : THit)).1.1 = (rmake ((insF d ((put0 l rt fu).1) ((put0 l rt fu).2) (⟨k, v⟩ : THit)).1) (⟨false, ([u_.1.key] : List ByteArray), ([(put0 l rt fu).2, u_.2] : List Handle), ([u_.1.val] : List Int)⟩ : Nd)).1 := by
     have hth_ : (insF d (put0 l rt fu).1 (put0 l rt fu).2 (⟨k, v⟩ : THit)).2.1.2 = true := by simpa using h52
     unfold putT putU; simp only [ho_]
     try simp [hth_]
    replace M := M.rechunk 0 (c' := arenaC 143 145 S49 ab ((putT d l rt fu ln (⟨k, v⟩ : THit)).1.1)) rfl (congrArg (fun z => arenaC 143 145 S49 ab z) e57.symm)
    refine ⟨S49, ?_, M.close [5, 0] rfl (by decide) trivial⟩
    have hth_ : (insF d (put0 l rt fu).1 (put0 l rt fu).2 (⟨k, v⟩ : THit)).2.1.2 = true := by simpa using h52
    unfold putT putU; simp only [ho_]
    try simp [hth_]
 ·
  refine W.skip (W.seq' ?_)
  replace M := M.rechunk 0 (c' := bk tb #[(vP ab), (vI ((put0 l rt fu).2.at_)), (vI ((put0 l rt fu).2.turn)), (vB true), (vI ln)] 94) rfl (by simp [put0, (by simpa using h1)])
  replace M := M.rechunk 1 (c' := arenaC 143 145 S ab ((put0 l rt fu).1)) rfl (by simp [put0, (by simpa using h1)])
  have hA0_ : SmallA (put0 l rt fu).1 := (insOk_node hO rfl).small
  refine W.region rfl (wM (vP tb) (wM (vP tb) (wP (vP tb) (wP (Value.pointer (some ⟨tb, 1, none⟩)) (wS (Value.agg #[(vI ((put0 l rt fu).2.at_)), (vI ((put0 l rt fu).2.turn))]) rfl (Step.loadN Try.ag92 rfl (M.blk 0 rfl) (Nat.le_of_ble_eq_true rfl) rfl) ?_)))))
  refine wM (vS k) (wM (vI v) (wP (Value.agg #[(vS k), (vI v)]) ?_))
  have fq := M.frm [arenaC 143 145 S ab ((put0 l rt fu).1)] [bk tb #[(vP ab), (vI ((put0 l rt fu).2.at_)), (vI ((put0 l rt fu).2.turn)), (vB true), (vI ln)] 94] [1, 0] rfl
  refine WL.callX rfl (tr_insert d tb ab ((put0 l rt fu).2) true ln ((put0 l rt fu).1) S ((put0 l rt fu).2) (⟨k, v⟩ : THit) (by assumption) (M.eF fq ⟨(M.cF fq 0 rfl), trivial⟩)) (CallsF.func Try.en47 rfl) ?_
  rintro _ w60 ⟨u58, S59, rfl, m⟩
  replace M := M.lF fq m
  clear m
  refine wM (Value.tuple #[(vI ((insF d ((put0 l rt fu).1) ((put0 l rt fu).2) (⟨k, v⟩ : THit)).2.1.1)), (vB ((insF d ((put0 l rt fu).1) ((put0 l rt fu).2) (⟨k, v⟩ : THit)).2.1.2)), u58]) (wP (vI ((insF d ((put0 l rt fu).1) ((put0 l rt fu).2) (⟨k, v⟩ : THit)).2.1.1)) (wP (vB ((insF d ((put0 l rt fu).1) ((put0 l rt fu).2) (⟨k, v⟩ : THit)).2.1.2)) (wP u58 (wA (vI ((insF d ((put0 l rt fu).1) ((put0 l rt fu).2) (⟨k, v⟩ : THit)).2.1.1)) (wA (vB ((insF d ((put0 l rt fu).1) ((put0 l rt fu).2) (⟨k, v⟩ : THit)).2.1.2)) ?_)))))
  refine wA u58 (WL.nil (W.seq' (W.seq' ?_)))
  rcases ho_ : (insF d ((put0 l rt fu).1) ((put0 l rt fu).2) (⟨k, v⟩ : THit)).2.2 with _ | u_
  ·
   rw [ho_] at M
   obtain rfl := M.upNone 1 rfl
   replace M := M.sel (L' := [arenaC 143 145 S59 ab ((insF d ((put0 l rt fu).1) ((put0 l rt fu).2) (⟨k, v⟩ : THit)).1), bk tb #[(vP ab), (vI ((put0 l rt fu).2.at_)), (vI ((put0 l rt fu).2.turn)), (vB true), (vI ln)] 94]) [0, 2] rfl (by decide)
   refine W.region rfl (wM vN (wP (vB false) (WL.nil ?_)))
   refine W.cond (t := false) rfl (fun h => by cases h) (fun _ => ?_)
   refine W.skip (W.seq' (wR (wM (vB ((insF d ((put0 l rt fu).1) ((put0 l rt fu).2) (⟨k, v⟩ : THit)).2.1.2)) (wP (vB (!((insF d ((put0 l rt fu).1) ((put0 l rt fu).2) (⟨k, v⟩ : THit)).2.1.2))) (WL.nil ?_)))))
   refine W.cond (t := !((insF d ((put0 l rt fu).1) ((put0 l rt fu).2) (⟨k, v⟩ : THit)).2.1.2)) rfl (fun h62 => ?_) (fun h62 => ?_)
   ·
    refine W.region rfl (wM (vP tb) (wP (vP tb) (wP (Value.pointer (some ⟨tb, 4, none⟩)) (wS (vI ln) rfl (Step.load1 Try.sc3 rfl ((M.cell 1 rfl 4).trans rfl)) (wS (vI (ln + 1)) rfl (Step.add rfl rfl (wrap_i64 (by omega))) ?_)))))
    refine wP (vP tb) (wP (Value.pointer (some ⟨tb, 4, none⟩)) ?_)
    refine WL.store (v := (vI (ln + 1))) (cs := [(vI (ln + 1))]) (c' := #[(vP ab), (vI ((put0 l rt fu).2.at_)), (vI ((put0 l rt fu).2.turn)), (vB true), (vI (ln + 1))]) M 1 rfl rfl Try.el3.sized rfl rfl rfl rfl (Nat.le_of_ble_eq_true rfl) (cel_cons rfl cel_nil) rfl rfl (fun w63 M => ?_)
    refine WL.nil (wR (wM (vI ((insF d ((put0 l rt fu).1) ((put0 l rt fu).2) (⟨k, v⟩ : THit)).2.1.1)) (wS (vB false) rfl (Step.cast (congrArg Value.bool (show ((insF d ((put0 l rt fu).1) ((put0 l rt fu).2) (⟨k, v⟩ : THit)).2.1.2) = false by simpa using h62)) (Step.move rfl)) (wA (vI ((insF d ((put0 l rt fu).1) ((put0 l rt fu).2) (⟨k, v⟩ : THit)).2.1.1)) (wA (vB false) ?_)))))
    refine WL.nil ?_
    refine W.ret ?_
    refine ⟨.inl rfl, (Value.tuple #[(vI ((insF d ((put0 l rt fu).1) ((put0 l rt fu).2) (⟨k, v⟩ : THit)).2.1.1)), (vB false)]), ?_, ?_⟩
    · exact ⟨rfl, (Res.r2 (show RV _ _ _ (.tmp 6) (vI ((insF d ((put0 l rt fu).1) ((put0 l rt fu).2) (⟨k, v⟩ : THit)).2.1.1)) from by exact rfl) (show RV _ _ _ (.tmp 7) (vB false) from by exact rfl))⟩
    have e64 : (bk tb #[(vP ab), (vI (((putT d l rt fu ln (⟨k, v⟩ : THit)).1.2).at_)), (vI (((putT d l rt fu ln (⟨k, v⟩ : THit)).1.2).turn)), (vB true), (vI ((putT d l rt fu ln (⟨k, v⟩ : THit)).2.1))] 94 : Chunk) = (bk tb #[(vP ab), (vI ((put0 l rt fu).2.at_)), (vI ((put0 l rt fu).2.turn)), (vB true), (vI (ln + 1))] 94 : Chunk) := by
     have hth_ : (insF d (put0 l rt fu).1 (put0 l rt fu).2 (⟨k, v⟩ : THit)).2.1.2 = false := by simpa using h62
     unfold putT putU; simp only [ho_]
     try simp [hth_]
    replace M := M.rechunk 1 (c' := bk tb #[(vP ab), (vI (((putT d l rt fu ln (⟨k, v⟩ : THit)).1.2).at_)), (vI (((putT d l rt fu ln (⟨k, v⟩ : THit)).1.2).turn)), (vB true), (vI ((putT d l rt fu ln (⟨k, v⟩ : THit)).2.1))] 94) rfl e64.symm
    have e65 : (putT d l rt fu ln (⟨k, v⟩ : THit)).1.1 = (insF d ((put0 l rt fu).1) ((put0 l rt fu).2) (⟨k, v⟩ : THit)).1 := by
     have hth_ : (insF d (put0 l rt fu).1 (put0 l rt fu).2 (⟨k, v⟩ : THit)).2.1.2 = false := by simpa using h62
     unfold putT putU; simp only [ho_]
     try simp [hth_]
    replace M := M.rechunk 0 (c' := arenaC 143 145 S59 ab ((putT d l rt fu ln (⟨k, v⟩ : THit)).1.1)) rfl (congrArg (fun z => arenaC 143 145 S59 ab z) e65.symm)
    refine ⟨S59, ?_, M.close [1, 0] rfl (by decide) trivial⟩
    have hth_ : (insF d (put0 l rt fu).1 (put0 l rt fu).2 (⟨k, v⟩ : THit)).2.1.2 = false := by simpa using h62
    unfold putT putU; simp only [ho_]
    try simp [hth_]
   ·
    refine W.skip (wR (wM (vI ((insF d ((put0 l rt fu).1) ((put0 l rt fu).2) (⟨k, v⟩ : THit)).2.1.1)) (wS (vB true) rfl (Step.cast (congrArg Value.bool (show ((insF d ((put0 l rt fu).1) ((put0 l rt fu).2) (⟨k, v⟩ : THit)).2.1.2) = true by simpa using h62)) (Step.move rfl)) (wA (vI ((insF d ((put0 l rt fu).1) ((put0 l rt fu).2) (⟨k, v⟩ : THit)).2.1.1)) (wA (vB true) ?_)))))
    refine WL.nil ?_
    refine W.ret ?_
    refine ⟨.inl rfl, (Value.tuple #[(vI ((insF d ((put0 l rt fu).1) ((put0 l rt fu).2) (⟨k, v⟩ : THit)).2.1.1)), (vB true)]), ?_, ?_⟩
    · exact ⟨rfl, (Res.r2 (show RV _ _ _ (.tmp 6) (vI ((insF d ((put0 l rt fu).1) ((put0 l rt fu).2) (⟨k, v⟩ : THit)).2.1.1)) from by exact rfl) (show RV _ _ _ (.tmp 7) (vB true) from by exact rfl))⟩
    have e66 : (bk tb #[(vP ab), (vI (((putT d l rt fu ln (⟨k, v⟩ : THit)).1.2).at_)), (vI (((putT d l rt fu ln (⟨k, v⟩ : THit)).1.2).turn)), (vB true), (vI ((putT d l rt fu ln (⟨k, v⟩ : THit)).2.1))] 94 : Chunk) = (bk tb #[(vP ab), (vI ((put0 l rt fu).2.at_)), (vI ((put0 l rt fu).2.turn)), (vB true), (vI ln)] 94 : Chunk) := by
     have hth_ : (insF d (put0 l rt fu).1 (put0 l rt fu).2 (⟨k, v⟩ : THit)).2.1.2 = true := by simpa using h62
     unfold putT putU; simp only [ho_]
     try simp [hth_]
    replace M := M.rechunk 1 (c' := bk tb #[(vP ab), (vI (((putT d l rt fu ln (⟨k, v⟩ : THit)).1.2).at_)), (vI (((putT d l rt fu ln (⟨k, v⟩ : THit)).1.2).turn)), (vB true), (vI ((putT d l rt fu ln (⟨k, v⟩ : THit)).2.1))] 94) rfl e66.symm
    have e67 : (putT d l rt fu ln (⟨k, v⟩ : THit)).1.1 = (insF d ((put0 l rt fu).1) ((put0 l rt fu).2) (⟨k, v⟩ : THit)).1 := by
     have hth_ : (insF d (put0 l rt fu).1 (put0 l rt fu).2 (⟨k, v⟩ : THit)).2.1.2 = true := by simpa using h62
     unfold putT putU; simp only [ho_]
     try simp [hth_]
    replace M := M.rechunk 0 (c' := arenaC 143 145 S59 ab ((putT d l rt fu ln (⟨k, v⟩ : THit)).1.1)) rfl (congrArg (fun z => arenaC 143 145 S59 ab z) e67.symm)
    refine ⟨S59, ?_, M.close [1, 0] rfl (by decide) trivial⟩
    have hth_ : (insF d (put0 l rt fu).1 (put0 l rt fu).2 (⟨k, v⟩ : THit)).2.1.2 = true := by simpa using h62
    unfold putT putU; simp only [ho_]
    try simp [hth_]
  ·
   rw [ho_] at M
   obtain ⟨b61, rfl, M⟩ := M.upSome 1 rfl
   refine W.region rfl (wM (vP b61) (wP (vB true) (WL.nil ?_)))
   refine W.cond (t := true) rfl (fun _ => ?_) (fun h => by cases h)
   refine W.drawn2 M [0, 1, 2, 3, 4, 5, 6, 7, 8, 9, 11, 12, 13, 14, 15, 17, 18, 19, 20, 21, 22, 23, 24, 10, 16, 25, 26, 27] [28, 29, 30] [27, 30] [10, 16, 25] _ _ (sN (sY (sY sE))) (fun _ h => h) Try.mixed (by kernel_rfl) ?_
   refine tP (vP tb) rfl (fun w => (Step.move rfl)) ?_
   refine tP (vP tb) rfl (fun w => (Step.move rfl)) ?_
   refine tP (vP tb) rfl (fun w => sP) ?_
   refine tP (vP tb) rfl (fun w => sP) ?_
   refine tR (vP ab) rfl (fun A w M => (Step.load1 Try.sc90 rfl ((M.cell 2 rfl 0).trans rfl))) ?_
   refine tP (vP b61) rfl (fun w => (Step.move rfl)) ?_
   refine tP (vP b61) rfl (fun w => sP) ?_
   refine tP (vP b61) rfl (fun w => sP) ?_
   refine tP (vP b61) rfl (fun w => sP) ?_
   refine tR (vS u_.1.key) rfl (fun A w M => (Step.load1 Try.sc9 rfl ((M.cell 1 rfl 0).trans rfl))) ?_
   refine tP (vP b61) rfl (fun w => (Step.move rfl)) ?_
   refine tP (vP b61) rfl (fun w => sP) ?_
   refine tP (vP b61) rfl (fun w => sP) ?_
   refine tP (Value.pointer (some ⟨b61, 1, none⟩)) rfl (fun w => sP) ?_
   refine tR (vI u_.1.val) rfl (fun A w M => (Step.load1 Try.sc3 rfl ((M.cell 1 rfl 1).trans rfl))) ?_
   refine tP (vP tb) rfl (fun w => (Step.move rfl)) ?_
   refine tP (vP tb) rfl (fun w => sP) ?_
   refine tP (Value.pointer (some ⟨tb, 1, none⟩)) rfl (fun w => sP) ?_
   refine tR (Value.agg #[(vI ((put0 l rt fu).2.at_)), (vI ((put0 l rt fu).2.turn))]) rfl (fun A w M => (Step.loadN Try.ag92 rfl (M.blk 2 rfl) (Nat.le_of_ble_eq_true rfl) rfl)) ?_
   refine tP (vP b61) rfl (fun w => (Step.move rfl)) ?_
   refine tP (vP b61) rfl (fun w => sP) ?_
   refine tP (Value.pointer (some ⟨b61, 2, none⟩)) rfl (fun w => sP) ?_
   refine tR (Value.agg #[(vI u_.2.at_), (vI u_.2.turn)]) rfl (fun A w M => (Step.loadN Try.ag92 rfl (M.blk 1 rfl) (Nat.le_of_ble_eq_true rfl) rfl)) ?_
   refine TW.new (obj := .cells #[(vS u_.1.key)] 9) (fun b => .slice (some ⟨b, 0, none⟩) 1 1) rfl (by decide) (by decide) rfl (fun w => Step.make (by kernel_rfl)) (fun b98 => ?_)
   refine TW.new (obj := .cells #[(vI u_.1.val)] 3) (fun b => .slice (some ⟨b, 0, none⟩) 1 1) rfl (by decide) (by decide) rfl (fun w => Step.make (by kernel_rfl)) (fun b99 => ?_)
   refine TW.new (obj := .cells #[(vI ((put0 l rt fu).2.at_)), (vI ((put0 l rt fu).2.turn)), (vI u_.2.at_), (vI u_.2.turn)] 92) (fun b => .slice (some ⟨b, 0, none⟩) 2 2) rfl (by decide) (by decide) rfl (fun w => Step.make (by kernel_rfl)) (fun b100 => ?_)
   refine tP (Value.agg #[(vB false), (Value.slice (some ⟨b98, 0, none⟩) 1 1), (Value.slice (some ⟨b100, 0, none⟩) 2 2), (Value.slice (some ⟨b99, 0, none⟩) 1 1)]) rfl (fun w => sP) ?_
   let Q : List Chunk := [bk b100 #[(vI ((put0 l rt fu).2.at_)), (vI ((put0 l rt fu).2.turn)), (vI u_.2.at_), (vI u_.2.turn)] 92, bk b99 #[(vI u_.1.val)] 3, bk b98 #[(vS u_.1.key)] 9, bk b61 #[(vS u_.1.key), (vI u_.1.val), (vI u_.2.at_), (vI u_.2.turn)] 104, bk tb #[(vP ab), (vI ((put0 l rt fu).2.at_)), (vI ((put0 l rt fu).2.turn)), (vB true), (vI ln)] 94]
   refine TW.callX (ι := (Nat → Prop)) (fun jx v_ => v_ = (Value.agg #[(vI (((rmake ((insF d ((put0 l rt fu).1) ((put0 l rt fu).2) (⟨k, v⟩ : THit)).1) (⟨false, ([u_.1.key] : List ByteArray), ([(put0 l rt fu).2, u_.2] : List Handle), ([u_.1.val] : List Int)⟩ : Nd)).2).at_)), (vI (((rmake ((insF d ((put0 l rt fu).1) ((put0 l rt fu).2) (⟨k, v⟩ : THit)).1) (⟨false, ([u_.1.key] : List ByteArray), ([(put0 l rt fu).2, u_.2] : List Handle), ([u_.1.val] : List Int)⟩ : Nd)).2).turn))])) (fun jx => arenaC 143 145 jx ab ((rmake ((insF d ((put0 l rt fu).1) ((put0 l rt fu).2) (⟨k, v⟩ : THit)).1) (⟨false, ([u_.1.key] : List ByteArray), ([(put0 l rt fu).2, u_.2] : List Handle), ([u_.1.val] : List Int)⟩ : Nd)).1) :: Q) (fun jx => []) rfl (by decide) rfl (fun jx => (sN (sN (sN (sN (sY (sY sE))))))) (fun jx r h => h) (fun A w M => have fq := M.frm [arenaC 143 145 S59 ab ((insF d ((put0 l rt fu).1) ((put0 l rt fu).2) (⟨k, v⟩ : THit)).1)] (fl A :: Q) [4, 0, 1, 2, 3, 5, 6] rfl; Rets.mono (ar_make ab ((insF d ((put0 l rt fu).1) ((put0 l rt fu).2) (⟨k, v⟩ : THit)).1) S59 (Value.slice (some ⟨b98, 0, none⟩) 1 1) (Value.slice (some ⟨b100, 0, none⟩) 2 2) (Value.slice (some ⟨b99, 0, none⟩) 1 1) (⟨false, ([u_.1.key] : List ByteArray), ([(put0 l rt fu).2, u_.2] : List Handle), ([u_.1.val] : List Int)⟩ : Nd) (by first | assumption | exact smallA_of rfl) (by simp [insL] <;> omega) (by simp [insL] <;> omega) (by simp [insL] <;> omega) (M.eF fq ⟨((M.cF fq 3 rfl).imp fun _ h => SlAt.of_blk (n := 1) (size := 1) h rfl (by decide)), ((M.cF fq 1 rfl).imp fun _ h => SlAt.of_blk (n := 2) (size := 2) h rfl (by decide)), ((M.cF fq 2 rfl).imp fun _ h => SlAt.of_blk (n := 1) (size := 1) h rfl (by decide)), trivial⟩)) (fun v_ w_ ⟨S101, e_, m⟩ => ⟨S101, e_, (M.lF fq m).sel [1, 0, 2, 3, 4, 5, 6] rfl (by decide), fun b hb => M.kF fq m b hb⟩)) (fun w => CallsF.func Try.en46 rfl) (fun S101 v hp hin => ?_)
   replace hp := hp.symm; subst hp
   obtain ⟨_, _, hin⟩ := hin
   clear hin
   refine TW.turn _ _ (sY (sY (sY (sY (sY (sN sE)))))) (fun _ h => h) ?_
   refine tP (vP tb) rfl (fun w => sP) ?_
   refine tP (Value.pointer (some ⟨tb, 1, none⟩)) rfl (fun w => sP) ?_
   refine TW.store (v := (Value.agg #[(vI (((rmake ((insF d ((put0 l rt fu).1) ((put0 l rt fu).2) (⟨k, v⟩ : THit)).1) (⟨false, ([u_.1.key] : List ByteArray), ([(put0 l rt fu).2, u_.2] : List Handle), ([u_.1.val] : List Int)⟩ : Nd)).2).at_)), (vI (((rmake ((insF d ((put0 l rt fu).1) ((put0 l rt fu).2) (⟨k, v⟩ : THit)).1) (⟨false, ([u_.1.key] : List ByteArray), ([(put0 l rt fu).2, u_.2] : List Handle), ([u_.1.val] : List Int)⟩ : Nd)).2).turn))])) (cs := [(vI (((rmake ((insF d ((put0 l rt fu).1) ((put0 l rt fu).2) (⟨k, v⟩ : THit)).1) (⟨false, ([u_.1.key] : List ByteArray), ([(put0 l rt fu).2, u_.2] : List Handle), ([u_.1.val] : List Int)⟩ : Nd)).2).at_)), (vI (((rmake ((insF d ((put0 l rt fu).1) ((put0 l rt fu).2) (⟨k, v⟩ : THit)).1) (⟨false, ([u_.1.key] : List ByteArray), ([(put0 l rt fu).2, u_.2] : List Handle), ([u_.1.val] : List Int)⟩ : Nd)).2).turn))]) (c' := #[(vP ab), (vI (((rmake ((insF d ((put0 l rt fu).1) ((put0 l rt fu).2) (⟨k, v⟩ : THit)).1) (⟨false, ([u_.1.key] : List ByteArray), ([(put0 l rt fu).2, u_.2] : List Handle), ([u_.1.val] : List Int)⟩ : Nd)).2).at_)), (vI (((rmake ((insF d ((put0 l rt fu).1) ((put0 l rt fu).2) (⟨k, v⟩ : THit)).1) (⟨false, ([u_.1.key] : List ByteArray), ([(put0 l rt fu).2, u_.2] : List Handle), ([u_.1.val] : List Int)⟩ : Nd)).2).turn)), (vB true), (vI ln)]) 5 rfl rfl (by decide) rfl Try.el92.sized rfl rfl rfl rfl (Nat.le_of_ble_eq_true rfl) (cel_cons rfl (cel_cons rfl cel_nil)) rfl rfl (sY (sY (sY (sY (sY (sN sE)))))) (fun r h => h) ?_
   refine TW.done (fun w103 M => ?_)
   refine W.seq' (wR (wM (vB ((insF d ((put0 l rt fu).1) ((put0 l rt fu).2) (⟨k, v⟩ : THit)).2.1.2)) (wP (vB (!((insF d ((put0 l rt fu).1) ((put0 l rt fu).2) (⟨k, v⟩ : THit)).2.1.2))) (WL.nil ?_))))
   refine W.cond (t := !((insF d ((put0 l rt fu).1) ((put0 l rt fu).2) (⟨k, v⟩ : THit)).2.1.2)) rfl (fun h104 => ?_) (fun h104 => ?_)
   ·
    refine W.region rfl (wM (vP tb) (wP (vP tb) (wP (Value.pointer (some ⟨tb, 4, none⟩)) (wS (vI ln) rfl (Step.load1 Try.sc3 rfl ((M.cell 5 rfl 4).trans rfl)) (wS (vI (ln + 1)) rfl (Step.add rfl rfl (wrap_i64 (by omega))) ?_)))))
    refine wP (vP tb) (wP (Value.pointer (some ⟨tb, 4, none⟩)) ?_)
    refine WL.store (v := (vI (ln + 1))) (cs := [(vI (ln + 1))]) (c' := #[(vP ab), (vI (((rmake ((insF d ((put0 l rt fu).1) ((put0 l rt fu).2) (⟨k, v⟩ : THit)).1) (⟨false, ([u_.1.key] : List ByteArray), ([(put0 l rt fu).2, u_.2] : List Handle), ([u_.1.val] : List Int)⟩ : Nd)).2).at_)), (vI (((rmake ((insF d ((put0 l rt fu).1) ((put0 l rt fu).2) (⟨k, v⟩ : THit)).1) (⟨false, ([u_.1.key] : List ByteArray), ([(put0 l rt fu).2, u_.2] : List Handle), ([u_.1.val] : List Int)⟩ : Nd)).2).turn)), (vB true), (vI (ln + 1))]) M 5 rfl rfl Try.el3.sized rfl rfl rfl rfl (Nat.le_of_ble_eq_true rfl) (cel_cons rfl cel_nil) rfl rfl (fun w105 M => ?_)
    refine WL.nil (wR (wM (vI ((insF d ((put0 l rt fu).1) ((put0 l rt fu).2) (⟨k, v⟩ : THit)).2.1.1)) (wS (vB false) rfl (Step.cast (congrArg Value.bool (show ((insF d ((put0 l rt fu).1) ((put0 l rt fu).2) (⟨k, v⟩ : THit)).2.1.2) = false by simpa using h104)) (Step.move rfl)) (wA (vI ((insF d ((put0 l rt fu).1) ((put0 l rt fu).2) (⟨k, v⟩ : THit)).2.1.1)) (wA (vB false) ?_)))))
    refine WL.nil ?_
    refine W.ret ?_
    refine ⟨.inl rfl, (Value.tuple #[(vI ((insF d ((put0 l rt fu).1) ((put0 l rt fu).2) (⟨k, v⟩ : THit)).2.1.1)), (vB false)]), ?_, ?_⟩
    · exact ⟨rfl, (Res.r2 (show RV _ _ _ (.tmp 6) (vI ((insF d ((put0 l rt fu).1) ((put0 l rt fu).2) (⟨k, v⟩ : THit)).2.1.1)) from by exact rfl) (show RV _ _ _ (.tmp 7) (vB false) from by exact rfl))⟩
    have e106 : (bk tb #[(vP ab), (vI (((putT d l rt fu ln (⟨k, v⟩ : THit)).1.2).at_)), (vI (((putT d l rt fu ln (⟨k, v⟩ : THit)).1.2).turn)), (vB true), (vI ((putT d l rt fu ln (⟨k, v⟩ : THit)).2.1))] 94 : Chunk) = (bk tb #[(vP ab), (vI (((rmake ((insF d ((put0 l rt fu).1) ((put0 l rt fu).2) (⟨k, v⟩ : THit)).1) (⟨false, ([u_.1.key] : List ByteArray), ([(put0 l rt fu).2, u_.2] : List Handle), ([u_.1.val] : List Int)⟩ : Nd)).2).at_)), (vI (((rmake ((insF d ((put0 l rt fu).1) ((put0 l rt fu).2) (⟨k, v⟩ : THit)).1) (⟨false, ([u_.1.key] : List ByteArray), ([(put0 l rt fu).2, u_.2] : List Handle), ([u_.1.val] : List Int)⟩ : Nd)).2).turn)), (vB true), (vI (ln + 1))] 94 : Chunk) := by
     have hth_ : (insF d (put0 l rt fu).1 (put0 l rt fu).2 (⟨k, v⟩ : THit)).2.1.2 = false := by simpa using h104
     unfold putT putU; simp only [ho_]
     try simp [hth_]
    replace M := M.rechunk 5 (c' := bk tb #[(vP ab), (vI (((putT d l rt fu ln (⟨k, v⟩ : THit)).1.2).at_)), (vI (((putT d l rt fu ln (⟨k, v⟩ : THit)).1.2).turn)), (vB true), (vI ((putT d l rt fu ln (⟨k, v⟩ : THit)).2.1))] 94) rfl e106.symm
    have e107 : (putT d l rt fu ln (⟨k, v⟩ : THit)).1.1 = (rmake ((insF d ((put0 l rt fu).1) ((put0 l rt fu).2) (⟨k, v⟩ : THit)).1) (⟨false, ([u_.1.key] : List ByteArray), ([(put0 l rt fu).2, u_.2] : List Handle), ([u_.1.val] : List Int)⟩ : Nd)).1 := by
     have hth_ : (insF d (put0 l rt fu).1 (put0 l rt fu).2 (⟨k, v⟩ : THit)).2.1.2 = false := by simpa using h104
     unfold putT putU; simp only [ho_]
     try simp [hth_]
    replace M := M.rechunk 0 (c' := arenaC 143 145 S101 ab ((putT d l rt fu ln (⟨k, v⟩ : THit)).1.1)) rfl (congrArg (fun z => arenaC 143 145 S101 ab z) e107.symm)
    refine ⟨S101, ?_, M.close [5, 0] rfl (by decide) trivial⟩
    have hth_ : (insF d (put0 l rt fu).1 (put0 l rt fu).2 (⟨k, v⟩ : THit)).2.1.2 = false := by simpa using h104
    unfold putT putU; simp only [ho_]
    try simp [hth_]
   ·
    refine W.skip (wR (wM (vI ((insF d ((put0 l rt fu).1) ((put0 l rt fu).2) (⟨k, v⟩ : THit)).2.1.1)) (wS (vB true) rfl (Step.cast (congrArg Value.bool (show ((insF d ((put0 l rt fu).1) ((put0 l rt fu).2) (⟨k, v⟩ : THit)).2.1.2) = true by simpa using h104)) (Step.move rfl)) (wA (vI ((insF d ((put0 l rt fu).1) ((put0 l rt fu).2) (⟨k, v⟩ : THit)).2.1.1)) (wA (vB true) ?_)))))
    refine WL.nil ?_
    refine W.ret ?_
    refine ⟨.inl rfl, (Value.tuple #[(vI ((insF d ((put0 l rt fu).1) ((put0 l rt fu).2) (⟨k, v⟩ : THit)).2.1.1)), (vB true)]), ?_, ?_⟩
    · exact ⟨rfl, (Res.r2 (show RV _ _ _ (.tmp 6) (vI ((insF d ((put0 l rt fu).1) ((put0 l rt fu).2) (⟨k, v⟩ : THit)).2.1.1)) from by exact rfl) (show RV _ _ _ (.tmp 7) (vB true) from by exact rfl))⟩
    have e108 : (bk tb #[(vP ab), (vI (((putT d l rt fu ln (⟨k, v⟩ : THit)).1.2).at_)), (vI (((putT d l rt fu ln (⟨k, v⟩ : THit)).1.2).turn)), (vB true), (vI ((putT d l rt fu ln (⟨k, v⟩ : THit)).2.1))] 94 : Chunk) = (bk tb #[(vP ab), (vI (((rmake ((insF d ((put0 l rt fu).1) ((put0 l rt fu).2) (⟨k, v⟩ : THit)).1) (⟨false, ([u_.1.key] : List ByteArray), ([(put0 l rt fu).2, u_.2] : List Handle), ([u_.1.val] : List Int)⟩ : Nd)).2).at_)), (vI (((rmake ((insF d ((put0 l rt fu).1) ((put0 l rt fu).2) (⟨k, v⟩ : THit)).1) (⟨false, ([u_.1.key] : List ByteArray), ([(put0 l rt fu).2, u_.2] : List Handle), ([u_.1.val] : List Int)⟩ : Nd)).2).turn)), (vB true), (vI ln)] 94 : Chunk) := by
     have hth_ : (insF d (put0 l rt fu).1 (put0 l rt fu).2 (⟨k, v⟩ : THit)).2.1.2 = true := by simpa using h104
     unfold putT putU; simp only [ho_]
     try simp [hth_]
    replace M := M.rechunk 5 (c' := bk tb #[(vP ab), (vI (((putT d l rt fu ln (⟨k, v⟩ : THit)).1.2).at_)), (vI (((putT d l rt fu ln (⟨k, v⟩ : THit)).1.2).turn)), (vB true), (vI ((putT d l rt fu ln (⟨k, v⟩ : THit)).2.1))] 94) rfl e108.symm
    have e109 : (putT d l rt fu ln (⟨k, v⟩ : THit)).1.1 = (rmake ((insF d ((put0 l rt fu).1) ((put0 l rt fu).2) (⟨k, v⟩ : THit)).1) (⟨false, ([u_.1.key] : List ByteArray), ([(put0 l rt fu).2, u_.2] : List Handle), ([u_.1.val] : List Int)⟩ : Nd)).1 := by
     have hth_ : (insF d (put0 l rt fu).1 (put0 l rt fu).2 (⟨k, v⟩ : THit)).2.1.2 = true := by simpa using h104
     unfold putT putU; simp only [ho_]
     try simp [hth_]
    replace M := M.rechunk 0 (c' := arenaC 143 145 S101 ab ((putT d l rt fu ln (⟨k, v⟩ : THit)).1.1)) rfl (congrArg (fun z => arenaC 143 145 S101 ab z) e109.symm)
    refine ⟨S101, ?_, M.close [5, 0] rfl (by decide) trivial⟩
    have hth_ : (insF d (put0 l rt fu).1 (put0 l rt fu).2 (⟨k, v⟩ : THit)).2.1.2 = true := by simpa using h104
    unfold putT putU; simp only [ho_]
    try simp [hth_]
end Go.Proofs
set_option maxRecDepth 100000
namespace Go.Proofs
open Go Tp
set_option maxHeartbeats 1000000 in
theorem tr_least {G X : Nat → Prop} {w : World} (tb ab : Nat) (rt : Handle) (fu : Bool) (ln : Int) (l : List RPlace) (S : Nat → Prop) (f : Value) (p : ByteArray → Bool)  (hA : SmallA l) (d : Nat) (hLk : fu = true → lookOk d l rt) (M : Mem G X w [arenaC 143 145 S ab l] [bF tb #[(vP ab), (vI rt.at_), (vI rt.turn), (vB fu), (vI ln)] 94, FnS Try.prog f p] w) : Rets Try.prog 79 #[(vP tb), f] w fun r w' => r = (Value.tuple #[(Value.agg #[(vS (((lookT fu d l rt p).1).key)), (vI (((lookT fu d l rt p).1).val))]), (vB ((lookT fu d l rt p).2))]) ∧ Mem G X w [arenaC 143 145 S ab l] [] w' := by
 refine Rets.enter 69 _ Try.func79 rfl Try.ntmps79 Try.results79 (by simp) ?_
 refine wR ?_
 refine WL.alloc (c := #[(vS sZ), (vI 0)]) M rfl Try.el41.zero rfl (fun b1 w2 hb1 M => ?_)
 refine wA (vB false) (WL.nil (W.seq' (wR (wM (vP tb) (wP (vB false) ?_)))))
 refine wM (vB false) (wM (vP tb) (wP (vP tb) (wP (Value.pointer (some ⟨tb, 3, none⟩)) (wS (vB fu) rfl (Step.load1 Try.sc4 rfl ((cell_blk (M.rep 0 rfl) 3).trans rfl)) (wP (vB !fu) ?_)))))
 refine wS (vB !fu) rfl (Step.pick (t := false) rfl rfl) (WL.nil ?_)
 refine W.cond (t := !fu) rfl (fun h3 => ?_) (fun h3 => ?_)
 ·
  refine wR (wP (Value.agg #[(vS sZ), (vI 0)]) ?_)
  refine WL.store (v := (Value.agg #[(vS sZ), (vI 0)])) (cs := [(vS sZ), (vI 0)]) (c' := #[(vS sZ), (vI 0)]) M 0 rfl rfl Try.el41.sized rfl rfl rfl rfl (Nat.le_of_ble_eq_true rfl) (cel_cons rfl (cel_cons rfl cel_nil)) rfl rfl (fun w4 M => ?_)
  refine wA (vB false) (WL.nil ?_)
  refine W.ret ?_
  refine ⟨.inl rfl, (Value.tuple #[(Value.agg #[(vS sZ), (vI 0)]), (vB false)]), ?_, ?_⟩
  · exact ⟨rfl, (Res.r2 (RV.cellN Try.ag41 rfl (M.blk 0 rfl) rfl) (show RV _ _ _ (.tmp 5) (vB false) from by exact rfl))⟩
  refine ⟨?_, M.close [1] rfl (by decide) trivial⟩
  have hfu_ : fu = false := (by simpa using h3)
  simp [lookT, noHit, hfu_]
 ·
  refine W.skip (wR (wM (vP tb) (wP (vP tb) (wP (Value.pointer (some ⟨tb, 1, none⟩)) (wS (Value.agg #[(vI rt.at_), (vI rt.turn)]) rfl (Step.loadN Try.ag92 rfl (M.rep 0 rfl) (Nat.le_of_ble_eq_true rfl) rfl) ?_)))))
  refine WL.alloc (c := #[(vI 0), (vI 0)]) M rfl Try.el92.zero rfl (fun b5 w6 hb5 M => ?_)
  refine WL.store (v := (Value.agg #[(vI rt.at_), (vI rt.turn)])) (cs := [(vI rt.at_), (vI rt.turn)]) (c' := #[(vI rt.at_), (vI rt.turn)]) M 0 rfl rfl Try.el92.sized rfl rfl rfl rfl (Nat.le_of_ble_eq_true rfl) (cel_cons rfl (cel_cons rfl cel_nil)) rfl rfl (fun w7 M => ?_)
  refine WL.nil (W.block ?_)
  replace M := M.sel (L' := [bk b5 #[(vI rt.at_), (vI rt.turn)] 92, bk b1 #[(vS sZ), (vI 0)] 41, arenaC 143 145 S ab l]) [0, 1, 2] rfl (by decide)
  refine W.loop (fun kk ρ w' => ∃ (hb_ : Nat) (h_ : Handle) (d_ : Nat) (b_ : THit × Bool), ((lookOk d_ l h_) ∧ (leastT d_ l h_ p b_ = leastT d l rt p noHit) ∧ kk = d_ + 1) ∧ ρ.has [(0, (vP tb)), (1, f), (4, (vP b1)), (5, (vB b_.2)), (6, (vP hb_))] ∧ Mem G X w [bk hb_ #[(vI h_.at_), (vI h_.turn)] 92, bk b1 #[(vS b_.1.key), (vI b_.1.val)] 41, arenaC 143 145 S ab l] [bF tb #[(vP ab), (vI rt.at_), (vI rt.turn), (vB fu), (vI ln)] 94, FnS Try.prog f p]  w') _ ⟨b5, rt, d, noHit, ⟨(hLk (by simpa using h3)), rfl, rfl⟩, ⟨rfl, rfl, rfl, rfl, rfl, rfl, rfl⟩, M⟩ ?_
  rintro _ ρ9 w8 ⟨hb_, h_, d_, b_, ⟨hi10, hi11, rfl⟩, hρ, M⟩
  obtain ⟨ρ9, rfl⟩ := hρ.know
  clear hρ
  have hLk_ : lookOk d_ l h_ := hi10
  have hEq_ : leastT d_ l h_ p b_ = leastT d l rt p noHit := hi11
  obtain ⟨n, hn⟩ : ∃ n, (rget l h_).1 = n := ⟨_, rfl⟩
  obtain ⟨⟨ht1, ht2, ht3⟩, hvl⟩ := lookOk_node hLk_ hn
  refine W.seq' (W.block (wR (wM (vP tb) (wS (Value.agg #[(vI h_.at_), (vI h_.turn)]) rfl (Step.loadN Try.ag92 rfl (M.blk 0 rfl) (Nat.le_of_ble_eq_true rfl) rfl) ?_))))
  have fq := M.frm [arenaC 143 145 S ab l] [bk hb_ #[(vI h_.at_), (vI h_.turn)] 92, bk b1 #[(vS b_.1.key), (vI b_.1.val)] 41] [2, 0, 1] rfl
  refine WL.callX rfl (tr_node tb ab rt fu ln l S h_ (by assumption) n hn (M.eF fq ⟨(M.rF fq 0 rfl), trivial⟩)) (CallsF.func Try.en49 rfl) ?_
  rintro _ w15 ⟨kv12, dv13, vv14, rfl, m⟩
  replace M := M.lF fq m
  clear m
  have sl16 : IsSl kv12 := SlAt.isSl (own_slAt (Mem.chunk M 1 rfl).inv)
  have hle17 := SlAt.le' (own_slAt (Mem.chunk M 1 rfl).inv)
  have sl18 : IsSl dv13 := SlAt.isSl (own_slAt (Mem.chunk M 2 rfl).inv)
  have hle19 := SlAt.le' (own_slAt (Mem.chunk M 2 rfl).inv)
  have sl20 : IsSl vv14 := SlAt.isSl (own_slAt (Mem.chunk M 3 rfl).inv)
  have hle21 := SlAt.le' (own_slAt (Mem.chunk M 3 rfl).inv)
  refine WL.alloc (c := #[(vB false), vZ, vZ, vZ]) M rfl Try.el99.zero rfl (fun b22 w23 hb22 M => ?_)
  refine WL.store (v := (Value.agg #[(vB n.leaf), kv12, dv13, vv14])) (cs := [(vB n.leaf), kv12, dv13, vv14]) (c' := #[(vB n.leaf), kv12, dv13, vv14]) M 0 rfl rfl Try.el99.sized rfl rfl rfl rfl (Nat.le_of_ble_eq_true rfl) (cel_cons rfl (cel_cons (IsSl.cel sl16) (cel_cons (IsSl.cel sl18) (cel_cons (IsSl.cel sl20) cel_nil)))) rfl rfl (fun w24 M => ?_)
  refine WL.nil (wR (wA (vI 0) (WL.nil (W.seq' (W.block ?_)))))
  refine W.loop (fun kk ρ w' => ∃ (i_ : Nat), ((i_ ≤ n.keys.length) ∧ (∀ j u, j < i_ → n.keys[j]? = some u → p u = false) ∧ kk = n.keys.length - i_) ∧ ρ.has [(0, (vP tb)), (1, f), (4, (vP b1)), (5, (vB b_.2)), (6, (vP hb_)), (7, (vP b22)), (8, (vI ↑i_)), (23, (vP tb)), (24, (Value.agg #[(vI h_.at_), (vI h_.turn)])), (25, (Value.agg #[(vB n.leaf), kv12, dv13, vv14]))] ∧ Mem G X w [bk b22 #[(vB n.leaf), kv12, dv13, vv14] 99, arenaC 143 145 S ab l, oS kv12 n.keys, oH dv13 n.kids, oI vv14 n.vals, bk hb_ #[(vI h_.at_), (vI h_.turn)] 92, bk b1 #[(vS b_.1.key), (vI b_.1.val)] 41] [bF tb #[(vP ab), (vI rt.at_), (vI rt.turn), (vB fu), (vI ln)] 94, FnS Try.prog f p]  w') _ ⟨0, ⟨(Nat.zero_le _), (fun _ _ h => absurd h (Nat.not_lt_zero _)), rfl⟩, ⟨rfl, rfl, rfl, rfl, rfl, rfl, rfl, rfl, rfl, rfl, rfl, rfl⟩, M⟩ ?_
  rintro _ ρ26 w25 ⟨i_, ⟨hi27, hi28, rfl⟩, hρ, M⟩
  obtain ⟨ρ26, rfl⟩ := hρ.know
  clear hρ
  refine W.seq' (wR (wM (vI ↑i_) (wP (Value.pointer (some ⟨b22, 1, none⟩)) (wS kv12 rfl (Step.load1 Try.sc22 rfl ((M.cell 0 rfl 1).trans rfl)) (wS (vI ↑n.keys.length) rfl (Step.lenSl Try.un22 rfl (own_slAt (M.chunk 2 rfl).inv)) ?_)))))
  refine wP (vB (decide ((↑i_ : Int) < (↑n.keys.length : Int)))) (wM (vB (decide ((↑i_ : Int) < (↑n.keys.length : Int)))) ?_)
  rcases Bool.eq_false_or_eq_true (decide ((↑i_ : Int) < (↑n.keys.length : Int))) with h29 | h29
  ·
   have h29p := of_decide_eq_true h29
   rw [h29]
   refine wM f (wP (Value.pointer (some ⟨b22, 1, none⟩)) (wS kv12 rfl (Step.load1 Try.sc22 rfl ((M.cell 0 rfl 1).trans rfl)) (wM (vI ↑i_) ?_)))
   obtain ⟨cap31, hb30⟩ := SlAt.base (own_slAt (M.chunk 2 rfl).inv) (by omega)
   obtain ⟨x32, hx32⟩ := elem_of_lt (xs := n.keys) (i := i_) (by omega)
   refine wS (vQ kv12 i_ 1) rfl (sX i_ Try.un22 Try.el9 rfl rfl hb30) (wS (vS x32) rfl (Step.loadE (k := 0) Try.sc9 (flat_ec (own_slAt (M.chunk 2 rfl).inv) hx32 strE_len) (by decide) rfl rfl) ?_)
   refine WL.callV rfl rfl rfl ((M.rep 1 rfl : FnS _ _ _ _) x32) ?_
   rintro _ w33 ⟨rfl, ho⟩
   replace M := M.old ho
   refine wP (vB (!(p x32))) (wS (vB (!(p x32))) rfl (Step.pick (t := true) rfl rfl) (WL.nil ?_))
   refine W.cond (t := !(p x32)) rfl (fun h34 => ?_) (fun h34 => ?_)
   ·
    refine W.skip (W.block (W.region rfl (wM (vI ↑i_) (wS (vI (↑i_ + 1)) rfl (Step.add rfl rfl (wrap_i64 (by omega))) (wA (vI (↑i_ + 1)) ?_)))))
    refine WL.nil ?_
    exact ⟨_, (by omega), i_ + 1, ⟨(by omega), (below_stepG hi28 hx32 (by simpa using h34)), rfl⟩, ⟨rfl, rfl, rfl, rfl, rfl, rfl, rfl, rfl, rfl, rfl, rfl, rfl⟩, M⟩
   ·
    have hfi_ : n.keys.findIdx p = i_ := find_at hx32 (by simpa using h34) hi28
    have hil_ : i_ < n.keys.length := (List.getElem?_eq_some_iff.1 hx32).1
    refine W.exit ?_
    refine thn_exit ?_
    refine thn_exit ?_
    refine inBlk_hit ?_
    refine W.seq' (wR (wM (vI ↑i_) (wP (Value.pointer (some ⟨b22, 1, none⟩)) (wS kv12 rfl (Step.load1 Try.sc22 rfl ((M.cell 0 rfl 1).trans rfl)) (wS (vI ↑n.keys.length) rfl (Step.lenSl Try.un22 rfl (own_slAt (M.chunk 2 rfl).inv)) ?_)))))
    refine wS (vB true) rfl (Step.cast (congrArg Value.bool h29) sP) (WL.nil ?_)
    refine W.cond (t := true) rfl (fun _ => ?_) (fun h => by cases h)
    obtain ⟨cap36, hb35⟩ := SlAt.base (own_slAt (M.chunk 4 rfl).inv) (by omega)
    obtain ⟨x37, hx37⟩ := elem_of_lt (xs := n.vals) (i := i_) (by omega)
    refine W.drawn M [0, 1, 2, 3, 4, 5, 6, 7, 8, 9, 10, 11, 12] [11] [] _ _ (sY (sY (sY (sY (sY (sY (sN sE))))))) (fun _ h => h) Try.mixed (by kernel_rfl) ?_
    refine tP (Value.pointer (some ⟨b22, 1, none⟩)) rfl (fun w => sP) ?_
    refine tR kv12 rfl (fun A w M => (Step.load1 Try.sc22 rfl ((M.cell 1 rfl 1).trans rfl))) ?_
    refine tP (vI ↑i_) rfl (fun w => (Step.move rfl)) ?_
    refine tP (vQ kv12 i_ 1) rfl (fun w => (sX i_ Try.un22 Try.el9 rfl rfl hb30)) ?_
    refine tR (vS x32) rfl (fun A w M => (Step.loadE (k := 0) Try.sc9 (flat_ec (own_slAt (M.chunk 3 rfl).inv) hx32 strE_len) (by decide) rfl rfl)) ?_
    refine tP (Value.pointer (some ⟨b22, 3, none⟩)) rfl (fun w => sP) ?_
    refine tR vv14 rfl (fun A w M => (Step.load1 Try.sc97 rfl ((M.cell 1 rfl 3).trans rfl))) ?_
    refine tP (vI ↑i_) rfl (fun w => (Step.move rfl)) ?_
    refine tP (vQ vv14 i_ 1) rfl (fun w => (sX i_ Try.un97 Try.el3 rfl rfl hb35)) ?_
    refine tR (vI x37) rfl (fun A w M => (Step.loadE (k := 0) Try.sc3 (flat_ec (own_slAt (M.chunk 5 rfl).inv) hx37 intE_len) (by decide) rfl rfl)) ?_
    refine tP (Value.agg #[(vS x32), (vI x37)]) rfl (fun w => sP) ?_
    refine TW.store (v := (Value.agg #[(vS x32), (vI x37)])) (cs := [(vS x32), (vI x37)]) (c' := #[(vS x32), (vI x37)]) 6 rfl rfl (by decide) rfl Try.el41.sized rfl rfl rfl rfl (Nat.le_of_ble_eq_true rfl) (cel_cons rfl (cel_cons rfl cel_nil)) rfl rfl (sY (sY (sY (sY (sY (sY (sN sE))))))) (fun r h => h) ?_
    refine tP (vB true) rfl (fun w => (Step.assign rfl)) ?_
    refine TW.done (fun w40 M => ?_)
    refine W.seq' (wR (wP (vP b22) (wS (vB n.leaf) rfl (Step.load1 Try.sc4 rfl ((M.cell 0 rfl 0).trans rfl)) (WL.nil ?_))))
    refine W.cond (t := n.leaf) rfl (fun h41 => ?_) (fun h41 => ?_)
    ·
     have hlf_ : n.leaf = true := h41
     refine wR (wS (Value.agg #[(vS x32), (vI x37)]) rfl (Step.loadN Try.ag41 rfl (M.blk 6 rfl) (Nat.le_of_ble_eq_true rfl) rfl) (wM (vB true) ?_))
     refine WL.store (v := (Value.agg #[(vS x32), (vI x37)])) (cs := [(vS x32), (vI x37)]) (c' := #[(vS x32), (vI x37)]) M 6 rfl rfl Try.el41.sized rfl rfl rfl rfl (Nat.le_of_ble_eq_true rfl) (cel_cons rfl (cel_cons rfl cel_nil)) rfl rfl (fun w42 M => ?_)
     refine wA (vB true) (WL.nil ?_)
     refine W.ret ?_
     refine ⟨.inl rfl, (Value.tuple #[(Value.agg #[(vS x32), (vI x37)]), (vB true)]), ?_, ?_⟩
     · exact ⟨rfl, (Res.r2 (RV.cellN Try.ag41 rfl (M.blk 6 rfl) rfl) (show RV _ _ _ (.tmp 5) (vB true) from by exact rfl))⟩
     refine ⟨?_, M.close [1] rfl (by decide) trivial⟩
     unfold lookT; rw [if_pos (by simpa using h3), ← hEq_, leastT_leaf hn hlf_, hfi_, if_pos hil_]; try simp [hitOf, List.getD, h3, h29p, hx32, h34, hx37, h41]
    ·
     have hlf_ : n.leaf = false := h41
     obtain ⟨e, rfl, hkl_, hLk2_⟩ := lookOk_kid hLk_ hn hlf_
     refine W.skip (W.region rfl (wP (Value.pointer (some ⟨b22, 2, none⟩)) (wS dv13 rfl (Step.load1 Try.sc96 rfl ((M.cell 0 rfl 2).trans rfl)) (wM (vI ↑i_) ?_))))
     obtain ⟨cap44, hb43⟩ := SlAt.base (own_slAt (M.chunk 3 rfl).inv) (by omega)
     obtain ⟨x45, hx45⟩ := elem_of_lt (xs := n.kids) (i := i_) (by omega)
     have hgd_ : n.kids.getD i_ hdZero = x45 := by rw [List.getD_eq_getElem?_getD, hx45]; rfl
     refine wS (vQ dv13 i_ 2) rfl (sX i_ Try.un96 Try.el92 rfl rfl hb43) (wS (Value.agg #[(vI x45.at_), (vI x45.turn)]) rfl (Step.loadEN (k := 0) (cs' := [(vI x45.at_), (vI x45.turn)]) Try.ag92 (flat_ec (own_slAt (M.chunk 3 rfl).inv) hx45 handleE_len) (by decide) rfl rfl rfl) ?_)
     refine WL.store (v := (Value.agg #[(vI x45.at_), (vI x45.turn)])) (cs := [(vI x45.at_), (vI x45.turn)]) (c' := #[(vI x45.at_), (vI x45.turn)]) M 5 rfl rfl Try.el92.sized rfl rfl rfl rfl (Nat.le_of_ble_eq_true rfl) (cel_cons rfl (cel_cons rfl cel_nil)) rfl rfl (fun w46 M => ?_)
     refine WL.nil (wR (wS (Value.agg #[(vI x45.at_), (vI x45.turn)]) rfl (Step.loadN Try.ag92 rfl (M.blk 5 rfl) (Nat.le_of_ble_eq_true rfl) rfl) (WL.nil (W.region rfl ?_))))
     refine WL.alloc (c := #[(vI 0), (vI 0)]) M rfl Try.el92.zero rfl (fun b47 w48 hb47 M => ?_)
     refine WL.store (v := (Value.agg #[(vI x45.at_), (vI x45.turn)])) (cs := [(vI x45.at_), (vI x45.turn)]) (c' := #[(vI x45.at_), (vI x45.turn)]) M 0 rfl rfl Try.el92.sized rfl rfl rfl rfl (Nat.le_of_ble_eq_true rfl) (cel_cons rfl (cel_cons rfl cel_nil)) rfl rfl (fun w49 M => ?_)
     refine WL.nil ?_
     replace M := M.sel (L' := [bk b47 #[(vI x45.at_), (vI x45.turn)] 92, bk b1 #[(vS x32), (vI x37)] 41, arenaC 143 145 S ab l]) [0, 7, 2] rfl (by decide)
     exact ⟨_, (by omega), b47, x45, e, ((⟨x32, x37⟩ : THit), true), ⟨(hLk2_ _ (List.mem_of_getElem? hx45)), (by rw [← hEq_, leastT_kid hn hlf_, hfi_, hgd_, if_pos hil_]; try simp [hitOf, List.getD, h3, h29p, hx32, h34, hx37, h41, hx45]), rfl⟩, ⟨rfl, rfl, rfl, rfl, rfl, rfl, rfl⟩, M⟩
  ·
   have h29p := of_decide_eq_false h29
   have hfi_ : n.keys.findIdx p = i_ := (find_end (by omega) hi28).trans (by omega)
   have hil_ : ¬ i_ < n.keys.length := by omega
   rw [h29]
   refine WL.pass rfl ?_
   refine WL.pass rfl ?_
   refine WL.pass rfl ?_
   refine WL.pass rfl ?_
   refine WL.pass rfl ?_
   refine WL.pass rfl ?_
   refine WL.pass rfl ?_
   refine WL.pass rfl ?_
   refine wS (vB false) rfl (Step.pick (t := false) rfl rfl) (WL.nil ?_)
   refine W.cond (t := false) rfl (fun h => by cases h) (fun _ => ?_)
   refine W.exit ?_
   refine thn_exit ?_
   refine thn_exit ?_
   refine inBlk_hit ?_
   refine W.seq' (wR (wM (vI ↑i_) (wP (Value.pointer (some ⟨b22, 1, none⟩)) (wS kv12 rfl (Step.load1 Try.sc22 rfl ((M.cell 0 rfl 1).trans rfl)) (wS (vI ↑n.keys.length) rfl (Step.lenSl Try.un22 rfl (own_slAt (M.chunk 2 rfl).inv)) ?_)))))
   refine wS (vB false) rfl (Step.cast (congrArg Value.bool h29) sP) (WL.nil ?_)
   refine W.cond (t := false) rfl (fun h => by cases h) (fun _ => ?_)
   refine W.skip (W.seq' (wR (wP (vP b22) (wS (vB n.leaf) rfl (Step.load1 Try.sc4 rfl ((M.cell 0 rfl 0).trans rfl)) (WL.nil ?_)))))
   refine W.cond (t := n.leaf) rfl (fun h50 => ?_) (fun h50 => ?_)
   ·
    have hlf_ : n.leaf = true := h50
    refine wR (wS (Value.agg #[(vS b_.1.key), (vI b_.1.val)]) rfl (Step.loadN Try.ag41 rfl (M.blk 6 rfl) (Nat.le_of_ble_eq_true rfl) rfl) (wM (vB b_.2) ?_))
    refine WL.store (v := (Value.agg #[(vS b_.1.key), (vI b_.1.val)])) (cs := [(vS b_.1.key), (vI b_.1.val)]) (c' := #[(vS b_.1.key), (vI b_.1.val)]) M 6 rfl rfl Try.el41.sized rfl rfl rfl rfl (Nat.le_of_ble_eq_true rfl) (cel_cons rfl (cel_cons rfl cel_nil)) rfl rfl (fun w51 M => ?_)
    refine wA (vB b_.2) (WL.nil ?_)
    refine W.ret ?_
    refine ⟨.inl rfl, (Value.tuple #[(Value.agg #[(vS b_.1.key), (vI b_.1.val)]), (vB b_.2)]), ?_, ?_⟩
    · exact ⟨rfl, (Res.r2 (RV.cellN Try.ag41 rfl (M.blk 6 rfl) rfl) (show RV _ _ _ (.tmp 5) (vB b_.2) from by exact rfl))⟩
    refine ⟨?_, M.close [1] rfl (by decide) trivial⟩
    unfold lookT; rw [if_pos (by simpa using h3), ← hEq_, leastT_leaf hn hlf_, hfi_, if_neg hil_]; try simp [hitOf, List.getD, h3, h29p, h50]
   ·
    have hlf_ : n.leaf = false := h50
    obtain ⟨e, rfl, hkl_, hLk2_⟩ := lookOk_kid hLk_ hn hlf_
    refine W.skip (W.region rfl (wP (Value.pointer (some ⟨b22, 2, none⟩)) (wS dv13 rfl (Step.load1 Try.sc96 rfl ((M.cell 0 rfl 2).trans rfl)) (wM (vI ↑i_) ?_))))
    obtain ⟨cap53, hb52⟩ := SlAt.base (own_slAt (M.chunk 3 rfl).inv) (by omega)
    obtain ⟨x54, hx54⟩ := elem_of_lt (xs := n.kids) (i := i_) (by omega)
    have hgd_ : n.kids.getD i_ hdZero = x54 := by rw [List.getD_eq_getElem?_getD, hx54]; rfl
    refine wS (vQ dv13 i_ 2) rfl (sX i_ Try.un96 Try.el92 rfl rfl hb52) (wS (Value.agg #[(vI x54.at_), (vI x54.turn)]) rfl (Step.loadEN (k := 0) (cs' := [(vI x54.at_), (vI x54.turn)]) Try.ag92 (flat_ec (own_slAt (M.chunk 3 rfl).inv) hx54 handleE_len) (by decide) rfl rfl rfl) ?_)
    refine WL.store (v := (Value.agg #[(vI x54.at_), (vI x54.turn)])) (cs := [(vI x54.at_), (vI x54.turn)]) (c' := #[(vI x54.at_), (vI x54.turn)]) M 5 rfl rfl Try.el92.sized rfl rfl rfl rfl (Nat.le_of_ble_eq_true rfl) (cel_cons rfl (cel_cons rfl cel_nil)) rfl rfl (fun w55 M => ?_)
    refine WL.nil (wR (wS (Value.agg #[(vI x54.at_), (vI x54.turn)]) rfl (Step.loadN Try.ag92 rfl (M.blk 5 rfl) (Nat.le_of_ble_eq_true rfl) rfl) (WL.nil (W.region rfl ?_))))
    refine WL.alloc (c := #[(vI 0), (vI 0)]) M rfl Try.el92.zero rfl (fun b56 w57 hb56 M => ?_)
    refine WL.store (v := (Value.agg #[(vI x54.at_), (vI x54.turn)])) (cs := [(vI x54.at_), (vI x54.turn)]) (c' := #[(vI x54.at_), (vI x54.turn)]) M 0 rfl rfl Try.el92.sized rfl rfl rfl rfl (Nat.le_of_ble_eq_true rfl) (cel_cons rfl (cel_cons rfl cel_nil)) rfl rfl (fun w58 M => ?_)
    refine WL.nil ?_
    replace M := M.sel (L' := [bk b56 #[(vI x54.at_), (vI x54.turn)] 92, bk b1 #[(vS b_.1.key), (vI b_.1.val)] 41, arenaC 143 145 S ab l]) [0, 7, 2] rfl (by decide)
    exact ⟨_, (by omega), b56, x54, e, b_, ⟨(hLk2_ _ (List.mem_of_getElem? hx54)), (by rw [← hEq_, leastT_kid hn hlf_, hfi_, hgd_, if_neg hil_]; try simp [hitOf, List.getD, h3, h29p, h50, hx54]), rfl⟩, ⟨rfl, rfl, rfl, rfl, rfl, rfl, rfl⟩, M⟩
end Go.Proofs
set_option maxRecDepth 100000
namespace Go.Proofs
open Go Tp
set_option maxHeartbeats 1000000 in
theorem tr_greatest {G X : Nat → Prop} {w : World} (tb ab : Nat) (rt : Handle) (fu : Bool) (ln : Int) (l : List RPlace) (S : Nat → Prop) (f : Value) (p : ByteArray → Bool)  (hA : SmallA l) (d : Nat) (hLk : fu = true → lookOk d l rt) (M : Mem G X w [arenaC 143 145 S ab l] [bF tb #[(vP ab), (vI rt.at_), (vI rt.turn), (vB fu), (vI ln)] 94, FnS Try.prog f p] w) : Rets Try.prog 97 #[(vP tb), f] w fun r w' => r = (Value.tuple #[(Value.agg #[(vS (((lookG fu d l rt p).1).key)), (vI (((lookG fu d l rt p).1).val))]), (vB ((lookG fu d l rt p).2))]) ∧ Mem G X w [arenaC 143 145 S ab l] [] w' := by
 refine Rets.enter 69 _ Try.func97 rfl Try.ntmps97 Try.results97 (by simp) ?_
 refine wR ?_
 refine WL.alloc (c := #[(vS sZ), (vI 0)]) M rfl Try.el41.zero rfl (fun b1 w2 hb1 M => ?_)
 refine wA (vB false) (WL.nil (W.seq' (wR (wM (vP tb) (wP (vB false) ?_)))))
 refine wM (vB false) (wM (vP tb) (wP (vP tb) (wP (Value.pointer (some ⟨tb, 3, none⟩)) (wS (vB fu) rfl (Step.load1 Try.sc4 rfl ((cell_blk (M.rep 0 rfl) 3).trans rfl)) (wP (vB !fu) ?_)))))
 refine wS (vB !fu) rfl (Step.pick (t := false) rfl rfl) (WL.nil ?_)
 refine W.cond (t := !fu) rfl (fun h3 => ?_) (fun h3 => ?_)
 ·
  refine wR (wP (Value.agg #[(vS sZ), (vI 0)]) ?_)
  refine WL.store (v := (Value.agg #[(vS sZ), (vI 0)])) (cs := [(vS sZ), (vI 0)]) (c' := #[(vS sZ), (vI 0)]) M 0 rfl rfl Try.el41.sized rfl rfl rfl rfl (Nat.le_of_ble_eq_true rfl) (cel_cons rfl (cel_cons rfl cel_nil)) rfl rfl (fun w4 M => ?_)
  refine wA (vB false) (WL.nil ?_)
  refine W.ret ?_
  refine ⟨.inl rfl, (Value.tuple #[(Value.agg #[(vS sZ), (vI 0)]), (vB false)]), ?_, ?_⟩
  · exact ⟨rfl, (Res.r2 (RV.cellN Try.ag41 rfl (M.blk 0 rfl) rfl) (show RV _ _ _ (.tmp 5) (vB false) from by exact rfl))⟩
  refine ⟨?_, M.close [1] rfl (by decide) trivial⟩
  have hfu_ : fu = false := (by simpa using h3)
  simp [lookG, noHit, hfu_]
 ·
  refine W.skip (wR (wM (vP tb) (wP (vP tb) (wP (Value.pointer (some ⟨tb, 1, none⟩)) (wS (Value.agg #[(vI rt.at_), (vI rt.turn)]) rfl (Step.loadN Try.ag92 rfl (M.rep 0 rfl) (Nat.le_of_ble_eq_true rfl) rfl) ?_)))))
  refine WL.alloc (c := #[(vI 0), (vI 0)]) M rfl Try.el92.zero rfl (fun b5 w6 hb5 M => ?_)
  refine WL.store (v := (Value.agg #[(vI rt.at_), (vI rt.turn)])) (cs := [(vI rt.at_), (vI rt.turn)]) (c' := #[(vI rt.at_), (vI rt.turn)]) M 0 rfl rfl Try.el92.sized rfl rfl rfl rfl (Nat.le_of_ble_eq_true rfl) (cel_cons rfl (cel_cons rfl cel_nil)) rfl rfl (fun w7 M => ?_)
  refine WL.nil (W.block ?_)
  replace M := M.sel (L' := [bk b5 #[(vI rt.at_), (vI rt.turn)] 92, bk b1 #[(vS sZ), (vI 0)] 41, arenaC 143 145 S ab l]) [0, 1, 2] rfl (by decide)
  refine W.loop (fun kk ρ w' => ∃ (hb_ : Nat) (h_ : Handle) (d_ : Nat) (b_ : THit × Bool), ((lookOk d_ l h_) ∧ (greatT d_ l h_ p b_ = greatT d l rt p noHit) ∧ kk = d_ + 1) ∧ ρ.has [(0, (vP tb)), (1, f), (4, (vP b1)), (5, (vB b_.2)), (6, (vP hb_))] ∧ Mem G X w [bk hb_ #[(vI h_.at_), (vI h_.turn)] 92, bk b1 #[(vS b_.1.key), (vI b_.1.val)] 41, arenaC 143 145 S ab l] [bF tb #[(vP ab), (vI rt.at_), (vI rt.turn), (vB fu), (vI ln)] 94, FnS Try.prog f p]  w') _ ⟨b5, rt, d, noHit, ⟨(hLk (by simpa using h3)), rfl, rfl⟩, ⟨rfl, rfl, rfl, rfl, rfl, rfl, rfl⟩, M⟩ ?_
  rintro _ ρ9 w8 ⟨hb_, h_, d_, b_, ⟨hi10, hi11, rfl⟩, hρ, M⟩
  obtain ⟨ρ9, rfl⟩ := hρ.know
  clear hρ
  have hLk_ : lookOk d_ l h_ := hi10
  have hEq_ : greatT d_ l h_ p b_ = greatT d l rt p noHit := hi11
  obtain ⟨n, hn⟩ : ∃ n, (rget l h_).1 = n := ⟨_, rfl⟩
  obtain ⟨⟨ht1, ht2, ht3⟩, hvl⟩ := lookOk_node hLk_ hn
  refine W.seq' (W.block (wR (wM (vP tb) (wS (Value.agg #[(vI h_.at_), (vI h_.turn)]) rfl (Step.loadN Try.ag92 rfl (M.blk 0 rfl) (Nat.le_of_ble_eq_true rfl) rfl) ?_))))
  have fq := M.frm [arenaC 143 145 S ab l] [bk hb_ #[(vI h_.at_), (vI h_.turn)] 92, bk b1 #[(vS b_.1.key), (vI b_.1.val)] 41] [2, 0, 1] rfl
  refine WL.callX rfl (tr_node tb ab rt fu ln l S h_ (by assumption) n hn (M.eF fq ⟨(M.rF fq 0 rfl), trivial⟩)) (CallsF.func Try.en49 rfl) ?_
  rintro _ w15 ⟨kv12, dv13, vv14, rfl, m⟩
  replace M := M.lF fq m
  clear m
  have sl16 : IsSl kv12 := SlAt.isSl (own_slAt (Mem.chunk M 1 rfl).inv)
  have hle17 := SlAt.le' (own_slAt (Mem.chunk M 1 rfl).inv)
  have sl18 : IsSl dv13 := SlAt.isSl (own_slAt (Mem.chunk M 2 rfl).inv)
  have hle19 := SlAt.le' (own_slAt (Mem.chunk M 2 rfl).inv)
  have sl20 : IsSl vv14 := SlAt.isSl (own_slAt (Mem.chunk M 3 rfl).inv)
  have hle21 := SlAt.le' (own_slAt (Mem.chunk M 3 rfl).inv)
  refine WL.alloc (c := #[(vB false), vZ, vZ, vZ]) M rfl Try.el99.zero rfl (fun b22 w23 hb22 M => ?_)
  refine WL.store (v := (Value.agg #[(vB n.leaf), kv12, dv13, vv14])) (cs := [(vB n.leaf), kv12, dv13, vv14]) (c' := #[(vB n.leaf), kv12, dv13, vv14]) M 0 rfl rfl Try.el99.sized rfl rfl rfl rfl (Nat.le_of_ble_eq_true rfl) (cel_cons rfl (cel_cons (IsSl.cel sl16) (cel_cons (IsSl.cel sl18) (cel_cons (IsSl.cel sl20) cel_nil)))) rfl rfl (fun w24 M => ?_)
  refine WL.nil (wR (wP (Value.pointer (some ⟨b22, 1, none⟩)) (wS kv12 rfl (Step.load1 Try.sc22 rfl ((M.cell 0 rfl 1).trans rfl)) (wS (vI ↑n.keys.length) rfl (Step.lenSl Try.un22 rfl (own_slAt (M.chunk 2 rfl).inv)) (wA (vI ↑n.keys.length) ?_)))))
  refine WL.nil (W.seq' (W.block ?_))
  refine W.loop (fun kk ρ w' => ∃ (i_ : Nat), ((i_ ≤ n.keys.length) ∧ (∀ j u, i_ ≤ j → n.keys[j]? = some u → p u = false) ∧ kk = i_ + 1) ∧ ρ.has [(0, (vP tb)), (1, f), (4, (vP b1)), (5, (vB b_.2)), (6, (vP hb_)), (7, (vP b22)), (8, (vI ↑i_)), (23, (vP tb)), (24, (Value.agg #[(vI h_.at_), (vI h_.turn)])), (25, (Value.agg #[(vB n.leaf), kv12, dv13, vv14])), (26, (Value.pointer (some ⟨b22, 1, none⟩))), (27, kv12), (28, (vI ↑n.keys.length))] ∧ Mem G X w [bk b22 #[(vB n.leaf), kv12, dv13, vv14] 99, arenaC 143 145 S ab l, oS kv12 n.keys, oH dv13 n.kids, oI vv14 n.vals, bk hb_ #[(vI h_.at_), (vI h_.turn)] 92, bk b1 #[(vS b_.1.key), (vI b_.1.val)] 41] [bF tb #[(vP ab), (vI rt.at_), (vI rt.turn), (vB fu), (vI ln)] 94, FnS Try.prog f p]  w') _ ⟨n.keys.length, ⟨(Nat.le_refl _), (fun j u h hu => absurd (List.getElem?_eq_some_iff.1 hu).1 (by omega)), rfl⟩, ⟨rfl, rfl, rfl, rfl, rfl, rfl, rfl, rfl, rfl, rfl, rfl, rfl, rfl, rfl, rfl⟩, M⟩ ?_
  rintro _ ρ26 w25 ⟨i_, ⟨hi27, hi28, rfl⟩, hρ, M⟩
  obtain ⟨ρ26, rfl⟩ := hρ.know
  clear hρ
  refine W.seq' (wR (wM (vI ↑i_) (wP (vB (decide ((↑i_ : Int) > (0 : Int)))) (wM (vB (decide ((↑i_ : Int) > (0 : Int)))) ?_))))
  rcases Bool.eq_false_or_eq_true (decide ((↑i_ : Int) > (0 : Int))) with h29 | h29
  ·
   have h29p := of_decide_eq_true h29
   rw [h29]
   refine wM f (wP (Value.pointer (some ⟨b22, 1, none⟩)) (wS kv12 rfl (Step.load1 Try.sc22 rfl ((M.cell 0 rfl 1).trans rfl)) (wM (vI ↑i_) (wS (vI (↑(i_ - 1))) rfl (Step.cast (congrArg (Value.int .i64) (show ((↑i_ : Int) - 1 : Int) = ↑(i_ - 1) by omega)) (Step.sub rfl rfl (wrap_i64 (by omega)))) ?_))))
   obtain ⟨cap31, hb30⟩ := SlAt.base (own_slAt (M.chunk 2 rfl).inv) (by omega)
   obtain ⟨x32, hx32⟩ := elem_of_lt (xs := n.keys) (i := i_ - 1) (by omega)
   refine wS (vQ kv12 (i_ - 1) 1) rfl (sX (i_ - 1) Try.un22 Try.el9 rfl rfl hb30) (wS (vS x32) rfl (Step.loadE (k := 0) Try.sc9 (flat_ec (own_slAt (M.chunk 2 rfl).inv) hx32 strE_len) (by decide) rfl rfl) ?_)
   refine WL.callV rfl rfl rfl ((M.rep 1 rfl : FnS _ _ _ _) x32) ?_
   rintro _ w33 ⟨rfl, ho⟩
   replace M := M.old ho
   refine wP (vB (!(p x32))) (wS (vB (!(p x32))) rfl (Step.pick (t := true) rfl rfl) (WL.nil ?_))
   refine W.cond (t := !(p x32)) rfl (fun h34 => ?_) (fun h34 => ?_)
   ·
    refine W.skip (W.block (W.region rfl (wM (vI ↑i_) (wS (vI (↑(i_ - 1))) rfl (Step.cast (congrArg (Value.int .i64) (show ((↑i_ : Int) - 1 : Int) = ↑(i_ - 1) by omega)) (Step.sub rfl rfl (wrap_i64 (by omega)))) (wA (vI (↑(i_ - 1))) ?_)))))
    refine WL.nil ?_
    exact ⟨_, (by omega), i_ - 1, ⟨(by omega), (above_step hi28 hx32 (by simpa using h34)), rfl⟩, ⟨rfl, rfl, rfl, rfl, rfl, rfl, rfl, rfl, rfl, rfl, rfl, rfl, rfl, rfl, rfl⟩, M⟩
   ·
    have hfi_ : endI n.keys p = i_ := endI_eq (by omega) hi28 (fun _ => ⟨_, hx32, by simpa using h34⟩)
    have hil_ : 0 < i_ := by omega
    refine W.exit ?_
    refine thn_exit ?_
    refine thn_exit ?_
    refine inBlk_hit ?_
    refine W.seq' (wR (wM (vI ↑i_) (wS (vB true) rfl (Step.cast (congrArg Value.bool h29) sP) (WL.nil ?_))))
    refine W.cond (t := true) rfl (fun _ => ?_) (fun h => by cases h)
    obtain ⟨cap36, hb35⟩ := SlAt.base (own_slAt (M.chunk 4 rfl).inv) (by omega)
    obtain ⟨x37, hx37⟩ := elem_of_lt (xs := n.vals) (i := i_ - 1) (by omega)
    refine W.drawn M [0, 1, 2, 3, 4, 5, 6, 7, 8, 9, 10, 11, 12, 13, 14] [13] [] _ _ (sY (sY (sY (sY (sY (sY (sN sE))))))) (fun _ h => h) Try.mixed (by kernel_rfl) ?_
    refine tP (Value.pointer (some ⟨b22, 1, none⟩)) rfl (fun w => sP) ?_
    refine tR kv12 rfl (fun A w M => (Step.load1 Try.sc22 rfl ((M.cell 1 rfl 1).trans rfl))) ?_
    refine tP (vI ↑i_) rfl (fun w => (Step.move rfl)) ?_
    refine tP (vI (↑(i_ - 1))) rfl (fun w => (Step.cast (congrArg (Value.int .i64) (show ((↑i_ : Int) - 1 : Int) = ↑(i_ - 1) by omega)) (Step.sub rfl rfl (wrap_i64 (by omega))))) ?_
    refine tP (vQ kv12 (i_ - 1) 1) rfl (fun w => (sX (i_ - 1) Try.un22 Try.el9 rfl rfl hb30)) ?_
    refine tR (vS x32) rfl (fun A w M => (Step.loadE (k := 0) Try.sc9 (flat_ec (own_slAt (M.chunk 3 rfl).inv) hx32 strE_len) (by decide) rfl rfl)) ?_
    refine tP (Value.pointer (some ⟨b22, 3, none⟩)) rfl (fun w => sP) ?_
    refine tR vv14 rfl (fun A w M => (Step.load1 Try.sc97 rfl ((M.cell 1 rfl 3).trans rfl))) ?_
    refine tP (vI ↑i_) rfl (fun w => (Step.move rfl)) ?_
    refine tP (vI (↑(i_ - 1))) rfl (fun w => (Step.cast (congrArg (Value.int .i64) (show ((↑i_ : Int) - 1 : Int) = ↑(i_ - 1) by omega)) (Step.sub rfl rfl (wrap_i64 (by omega))))) ?_
    refine tP (vQ vv14 (i_ - 1) 1) rfl (fun w => (sX (i_ - 1) Try.un97 Try.el3 rfl rfl hb35)) ?_
    refine tR (vI x37) rfl (fun A w M => (Step.loadE (k := 0) Try.sc3 (flat_ec (own_slAt (M.chunk 5 rfl).inv) hx37 intE_len) (by decide) rfl rfl)) ?_
    refine tP (Value.agg #[(vS x32), (vI x37)]) rfl (fun w => sP) ?_
    refine TW.store (v := (Value.agg #[(vS x32), (vI x37)])) (cs := [(vS x32), (vI x37)]) (c' := #[(vS x32), (vI x37)]) 6 rfl rfl (by decide) rfl Try.el41.sized rfl rfl rfl rfl (Nat.le_of_ble_eq_true rfl) (cel_cons rfl (cel_cons rfl cel_nil)) rfl rfl (sY (sY (sY (sY (sY (sY (sN sE))))))) (fun r h => h) ?_
    refine tP (vB true) rfl (fun w => (Step.assign rfl)) ?_
    refine TW.done (fun w40 M => ?_)
    refine W.seq' (wR (wP (vP b22) (wS (vB n.leaf) rfl (Step.load1 Try.sc4 rfl ((M.cell 0 rfl 0).trans rfl)) (WL.nil ?_))))
    refine W.cond (t := n.leaf) rfl (fun h41 => ?_) (fun h41 => ?_)
    ·
     have hlf_ : n.leaf = true := h41
     refine wR (wS (Value.agg #[(vS x32), (vI x37)]) rfl (Step.loadN Try.ag41 rfl (M.blk 6 rfl) (Nat.le_of_ble_eq_true rfl) rfl) (wM (vB true) ?_))
     refine WL.store (v := (Value.agg #[(vS x32), (vI x37)])) (cs := [(vS x32), (vI x37)]) (c' := #[(vS x32), (vI x37)]) M 6 rfl rfl Try.el41.sized rfl rfl rfl rfl (Nat.le_of_ble_eq_true rfl) (cel_cons rfl (cel_cons rfl cel_nil)) rfl rfl (fun w42 M => ?_)
     refine wA (vB true) (WL.nil ?_)
     refine W.ret ?_
     refine ⟨.inl rfl, (Value.tuple #[(Value.agg #[(vS x32), (vI x37)]), (vB true)]), ?_, ?_⟩
     · exact ⟨rfl, (Res.r2 (RV.cellN Try.ag41 rfl (M.blk 6 rfl) rfl) (show RV _ _ _ (.tmp 5) (vB true) from by exact rfl))⟩
     refine ⟨?_, M.close [1] rfl (by decide) trivial⟩
     unfold lookG; rw [if_pos (by simpa using h3), ← hEq_, greatT_leaf hn hlf_, hfi_, if_pos hil_]; try simp [hitOf, List.getD, h3, h29p, hx32, h34, hx37, h41]
    ·
     have hlf_ : n.leaf = false := h41
     obtain ⟨e, rfl, hkl_, hLk2_⟩ := lookOk_kid hLk_ hn hlf_
     refine W.skip (W.region rfl (wP (Value.pointer (some ⟨b22, 2, none⟩)) (wS dv13 rfl (Step.load1 Try.sc96 rfl ((M.cell 0 rfl 2).trans rfl)) (wM (vI ↑i_) ?_))))
     obtain ⟨cap44, hb43⟩ := SlAt.base (own_slAt (M.chunk 3 rfl).inv) (by omega)
     obtain ⟨x45, hx45⟩ := elem_of_lt (xs := n.kids) (i := i_) (by omega)
     have hgd_ : n.kids.getD i_ hdZero = x45 := by rw [List.getD_eq_getElem?_getD, hx45]; rfl
     refine wS (vQ dv13 i_ 2) rfl (sX i_ Try.un96 Try.el92 rfl rfl hb43) (wS (Value.agg #[(vI x45.at_), (vI x45.turn)]) rfl (Step.loadEN (k := 0) (cs' := [(vI x45.at_), (vI x45.turn)]) Try.ag92 (flat_ec (own_slAt (M.chunk 3 rfl).inv) hx45 handleE_len) (by decide) rfl rfl rfl) ?_)
     refine WL.store (v := (Value.agg #[(vI x45.at_), (vI x45.turn)])) (cs := [(vI x45.at_), (vI x45.turn)]) (c' := #[(vI x45.at_), (vI x45.turn)]) M 5 rfl rfl Try.el92.sized rfl rfl rfl rfl (Nat.le_of_ble_eq_true rfl) (cel_cons rfl (cel_cons rfl cel_nil)) rfl rfl (fun w46 M => ?_)
     refine WL.nil (wR (wS (Value.agg #[(vI x45.at_), (vI x45.turn)]) rfl (Step.loadN Try.ag92 rfl (M.blk 5 rfl) (Nat.le_of_ble_eq_true rfl) rfl) (WL.nil (W.region rfl ?_))))
     refine WL.alloc (c := #[(vI 0), (vI 0)]) M rfl Try.el92.zero rfl (fun b47 w48 hb47 M => ?_)
     refine WL.store (v := (Value.agg #[(vI x45.at_), (vI x45.turn)])) (cs := [(vI x45.at_), (vI x45.turn)]) (c' := #[(vI x45.at_), (vI x45.turn)]) M 0 rfl rfl Try.el92.sized rfl rfl rfl rfl (Nat.le_of_ble_eq_true rfl) (cel_cons rfl (cel_cons rfl cel_nil)) rfl rfl (fun w49 M => ?_)
     refine WL.nil ?_
     replace M := M.sel (L' := [bk b47 #[(vI x45.at_), (vI x45.turn)] 92, bk b1 #[(vS x32), (vI x37)] 41, arenaC 143 145 S ab l]) [0, 7, 2] rfl (by decide)
     exact ⟨_, (by omega), b47, x45, e, ((⟨x32, x37⟩ : THit), true), ⟨(hLk2_ _ (List.mem_of_getElem? hx45)), (by rw [← hEq_, greatT_kid hn hlf_, hfi_, hgd_, if_pos hil_]; try simp [hitOf, List.getD, h3, h29p, hx32, h34, hx37, h41, hx45]), rfl⟩, ⟨rfl, rfl, rfl, rfl, rfl, rfl, rfl⟩, M⟩
  ·
   have h29p := of_decide_eq_false h29
   have hfi_ : endI n.keys p = i_ := endI_eq (by omega) hi28 (fun h_ => absurd h_ (by omega))
   have hil_ : ¬ 0 < i_ := by omega
   rw [h29]
   refine WL.pass rfl ?_
   refine WL.pass rfl ?_
   refine WL.pass rfl ?_
   refine WL.pass rfl ?_
   refine WL.pass rfl ?_
   refine WL.pass rfl ?_
   refine WL.pass rfl ?_
   refine WL.pass rfl ?_
   refine WL.pass rfl ?_
   refine wS (vB false) rfl (Step.pick (t := false) rfl rfl) (WL.nil ?_)
   refine W.cond (t := false) rfl (fun h => by cases h) (fun _ => ?_)
   refine W.exit ?_
   refine thn_exit ?_
   refine thn_exit ?_
   refine inBlk_hit ?_
   refine W.seq' (wR (wM (vI ↑i_) (wS (vB false) rfl (Step.cast (congrArg Value.bool h29) sP) (WL.nil ?_))))
   refine W.cond (t := false) rfl (fun h => by cases h) (fun _ => ?_)
   refine W.skip (W.seq' (wR (wP (vP b22) (wS (vB n.leaf) rfl (Step.load1 Try.sc4 rfl ((M.cell 0 rfl 0).trans rfl)) (WL.nil ?_)))))
   refine W.cond (t := n.leaf) rfl (fun h50 => ?_) (fun h50 => ?_)
   ·
    have hlf_ : n.leaf = true := h50
    refine wR (wS (Value.agg #[(vS b_.1.key), (vI b_.1.val)]) rfl (Step.loadN Try.ag41 rfl (M.blk 6 rfl) (Nat.le_of_ble_eq_true rfl) rfl) (wM (vB b_.2) ?_))
    refine WL.store (v := (Value.agg #[(vS b_.1.key), (vI b_.1.val)])) (cs := [(vS b_.1.key), (vI b_.1.val)]) (c' := #[(vS b_.1.key), (vI b_.1.val)]) M 6 rfl rfl Try.el41.sized rfl rfl rfl rfl (Nat.le_of_ble_eq_true rfl) (cel_cons rfl (cel_cons rfl cel_nil)) rfl rfl (fun w51 M => ?_)
    refine wA (vB b_.2) (WL.nil ?_)
    refine W.ret ?_
    refine ⟨.inl rfl, (Value.tuple #[(Value.agg #[(vS b_.1.key), (vI b_.1.val)]), (vB b_.2)]), ?_, ?_⟩
    · exact ⟨rfl, (Res.r2 (RV.cellN Try.ag41 rfl (M.blk 6 rfl) rfl) (show RV _ _ _ (.tmp 5) (vB b_.2) from by exact rfl))⟩
    refine ⟨?_, M.close [1] rfl (by decide) trivial⟩
    unfold lookG; rw [if_pos (by simpa using h3), ← hEq_, greatT_leaf hn hlf_, hfi_, if_neg hil_]; try simp [hitOf, List.getD, h3, h29p, h50]
   ·
    have hlf_ : n.leaf = false := h50
    obtain ⟨e, rfl, hkl_, hLk2_⟩ := lookOk_kid hLk_ hn hlf_
    refine W.skip (W.region rfl (wP (Value.pointer (some ⟨b22, 2, none⟩)) (wS dv13 rfl (Step.load1 Try.sc96 rfl ((M.cell 0 rfl 2).trans rfl)) (wM (vI ↑i_) ?_))))
    obtain ⟨cap53, hb52⟩ := SlAt.base (own_slAt (M.chunk 3 rfl).inv) (by omega)
    obtain ⟨x54, hx54⟩ := elem_of_lt (xs := n.kids) (i := i_) (by omega)
    have hgd_ : n.kids.getD i_ hdZero = x54 := by rw [List.getD_eq_getElem?_getD, hx54]; rfl
    refine wS (vQ dv13 i_ 2) rfl (sX i_ Try.un96 Try.el92 rfl rfl hb52) (wS (Value.agg #[(vI x54.at_), (vI x54.turn)]) rfl (Step.loadEN (k := 0) (cs' := [(vI x54.at_), (vI x54.turn)]) Try.ag92 (flat_ec (own_slAt (M.chunk 3 rfl).inv) hx54 handleE_len) (by decide) rfl rfl rfl) ?_)
    refine WL.store (v := (Value.agg #[(vI x54.at_), (vI x54.turn)])) (cs := [(vI x54.at_), (vI x54.turn)]) (c' := #[(vI x54.at_), (vI x54.turn)]) M 5 rfl rfl Try.el92.sized rfl rfl rfl rfl (Nat.le_of_ble_eq_true rfl) (cel_cons rfl (cel_cons rfl cel_nil)) rfl rfl (fun w55 M => ?_)
    refine WL.nil (wR (wS (Value.agg #[(vI x54.at_), (vI x54.turn)]) rfl (Step.loadN Try.ag92 rfl (M.blk 5 rfl) (Nat.le_of_ble_eq_true rfl) rfl) (WL.nil (W.region rfl ?_))))
    refine WL.alloc (c := #[(vI 0), (vI 0)]) M rfl Try.el92.zero rfl (fun b56 w57 hb56 M => ?_)
    refine WL.store (v := (Value.agg #[(vI x54.at_), (vI x54.turn)])) (cs := [(vI x54.at_), (vI x54.turn)]) (c' := #[(vI x54.at_), (vI x54.turn)]) M 0 rfl rfl Try.el92.sized rfl rfl rfl rfl (Nat.le_of_ble_eq_true rfl) (cel_cons rfl (cel_cons rfl cel_nil)) rfl rfl (fun w58 M => ?_)
    refine WL.nil ?_
    replace M := M.sel (L' := [bk b56 #[(vI x54.at_), (vI x54.turn)] 92, bk b1 #[(vS b_.1.key), (vI b_.1.val)] 41, arenaC 143 145 S ab l]) [0, 7, 2] rfl (by decide)
    exact ⟨_, (by omega), b56, x54, e, b_, ⟨(hLk2_ _ (List.mem_of_getElem? hx54)), (by rw [← hEq_, greatT_kid hn hlf_, hfi_, hgd_, if_neg hil_]; try simp [hitOf, List.getD, h3, h29p, h50, hx54]), rfl⟩, ⟨rfl, rfl, rfl, rfl, rfl, rfl, rfl⟩, M⟩
end Go.Proofs
set_option maxRecDepth 100000
namespace Go.Proofs
open Go Tp
theorem Try.en79 : Enters Try.prog 79 := fun _ _ => by kernel_rfl
theorem Try.en80 : Enters Try.prog 80 := fun _ _ => by kernel_rfl
theorem Try.en97 : Enters Try.prog 97 := fun _ _ => by kernel_rfl
theorem Try.en98 : Enters Try.prog 98 := fun _ _ => by kernel_rfl
theorem Try.en102 : Enters Try.prog 102 := fun _ _ => by kernel_rfl
theorem tst_from {G : Nat → Prop} {w : World} (x : ByteArray) (kb : Nat) (k : ByteArray)   (M : Mem G (fun _ => False) w [] [bF kb #[(vS k)] 9] w) : Rets Try.prog 80 #[(vS x), (vP kb)] w fun r w' => r = (vB ((fun (x : ByteArray) => !(sLt x k)) x)) ∧ Mem G (fun _ => False) w [] [] w' := by
 refine Rets.enter 7 _ Try.func80 rfl Try.ntmps80 Try.results80 (by simp) ?_
 refine wR (wA (vB false) (WL.nil (wR (wM (vS x) (wS (vS k) rfl (Step.load1 Try.sc9 rfl ((cell_blk (M.rep 0 rfl) 0).trans rfl)) ?_)))))
 refine wP (vB (!(sLt x k))) (wA (vB (!(sLt x k))) (WL.nil ?_))
 refine W.ret ?_
 refine ⟨.inl rfl, (vB (!(sLt x k))), ?_, ?_⟩
 · exact ⟨rfl, (Res.r1 (show RV _ _ _ (.tmp 3) (vB (!(sLt x k))) from by exact rfl))⟩
 refine ⟨?_, M.close [] rfl (by decide) trivial⟩
 refine congrArg Value.bool ?_
 first | rfl | exact sGt _ _ | exact sLe _ _
theorem tst_after {G : Nat → Prop} {w : World} (x : ByteArray) (kb : Nat) (k : ByteArray)   (M : Mem G (fun _ => False) w [] [bF kb #[(vS k)] 9] w) : Rets Try.prog 102 #[(vS x), (vP kb)] w fun r w' => r = (vB ((fun (x : ByteArray) => sLt k x) x)) ∧ Mem G (fun _ => False) w [] [] w' := by
 refine Rets.enter 7 _ Try.func102 rfl Try.ntmps102 Try.results102 (by simp) ?_
 refine wR (wA (vB false) (WL.nil (wR (wM (vS x) (wS (vS k) rfl (Step.load1 Try.sc9 rfl ((cell_blk (M.rep 0 rfl) 0).trans rfl)) ?_)))))
 refine wP (vB (!(sLt x k || x.toList == k.toList))) (wA (vB (!(sLt x k || x.toList == k.toList))) (WL.nil ?_))
 refine W.ret ?_
 refine ⟨.inl rfl, (vB (!(sLt x k || x.toList == k.toList))), ?_, ?_⟩
 · exact ⟨rfl, (Res.r1 (show RV _ _ _ (.tmp 3) (vB (!(sLt x k || x.toList == k.toList))) from by exact rfl))⟩
 refine ⟨?_, M.close [] rfl (by decide) trivial⟩
 refine congrArg Value.bool ?_
 first | rfl | exact sGt _ _ | exact sLe _ _
theorem tst_before {G : Nat → Prop} {w : World} (x : ByteArray) (kb : Nat) (k : ByteArray)   (M : Mem G (fun _ => False) w [] [bF kb #[(vS k)] 9] w) : Rets Try.prog 98 #[(vS x), (vP kb)] w fun r w' => r = (vB ((fun (x : ByteArray) => sLt x k) x)) ∧ Mem G (fun _ => False) w [] [] w' := by
 refine Rets.enter 7 _ Try.func98 rfl Try.ntmps98 Try.results98 (by simp) ?_
 refine wR (wA (vB false) (WL.nil (wR (wM (vS x) (wS (vS k) rfl (Step.load1 Try.sc9 rfl ((cell_blk (M.rep 0 rfl) 0).trans rfl)) ?_)))))
 refine wP (vB (sLt x k)) (wA (vB (sLt x k)) (WL.nil ?_))
 refine W.ret ?_
 refine ⟨.inl rfl, (vB (sLt x k)), ?_, ?_⟩
 · exact ⟨rfl, (Res.r1 (show RV _ _ _ (.tmp 3) (vB (sLt x k)) from by exact rfl))⟩
 refine ⟨?_, M.close [] rfl (by decide) trivial⟩
 refine congrArg Value.bool ?_
 first | rfl | exact sGt _ _ | exact sLe _ _
theorem tst_last1 {G : Nat → Prop} {w : World} (x : ByteArray)   (M : Mem G (fun _ => False) w [] [] w) : Rets Try.prog 105 #[(vS x)] w fun r w' => r = (vB ((fun (_ : ByteArray) => true) x)) ∧ Mem G (fun _ => False) w [] [] w' := by
 refine Rets.enter 3 _ Try.func105 rfl Try.ntmps105 Try.results105 (by simp) ?_
 refine wR (wA (vB false) (WL.nil (wR (wA (vB true) (WL.nil ?_)))))
 refine W.ret ?_
 refine ⟨.inl rfl, (vB true), ?_, ?_⟩
 · exact ⟨rfl, (Res.r1 (show RV _ _ _ (.tmp 2) (vB true) from by exact rfl))⟩
 refine ⟨?_, M.close [] rfl (by decide) trivial⟩
 refine congrArg Value.bool ?_
 first | rfl | exact sGt _ _ | exact sLe _ _
theorem tr_From {G X : Nat → Prop} {w : World} (tb ab : Nat) (rt : Handle) (fu : Bool) (ln : Int) (l : List RPlace) (S : Nat → Prop) (k : ByteArray)  (hA : SmallA l) (d : Nat) (hLk : fu = true → lookOk d l rt) (M : Mem G X w [arenaC 143 145 S ab l] [bF tb #[(vP ab), (vI rt.at_), (vI rt.turn), (vB fu), (vI ln)] 94] w) : Rets Try.prog 45 #[(vP tb), (vS k)] w fun r w' => r = (Value.tuple #[(Value.agg #[(vS (((lookT fu d l rt (fun (x : ByteArray) => !(sLt x k))).1).key)), (vI (((lookT fu d l rt (fun (x : ByteArray) => !(sLt x k))).1).val))]), (vB ((lookT fu d l rt (fun (x : ByteArray) => !(sLt x k))).2))]) ∧ Mem G X w [arenaC 143 145 S ab l] [] w' := by
 refine Rets.enter 11 _ Try.func45 rfl Try.ntmps45 Try.results45 (by simp) ?_
 refine wR ?_
 refine WL.box (v := (vS k)) (c := #[(vS k)]) M rfl rfl rfl (fun b1 w2 hb1 M => ?_)
 refine WL.alloc (c := #[(vS sZ), (vI 0)]) M rfl Try.el41.zero rfl (fun b3 w4 hb3 M => ?_)
 refine wA (vB false) (WL.nil (wR (wM (vP tb) (wP (Value.func (.func 80) #[] #[(vP b1)]) ?_))))
 have fq := M.frm [arenaC 143 145 S ab l] [bk b3 #[(vS sZ), (vI 0)] 41, bk b1 #[(vS k)] 9] [2, 0, 1] rfl
 refine WL.callX rfl (tr_least tb ab rt fu ln l S (Value.func (.func 80) #[] #[(vP b1)]) (fun (x : ByteArray) => !(sLt x k)) (by assumption) d (by assumption) (M.eF fq ⟨(M.rF fq 0 rfl), ((M.cF fq 1 rfl).imp fun w_ hb_ x_ => RetsV.of_rets Try.en80 rfl (Rets.mono (tst_from x_ b1 k (Mem.law0 ⟨Sh.blk hb_ trivial, trivial⟩)) (fun r_ w2_ h_ => ⟨h_.1, h_.2.mod⟩))), trivial⟩)) (CallsF.func Try.en79 rfl) ?_
 rintro _ w5 ⟨rfl, m⟩
 replace M := M.lF fq m
 clear m
 refine wP (Value.agg #[(vS (((lookT fu d l rt (fun (x : ByteArray) => !(sLt x k))).1).key)), (vI (((lookT fu d l rt (fun (x : ByteArray) => !(sLt x k))).1).val))]) (wP (vB ((lookT fu d l rt (fun (x : ByteArray) => !(sLt x k))).2)) ?_)
 refine WL.store (v := (Value.agg #[(vS (((lookT fu d l rt (fun (x : ByteArray) => !(sLt x k))).1).key)), (vI (((lookT fu d l rt (fun (x : ByteArray) => !(sLt x k))).1).val))])) (cs := [(vS (((lookT fu d l rt (fun (x : ByteArray) => !(sLt x k))).1).key)), (vI (((lookT fu d l rt (fun (x : ByteArray) => !(sLt x k))).1).val))]) (c' := #[(vS (((lookT fu d l rt (fun (x : ByteArray) => !(sLt x k))).1).key)), (vI (((lookT fu d l rt (fun (x : ByteArray) => !(sLt x k))).1).val))]) M 1 rfl rfl Try.el41.sized rfl rfl rfl rfl (Nat.le_of_ble_eq_true rfl) (cel_cons rfl (cel_cons rfl cel_nil)) rfl rfl (fun w6 M => ?_)
 refine wA (vB ((lookT fu d l rt (fun (x : ByteArray) => !(sLt x k))).2)) (WL.nil ?_)
 refine W.ret ?_
 refine ⟨.inl rfl, (Value.tuple #[(Value.agg #[(vS (((lookT fu d l rt (fun (x : ByteArray) => !(sLt x k))).1).key)), (vI (((lookT fu d l rt (fun (x : ByteArray) => !(sLt x k))).1).val))]), (vB ((lookT fu d l rt (fun (x : ByteArray) => !(sLt x k))).2))]), ?_, ?_⟩
 · exact ⟨rfl, (Res.r2 (RV.cellN Try.ag41 rfl (M.blk 1 rfl) rfl) (show RV _ _ _ (.tmp 5) (vB ((lookT fu d l rt (fun (x : ByteArray) => !(sLt x k))).2)) from by exact rfl))⟩
 refine ⟨?_, M.close [0] rfl (by decide) trivial⟩
 rfl
theorem tr_After {G X : Nat → Prop} {w : World} (tb ab : Nat) (rt : Handle) (fu : Bool) (ln : Int) (l : List RPlace) (S : Nat → Prop) (k : ByteArray)  (hA : SmallA l) (d : Nat) (hLk : fu = true → lookOk d l rt) (M : Mem G X w [arenaC 143 145 S ab l] [bF tb #[(vP ab), (vI rt.at_), (vI rt.turn), (vB fu), (vI ln)] 94] w) : Rets Try.prog 72 #[(vP tb), (vS k)] w fun r w' => r = (Value.tuple #[(Value.agg #[(vS (((lookT fu d l rt (fun (x : ByteArray) => sLt k x)).1).key)), (vI (((lookT fu d l rt (fun (x : ByteArray) => sLt k x)).1).val))]), (vB ((lookT fu d l rt (fun (x : ByteArray) => sLt k x)).2))]) ∧ Mem G X w [arenaC 143 145 S ab l] [] w' := by
 refine Rets.enter 11 _ Try.func72 rfl Try.ntmps72 Try.results72 (by simp) ?_
 refine wR ?_
 refine WL.box (v := (vS k)) (c := #[(vS k)]) M rfl rfl rfl (fun b1 w2 hb1 M => ?_)
 refine WL.alloc (c := #[(vS sZ), (vI 0)]) M rfl Try.el41.zero rfl (fun b3 w4 hb3 M => ?_)
 refine wA (vB false) (WL.nil (wR (wM (vP tb) (wP (Value.func (.func 102) #[] #[(vP b1)]) ?_))))
 have fq := M.frm [arenaC 143 145 S ab l] [bk b3 #[(vS sZ), (vI 0)] 41, bk b1 #[(vS k)] 9] [2, 0, 1] rfl
 refine WL.callX rfl (tr_least tb ab rt fu ln l S (Value.func (.func 102) #[] #[(vP b1)]) (fun (x : ByteArray) => sLt k x) (by assumption) d (by assumption) (M.eF fq ⟨(M.rF fq 0 rfl), ((M.cF fq 1 rfl).imp fun w_ hb_ x_ => RetsV.of_rets Try.en102 rfl (Rets.mono (tst_after x_ b1 k (Mem.law0 ⟨Sh.blk hb_ trivial, trivial⟩)) (fun r_ w2_ h_ => ⟨h_.1, h_.2.mod⟩))), trivial⟩)) (CallsF.func Try.en79 rfl) ?_
 rintro _ w5 ⟨rfl, m⟩
 replace M := M.lF fq m
 clear m
 refine wP (Value.agg #[(vS (((lookT fu d l rt (fun (x : ByteArray) => sLt k x)).1).key)), (vI (((lookT fu d l rt (fun (x : ByteArray) => sLt k x)).1).val))]) (wP (vB ((lookT fu d l rt (fun (x : ByteArray) => sLt k x)).2)) ?_)
 refine WL.store (v := (Value.agg #[(vS (((lookT fu d l rt (fun (x : ByteArray) => sLt k x)).1).key)), (vI (((lookT fu d l rt (fun (x : ByteArray) => sLt k x)).1).val))])) (cs := [(vS (((lookT fu d l rt (fun (x : ByteArray) => sLt k x)).1).key)), (vI (((lookT fu d l rt (fun (x : ByteArray) => sLt k x)).1).val))]) (c' := #[(vS (((lookT fu d l rt (fun (x : ByteArray) => sLt k x)).1).key)), (vI (((lookT fu d l rt (fun (x : ByteArray) => sLt k x)).1).val))]) M 1 rfl rfl Try.el41.sized rfl rfl rfl rfl (Nat.le_of_ble_eq_true rfl) (cel_cons rfl (cel_cons rfl cel_nil)) rfl rfl (fun w6 M => ?_)
 refine wA (vB ((lookT fu d l rt (fun (x : ByteArray) => sLt k x)).2)) (WL.nil ?_)
 refine W.ret ?_
 refine ⟨.inl rfl, (Value.tuple #[(Value.agg #[(vS (((lookT fu d l rt (fun (x : ByteArray) => sLt k x)).1).key)), (vI (((lookT fu d l rt (fun (x : ByteArray) => sLt k x)).1).val))]), (vB ((lookT fu d l rt (fun (x : ByteArray) => sLt k x)).2))]), ?_, ?_⟩
 · exact ⟨rfl, (Res.r2 (RV.cellN Try.ag41 rfl (M.blk 1 rfl) rfl) (show RV _ _ _ (.tmp 5) (vB ((lookT fu d l rt (fun (x : ByteArray) => sLt k x)).2)) from by exact rfl))⟩
 refine ⟨?_, M.close [0] rfl (by decide) trivial⟩
 rfl
theorem tr_Before {G X : Nat → Prop} {w : World} (tb ab : Nat) (rt : Handle) (fu : Bool) (ln : Int) (l : List RPlace) (S : Nat → Prop) (k : ByteArray)  (hA : SmallA l) (d : Nat) (hLk : fu = true → lookOk d l rt) (M : Mem G X w [arenaC 143 145 S ab l] [bF tb #[(vP ab), (vI rt.at_), (vI rt.turn), (vB fu), (vI ln)] 94] w) : Rets Try.prog 60 #[(vP tb), (vS k)] w fun r w' => r = (Value.tuple #[(Value.agg #[(vS (((lookG fu d l rt (fun (x : ByteArray) => sLt x k)).1).key)), (vI (((lookG fu d l rt (fun (x : ByteArray) => sLt x k)).1).val))]), (vB ((lookG fu d l rt (fun (x : ByteArray) => sLt x k)).2))]) ∧ Mem G X w [arenaC 143 145 S ab l] [] w' := by
 refine Rets.enter 11 _ Try.func60 rfl Try.ntmps60 Try.results60 (by simp) ?_
 refine wR ?_
 refine WL.box (v := (vS k)) (c := #[(vS k)]) M rfl rfl rfl (fun b1 w2 hb1 M => ?_)
 refine WL.alloc (c := #[(vS sZ), (vI 0)]) M rfl Try.el41.zero rfl (fun b3 w4 hb3 M => ?_)
 refine wA (vB false) (WL.nil (wR (wM (vP tb) (wP (Value.func (.func 98) #[] #[(vP b1)]) ?_))))
 have fq := M.frm [arenaC 143 145 S ab l] [bk b3 #[(vS sZ), (vI 0)] 41, bk b1 #[(vS k)] 9] [2, 0, 1] rfl
 refine WL.callX rfl (tr_greatest tb ab rt fu ln l S (Value.func (.func 98) #[] #[(vP b1)]) (fun (x : ByteArray) => sLt x k) (by assumption) d (by assumption) (M.eF fq ⟨(M.rF fq 0 rfl), ((M.cF fq 1 rfl).imp fun w_ hb_ x_ => RetsV.of_rets Try.en98 rfl (Rets.mono (tst_before x_ b1 k (Mem.law0 ⟨Sh.blk hb_ trivial, trivial⟩)) (fun r_ w2_ h_ => ⟨h_.1, h_.2.mod⟩))), trivial⟩)) (CallsF.func Try.en97 rfl) ?_
 rintro _ w5 ⟨rfl, m⟩
 replace M := M.lF fq m
 clear m
 refine wP (Value.agg #[(vS (((lookG fu d l rt (fun (x : ByteArray) => sLt x k)).1).key)), (vI (((lookG fu d l rt (fun (x : ByteArray) => sLt x k)).1).val))]) (wP (vB ((lookG fu d l rt (fun (x : ByteArray) => sLt x k)).2)) ?_)
 refine WL.store (v := (Value.agg #[(vS (((lookG fu d l rt (fun (x : ByteArray) => sLt x k)).1).key)), (vI (((lookG fu d l rt (fun (x : ByteArray) => sLt x k)).1).val))])) (cs := [(vS (((lookG fu d l rt (fun (x : ByteArray) => sLt x k)).1).key)), (vI (((lookG fu d l rt (fun (x : ByteArray) => sLt x k)).1).val))]) (c' := #[(vS (((lookG fu d l rt (fun (x : ByteArray) => sLt x k)).1).key)), (vI (((lookG fu d l rt (fun (x : ByteArray) => sLt x k)).1).val))]) M 1 rfl rfl Try.el41.sized rfl rfl rfl rfl (Nat.le_of_ble_eq_true rfl) (cel_cons rfl (cel_cons rfl cel_nil)) rfl rfl (fun w6 M => ?_)
 refine wA (vB ((lookG fu d l rt (fun (x : ByteArray) => sLt x k)).2)) (WL.nil ?_)
 refine W.ret ?_
 refine ⟨.inl rfl, (Value.tuple #[(Value.agg #[(vS (((lookG fu d l rt (fun (x : ByteArray) => sLt x k)).1).key)), (vI (((lookG fu d l rt (fun (x : ByteArray) => sLt x k)).1).val))]), (vB ((lookG fu d l rt (fun (x : ByteArray) => sLt x k)).2))]), ?_, ?_⟩
 · exact ⟨rfl, (Res.r2 (RV.cellN Try.ag41 rfl (M.blk 1 rfl) rfl) (show RV _ _ _ (.tmp 5) (vB ((lookG fu d l rt (fun (x : ByteArray) => sLt x k)).2)) from by exact rfl))⟩
 refine ⟨?_, M.close [0] rfl (by decide) trivial⟩
 rfl
end Go.Proofs
set_option maxRecDepth 100000
namespace Go.Proofs
open Go Tp
theorem Try.en45 : Enters Try.prog 45 := fun _ _ => by kernel_rfl
theorem Try.en105 : Enters Try.prog 105 := fun _ _ => by kernel_rfl
theorem tr_Last {G X : Nat → Prop} {w : World} (tb ab : Nat) (rt : Handle) (fu : Bool) (ln : Int) (l : List RPlace) (S : Nat → Prop)  (hA : SmallA l) (d : Nat) (hLk : fu = true → lookOk d l rt) (M : Mem G X w [arenaC 143 145 S ab l] [bF tb #[(vP ab), (vI rt.at_), (vI rt.turn), (vB fu), (vI ln)] 94] w) : Rets Try.prog 78 #[(vP tb)] w fun r w' => r = (Value.tuple #[(Value.agg #[(vS (((lookG fu d l rt (fun (_ : ByteArray) => true)).1).key)), (vI (((lookG fu d l rt (fun (_ : ByteArray) => true)).1).val))]), (vB ((lookG fu d l rt (fun (_ : ByteArray) => true)).2))]) ∧ Mem G X w [arenaC 143 145 S ab l] [] w' := by
 refine Rets.enter 8 _ Try.func78 rfl Try.ntmps78 Try.results78 (by simp) ?_
 refine wR ?_
 refine WL.alloc (c := #[(vS sZ), (vI 0)]) M rfl Try.el41.zero rfl (fun b1 w2 hb1 M => ?_)
 refine wA (vB false) (WL.nil (wR (wM (vP tb) ?_)))
 have fq := M.frm [arenaC 143 145 S ab l] [bk b1 #[(vS sZ), (vI 0)] 41] [1, 0] rfl
 refine WL.callX rfl (tr_greatest tb ab rt fu ln l S (Value.func (.func 105) #[] #[]) (fun (_ : ByteArray) => true) (by assumption) d (by assumption) (M.eF fq ⟨(M.rF fq 0 rfl), (Sh.pure fun w_ x_ => RetsV.of_rets Try.en105 rfl (Rets.mono (tst_last1 x_ (Mem.law0 trivial)) (fun r_ w2_ h_ => ⟨h_.1, h_.2.mod⟩))), trivial⟩)) (CallsF.func Try.en97 rfl) ?_
 rintro _ w3 ⟨rfl, m⟩
 replace M := M.lF fq m
 clear m
 refine wP (Value.agg #[(vS (((lookG fu d l rt (fun (_ : ByteArray) => true)).1).key)), (vI (((lookG fu d l rt (fun (_ : ByteArray) => true)).1).val))]) (wP (vB ((lookG fu d l rt (fun (_ : ByteArray) => true)).2)) ?_)
 refine WL.store (v := (Value.agg #[(vS (((lookG fu d l rt (fun (_ : ByteArray) => true)).1).key)), (vI (((lookG fu d l rt (fun (_ : ByteArray) => true)).1).val))])) (cs := [(vS (((lookG fu d l rt (fun (_ : ByteArray) => true)).1).key)), (vI (((lookG fu d l rt (fun (_ : ByteArray) => true)).1).val))]) (c' := #[(vS (((lookG fu d l rt (fun (_ : ByteArray) => true)).1).key)), (vI (((lookG fu d l rt (fun (_ : ByteArray) => true)).1).val))]) M 1 rfl rfl Try.el41.sized rfl rfl rfl rfl (Nat.le_of_ble_eq_true rfl) (cel_cons rfl (cel_cons rfl cel_nil)) rfl rfl (fun w4 M => ?_)
 refine wA (vB ((lookG fu d l rt (fun (_ : ByteArray) => true)).2)) (WL.nil ?_)
 refine W.ret ?_
 refine ⟨.inl rfl, (Value.tuple #[(Value.agg #[(vS (((lookG fu d l rt (fun (_ : ByteArray) => true)).1).key)), (vI (((lookG fu d l rt (fun (_ : ByteArray) => true)).1).val))]), (vB ((lookG fu d l rt (fun (_ : ByteArray) => true)).2))]), ?_, ?_⟩
 · exact ⟨rfl, (Res.r2 (RV.cellN Try.ag41 rfl (M.blk 1 rfl) rfl) (show RV _ _ _ (.tmp 3) (vB ((lookG fu d l rt (fun (_ : ByteArray) => true)).2)) from by exact rfl))⟩
 refine ⟨?_, M.close [0] rfl (by decide) trivial⟩
 rfl
theorem tr_Get {G X : Nat → Prop} {w : World} (tb ab : Nat) (rt : Handle) (fu : Bool) (ln : Int) (l : List RPlace) (S : Nat → Prop) (k : ByteArray)  (hA : SmallA l) (d : Nat) (hLk : fu = true → lookOk d l rt) (M : Mem G X w [arenaC 143 145 S ab l] [bF tb #[(vP ab), (vI rt.at_), (vI rt.turn), (vB fu), (vI ln)] 94] w) : Rets Try.prog 17 #[(vP tb), (vS k)] w fun r w' => r = (Value.tuple #[(vI ((getT fu d l rt k).1)), (vB ((getT fu d l rt k).2))]) ∧ Mem G X w [arenaC 143 145 S ab l] [] w' := by
 refine Rets.enter 24 _ Try.func17 rfl Try.ntmps17 Try.results17 (by simp) ?_
 refine wR (wA (vI 0) (wA (vB false) (WL.nil (wR (wM (vP tb) ?_)))))
 refine wM (vS k) ?_
 have fq := M.frm [arenaC 143 145 S ab l] [] [0] rfl
 refine WL.callX rfl (tr_From tb ab rt fu ln l S k (by assumption) d (by assumption) (M.eF fq ⟨(M.rF fq 0 rfl), trivial⟩)) (CallsF.func Try.en45 rfl) ?_
 rintro _ w1 ⟨rfl, m⟩
 replace M := M.lF fq m
 clear m
 refine wM (Value.tuple #[(Value.agg #[(vS (((lookT fu d l rt (fun (x : ByteArray) => !(sLt x k))).1).key)), (vI (((lookT fu d l rt (fun (x : ByteArray) => !(sLt x k))).1).val))]), (vB ((lookT fu d l rt (fun (x : ByteArray) => !(sLt x k))).2))]) (wP (Value.agg #[(vS (((lookT fu d l rt (fun (x : ByteArray) => !(sLt x k))).1).key)), (vI (((lookT fu d l rt (fun (x : ByteArray) => !(sLt x k))).1).val))]) (wP (vB ((lookT fu d l rt (fun (x : ByteArray) => !(sLt x k))).2)) ?_))
 refine WL.alloc (c := #[(vS sZ), (vI 0)]) M rfl Try.el41.zero rfl (fun b2 w3 hb2 M => ?_)
 refine WL.store (v := (Value.agg #[(vS (((lookT fu d l rt (fun (x : ByteArray) => !(sLt x k))).1).key)), (vI (((lookT fu d l rt (fun (x : ByteArray) => !(sLt x k))).1).val))])) (cs := [(vS (((lookT fu d l rt (fun (x : ByteArray) => !(sLt x k))).1).key)), (vI (((lookT fu d l rt (fun (x : ByteArray) => !(sLt x k))).1).val))]) (c' := #[(vS (((lookT fu d l rt (fun (x : ByteArray) => !(sLt x k))).1).key)), (vI (((lookT fu d l rt (fun (x : ByteArray) => !(sLt x k))).1).val))]) M 0 rfl rfl Try.el41.sized rfl rfl rfl rfl (Nat.le_of_ble_eq_true rfl) (cel_cons rfl (cel_cons rfl cel_nil)) rfl rfl (fun w4 M => ?_)
 refine wA (vB ((lookT fu d l rt (fun (x : ByteArray) => !(sLt x k))).2)) (WL.nil (W.seq' (wR (wM (vB ((lookT fu d l rt (fun (x : ByteArray) => !(sLt x k))).2)) (wP (vB (!((lookT fu d l rt (fun (x : ByteArray) => !(sLt x k))).2))) ?_)))))
 refine wM (vB (!((lookT fu d l rt (fun (x : ByteArray) => !(sLt x k))).2))) ?_
 rcases Bool.eq_false_or_eq_true (!((lookT fu d l rt (fun (x : ByteArray) => !(sLt x k))).2)) with h5 | h5
 ·
  rw [h5]
  refine WL.pass rfl ?_
  refine WL.pass rfl ?_
  refine WL.pass rfl ?_
  refine WL.pass rfl ?_
  refine wS (vB true) rfl (Step.pick (t := true) rfl rfl) (WL.nil ?_)
  refine W.cond (t := true) rfl (fun _ => ?_) (fun h => by cases h)
  refine wR (wA (vI 0) (wA (vB false) (WL.nil ?_)))
  refine W.ret ?_
  refine ⟨.inl rfl, (Value.tuple #[(vI 0), (vB false)]), ?_, ?_⟩
  · exact ⟨rfl, (Res.r2 (show RV _ _ _ (.tmp 4) (vI 0) from by exact rfl) (show RV _ _ _ (.tmp 5) (vB false) from by exact rfl))⟩
  refine ⟨?_, M.close [1] rfl (by decide) trivial⟩
  unfold getT
  simp only [sEq_dec] at *
  simp_all
 ·
  rw [h5]
  refine wP (vP b2) (wS (vS (((lookT fu d l rt (fun (x : ByteArray) => !(sLt x k))).1).key)) rfl (Step.load1 Try.sc9 rfl ((M.cell 0 rfl 0).trans rfl)) (wM (vS k) (wP (vB (!((((lookT fu d l rt (fun (x : ByteArray) => !(sLt x k))).1).key).toList == k.toList))) (wS (vB (!((((lookT fu d l rt (fun (x : ByteArray) => !(sLt x k))).1).key).toList == k.toList))) rfl (Step.pick (t := false) rfl rfl) (WL.nil ?_)))))
  refine W.cond (t := !((((lookT fu d l rt (fun (x : ByteArray) => !(sLt x k))).1).key).toList == k.toList)) rfl (fun h6 => ?_) (fun h6 => ?_)
  ·
   refine wR (wA (vI 0) (wA (vB false) (WL.nil ?_)))
   refine W.ret ?_
   refine ⟨.inl rfl, (Value.tuple #[(vI 0), (vB false)]), ?_, ?_⟩
   · exact ⟨rfl, (Res.r2 (show RV _ _ _ (.tmp 4) (vI 0) from by exact rfl) (show RV _ _ _ (.tmp 5) (vB false) from by exact rfl))⟩
   refine ⟨?_, M.close [1] rfl (by decide) trivial⟩
   unfold getT
   simp only [sEq_dec] at *
   simp_all
  ·
   refine W.skip (wR (wP (Value.pointer (some ⟨b2, 1, none⟩)) (wS (vI (((lookT fu d l rt (fun (x : ByteArray) => !(sLt x k))).1).val)) rfl (Step.load1 Try.sc3 rfl ((M.cell 0 rfl 1).trans rfl)) (wA (vI (((lookT fu d l rt (fun (x : ByteArray) => !(sLt x k))).1).val)) (wA (vB true) ?_)))))
   refine WL.nil ?_
   refine W.ret ?_
   refine ⟨.inl rfl, (Value.tuple #[(vI (((lookT fu d l rt (fun (x : ByteArray) => !(sLt x k))).1).val)), (vB true)]), ?_, ?_⟩
   · exact ⟨rfl, (Res.r2 (show RV _ _ _ (.tmp 4) (vI (((lookT fu d l rt (fun (x : ByteArray) => !(sLt x k))).1).val)) from by exact rfl) (show RV _ _ _ (.tmp 5) (vB true) from by exact rfl))⟩
   refine ⟨?_, M.close [1] rfl (by decide) trivial⟩
   unfold getT
   simp only [sEq_dec] at *
   simp_all
end Go.Proofs
set_option maxRecDepth 100000
namespace Go.Proofs
open Go Tp
theorem Try.en17 : Enters Try.prog 17 := fun _ _ => by kernel_rfl
set_option maxHeartbeats 1000000 in
theorem tab_delete {G X : Nat → Prop} {w : World} (tb ab : Nat) (rt : Handle) (fu : Bool) (ln : Int) (l : List RPlace) (S : Nat → Prop) (k : ByteArray)  (hA : SmallA l) (d : Nat) (hLk : fu = true → lookOk d l rt) (hDel : (getT fu d l rt k).2 = true → DelOk d l rt k) (hln : 0 ≤ ln ∧ ln ≤ 1000000) (M : Mem G X w [bk tb #[(vP ab), (vI rt.at_), (vI rt.turn), (vB fu), (vI ln)] 94, arenaC 143 145 S ab l] [] w) : Rets Try.prog 19 #[(vP tb), (vS k)] w fun r w' => ∃ (S' : Nat → Prop), r = (Value.tuple #[(vI ((getT fu d l rt k).1)), (vB ((getT fu d l rt k).2))]) ∧ Mem G X w [bk tb #[(vP ab), (vI (((delR d l rt fu ln k).1.2).at_)), (vI (((delR d l rt fu ln k).1.2).turn)), (vB ((delR d l rt fu ln k).2.1)), (vI ((delR d l rt fu ln k).2.2))] 94, arenaC 143 145 S' ab ((delR d l rt fu ln k).1.1)] [] w' := by
 refine Rets.enter 71 _ Try.func19 rfl Try.ntmps19 Try.results19 (by simp) ?_
 refine wR (wA (vI 0) (wA (vB false) (WL.nil (wR (wM (vP tb) ?_)))))
 refine wM (vS k) ?_
 have fq := M.frm [arenaC 143 145 S ab l] [bk tb #[(vP ab), (vI rt.at_), (vI rt.turn), (vB fu), (vI ln)] 94] [1, 0] rfl
 refine WL.callX rfl (tr_Get tb ab rt fu ln l S k (by assumption) d (by assumption) (M.eF fq ⟨(M.cF fq 0 rfl), trivial⟩)) (CallsF.func Try.en17 rfl) ?_
 rintro _ w1 ⟨rfl, m⟩
 replace M := M.lF fq m
 clear m
 refine wM (Value.tuple #[(vI ((getT fu d l rt k).1)), (vB ((getT fu d l rt k).2))]) (wP (vI ((getT fu d l rt k).1)) (wP (vB ((getT fu d l rt k).2)) (wA (vI ((getT fu d l rt k).1)) (wA (vB ((getT fu d l rt k).2)) (WL.nil ?_)))))
 refine W.seq' (wR (wM (vB ((getT fu d l rt k).2)) (wP (vB (!((getT fu d l rt k).2))) (WL.nil ?_))))
 refine W.cond (t := !((getT fu d l rt k).2)) rfl (fun h2 => ?_) (fun h2 => ?_)
 ·
  have hth_ : (getT fu d l rt k).2 = false := by simpa using h2
  refine wR (wA (vI 0) (wA (vB false) (WL.nil ?_)))
  refine W.ret ?_
  refine ⟨.inl rfl, (Value.tuple #[(vI 0), (vB false)]), ?_, ?_⟩
  · exact ⟨rfl, (Res.r2 (show RV _ _ _ (.tmp 4) (vI 0) from by exact rfl) (show RV _ _ _ (.tmp 5) (vB false) from by exact rfl))⟩
  have hg0_ : (getT fu d l rt k).1 = 0 := getT_no hth_
  have e3 : (bk tb #[(vP ab), (vI (((delR d l rt fu ln k).1.2).at_)), (vI (((delR d l rt fu ln k).1.2).turn)), (vB ((delR d l rt fu ln k).2.1)), (vI ((delR d l rt fu ln k).2.2))] 94 : Chunk) = (bk tb #[(vP ab), (vI rt.at_), (vI rt.turn), (vB fu), (vI ln)] 94 : Chunk) := by
   rw [delR_no hth_]
  replace M := M.rechunk 1 (c' := bk tb #[(vP ab), (vI (((delR d l rt fu ln k).1.2).at_)), (vI (((delR d l rt fu ln k).1.2).turn)), (vB ((delR d l rt fu ln k).2.1)), (vI ((delR d l rt fu ln k).2.2))] 94) rfl e3.symm
  have e4 : (delR d l rt fu ln k).1.1 = l := by
   rw [delR_no hth_]
  replace M := M.rechunk 0 (c' := arenaC 143 145 S ab ((delR d l rt fu ln k).1.1)) rfl (congrArg (fun z => arenaC 143 145 S ab z) e4.symm)
  refine ⟨S, ?_, M.close [1, 0] rfl (by decide) trivial⟩
  simp [hg0_, hth_]
 ·
  have hth_ : (getT fu d l rt k).2 = true := by simpa using h2
  obtain ⟨hO, hS, hKd⟩ := hDel hth_
  refine W.skip (wR (wM (vP tb) (wM (vP tb) (wP (vP tb) (wP (Value.pointer (some ⟨tb, 1, none⟩)) ?_)))))
  refine wS (Value.agg #[(vI rt.at_), (vI rt.turn)]) rfl (Step.loadN Try.ag92 rfl (M.blk 1 rfl) (Nat.le_of_ble_eq_true rfl) rfl) (wM (vS k) ?_)
  have fq := M.frm [arenaC 143 145 S ab l] [bk tb #[(vP ab), (vI rt.at_), (vI rt.turn), (vB fu), (vI ln)] 94] [0, 1] rfl
  refine WL.callX rfl (tr_remove d tb ab rt fu ln l S rt k (by assumption) (M.eF fq ⟨(M.cF fq 0 rfl), trivial⟩)) (CallsF.func Try.en48 rfl) ?_
  rintro _ w6 ⟨S5, rfl, m⟩
  replace M := M.lF fq m
  clear m
  refine WL.nil (W.seq' ?_)
  obtain ⟨l1_, hl1_⟩ : ∃ q, (remF d l rt k) = q := ⟨_, rfl⟩
  rw [hl1_] at hS hKd
  replace M := M.rechunk 0 (c' := arenaC 143 145 S5 ab l1_) rfl (by rw [hl1_])
  refine W.region rfl (wM (vP tb) (wP (vP tb) (wP (Value.pointer (some ⟨tb, 4, none⟩)) (wS (vI ln) rfl (Step.load1 Try.sc3 rfl ((M.cell 1 rfl 4).trans rfl)) (wS (vI ((ln : Int) - 1)) rfl (Step.sub rfl rfl (wrap_i64 (by omega))) ?_)))))
  refine wP (vP tb) (wP (Value.pointer (some ⟨tb, 4, none⟩)) ?_)
  refine WL.store (v := (vI ((ln : Int) - 1))) (cs := [(vI ((ln : Int) - 1))]) (c' := #[(vP ab), (vI rt.at_), (vI rt.turn), (vB fu), (vI ((ln : Int) - 1))]) M 1 rfl rfl Try.el3.sized rfl rfl rfl rfl (Nat.le_of_ble_eq_true rfl) (cel_cons rfl cel_nil) rfl rfl (fun w7 M => ?_)
  refine WL.nil (W.seq' (wR (wM (vP tb) (wM (vP tb) (wP (vP tb) ?_)))))
  refine wP (Value.pointer (some ⟨tb, 1, none⟩)) (wS (Value.agg #[(vI rt.at_), (vI rt.turn)]) rfl (Step.loadN Try.ag92 rfl (M.blk 1 rfl) (Nat.le_of_ble_eq_true rfl) rfl) ?_)
  obtain ⟨n, hn⟩ : ∃ n, (rget l1_ rt).1 = n := ⟨_, rfl⟩
  rw [hn] at hKd
  have fq := M.frm [arenaC 143 145 S5 ab l1_] [bk tb #[(vP ab), (vI rt.at_), (vI rt.turn), (vB fu), (vI ((ln : Int) - 1))] 94] [0, 1] rfl
  refine WL.callX rfl (tr_node tb ab rt fu ((ln : Int) - 1) l1_ S5 rt (by assumption) n hn (M.eF fq ⟨(M.cF fq 0 rfl), trivial⟩)) (CallsF.func Try.en49 rfl) ?_
  rintro _ w11 ⟨kv8, dv9, vv10, rfl, m⟩
  replace M := M.lF fq m
  clear m
  have sl12 : IsSl kv8 := SlAt.isSl (own_slAt (Mem.chunk M 1 rfl).inv)
  have hle13 := SlAt.le' (own_slAt (Mem.chunk M 1 rfl).inv)
  have sl14 : IsSl dv9 := SlAt.isSl (own_slAt (Mem.chunk M 2 rfl).inv)
  have hle15 := SlAt.le' (own_slAt (Mem.chunk M 2 rfl).inv)
  have sl16 : IsSl vv10 := SlAt.isSl (own_slAt (Mem.chunk M 3 rfl).inv)
  have hle17 := SlAt.le' (own_slAt (Mem.chunk M 3 rfl).inv)
  refine WL.alloc (c := #[(vB false), vZ, vZ, vZ]) M rfl Try.el99.zero rfl (fun b18 w19 hb18 M => ?_)
  refine WL.store (v := (Value.agg #[(vB n.leaf), kv8, dv9, vv10])) (cs := [(vB n.leaf), kv8, dv9, vv10]) (c' := #[(vB n.leaf), kv8, dv9, vv10]) M 0 rfl rfl Try.el99.sized rfl rfl rfl rfl (Nat.le_of_ble_eq_true rfl) (cel_cons rfl (cel_cons (IsSl.cel sl12) (cel_cons (IsSl.cel sl14) (cel_cons (IsSl.cel sl16) cel_nil)))) rfl rfl (fun w20 M => ?_)
  refine WL.nil (wR (wP (Value.pointer (some ⟨b18, 1, none⟩)) (wS kv8 rfl (Step.load1 Try.sc22 rfl ((M.cell 0 rfl 1).trans rfl)) (wS (vI ↑n.keys.length) rfl (Step.lenSl Try.un22 rfl (own_slAt (M.chunk 2 rfl).inv)) (wP (vB ((↑n.keys.length : Int) == (0 : Int))) ?_)))))
  refine WL.nil ?_
  refine W.cond (t := (↑n.keys.length : Int) == (0 : Int)) rfl (fun h21 => ?_) (fun h21 => ?_)
  ·
   have h21p : (↑n.keys.length : Int) = (0 : Int) := by simpa using h21
   refine wR (wM (vP tb) (wP (vP tb) (wP (Value.pointer (some ⟨tb, 1, none⟩)) (wS (Value.agg #[(vI rt.at_), (vI rt.turn)]) rfl (Step.loadN Try.ag92 rfl (M.blk 5 rfl) (Nat.le_of_ble_eq_true rfl) rfl) ?_))))
   refine WL.alloc (c := #[(vI 0), (vI 0)]) M rfl Try.el92.zero rfl (fun b22 w23 hb22 M => ?_)
   refine WL.store (v := (Value.agg #[(vI rt.at_), (vI rt.turn)])) (cs := [(vI rt.at_), (vI rt.turn)]) (c' := #[(vI rt.at_), (vI rt.turn)]) M 0 rfl rfl Try.el92.sized rfl rfl rfl rfl (Nat.le_of_ble_eq_true rfl) (cel_cons rfl (cel_cons rfl cel_nil)) rfl rfl (fun w24 M => ?_)
   refine WL.nil (W.seq' (wR (wM (vP tb) (wP (vP b18) (wS (vB n.leaf) rfl (Step.load1 Try.sc4 rfl ((M.cell 1 rfl 0).trans rfl)) ?_)))))
   refine wP (vB !n.leaf) (wP (vP tb) (wP (Value.pointer (some ⟨tb, 3, none⟩)) ?_))
   refine WL.store (v := (vB !n.leaf)) (cs := [(vB !n.leaf)]) (c' := #[(vP ab), (vI rt.at_), (vI rt.turn), (vB !n.leaf), (vI ((ln : Int) - 1))]) M 6 rfl rfl Try.el4.sized rfl rfl rfl rfl (Nat.le_of_ble_eq_true rfl) (cel_cons rfl cel_nil) rfl rfl (fun w25 M => ?_)
   refine WL.nil (wR (wM (vP tb) (wP (vP tb) (wP (Value.pointer (some ⟨tb, 3, none⟩)) (wS (vB !n.leaf) rfl (Step.load1 Try.sc4 rfl ((M.cell 6 rfl 3).trans rfl)) ?_)))))
   refine WL.nil ?_
   refine W.cond (t := !n.leaf) rfl (fun h26 => ?_) (fun h26 => ?_)
   ·
    have hlf_ : n.leaf = false := by simpa using h26
    have hk1_ := hKd hlf_
    refine W.region rfl (wM (vP tb) (wP (Value.pointer (some ⟨b18, 2, none⟩)) (wS dv9 rfl (Step.load1 Try.sc96 rfl ((M.cell 1 rfl 2).trans rfl)) ?_)))
    obtain ⟨cap28, hb27⟩ := SlAt.base (own_slAt (M.chunk 4 rfl).inv) (by omega)
    obtain ⟨x29, hx29⟩ := elem_of_lt (xs := n.kids) (i := 0) (by omega)
    have hgd_ : n.kids.getD 0 hdZero = x29 := by rw [List.getD_eq_getElem?_getD, hx29]; rfl
    refine wS (vQ dv9 0 2) rfl (sX 0 Try.un96 Try.el92 rfl rfl hb27 rfl) (wS (Value.agg #[(vI x29.at_), (vI x29.turn)]) rfl (Step.loadEN (k := 0) (cs' := [(vI x29.at_), (vI x29.turn)]) Try.ag92 (flat_ec (own_slAt (M.chunk 4 rfl).inv) hx29 handleE_len) (by decide) rfl rfl rfl) (wP (vP tb) (wP (Value.pointer (some ⟨tb, 1, none⟩)) ?_)))
    refine WL.store (v := (Value.agg #[(vI x29.at_), (vI x29.turn)])) (cs := [(vI x29.at_), (vI x29.turn)]) (c' := #[(vP ab), (vI x29.at_), (vI x29.turn), (vB !n.leaf), (vI ((ln : Int) - 1))]) M 6 rfl rfl Try.el92.sized rfl rfl rfl rfl (Nat.le_of_ble_eq_true rfl) (cel_cons rfl (cel_cons rfl cel_nil)) rfl rfl (fun w30 M => ?_)
    refine WL.nil ?_
    replace M := M.loseI 5
    replace M := M.loseI 4
    replace M := M.loseI 3
    replace M := M.loseI 1
    refine W.drawn M [0, 1, 2, 3, 4, 5, 6] [6] [5] _ _ (sY (sN (sY sE))) (fun _ h => h) Try.mixed (by kernel_rfl) ?_
    refine tP (vP tb) rfl (fun w => (Step.move rfl)) ?_
    refine tP (vP tb) rfl (fun w => sP) ?_
    refine tP (vP tb) rfl (fun w => sP) ?_
    refine tR (vP ab) rfl (fun A w M => (Step.load1 Try.sc90 rfl ((M.cell 2 rfl 0).trans rfl))) ?_
    refine tR (Value.agg #[(vI rt.at_), (vI rt.turn)]) rfl (fun A w M => (Step.loadN Try.ag92 rfl (M.blk 1 rfl) (Nat.le_of_ble_eq_true rfl) rfl)) ?_
    refine TW.new (obj := .cells #[(vI rt.at_), (vI rt.turn)] 92) (fun b => .slice (some ⟨b, 0, none⟩) 1 1) rfl (by decide) (by decide) rfl (fun w => Step.make (by kernel_rfl)) (fun b37 => ?_)
    let Q : List Chunk := [bk b37 #[(vI rt.at_), (vI rt.turn)] 92, bk b22 #[(vI rt.at_), (vI rt.turn)] 92, bk tb #[(vP ab), (vI x29.at_), (vI x29.turn), (vB !n.leaf), (vI ((ln : Int) - 1))] 94]
    refine TW.callX (ι := (Nat → Prop)) (fun jx v_ => v_ = (vI ((rfree l1_ ([rt] : List Handle)).2))) (fun jx => arenaC 143 145 jx ab ((rfree l1_ ([rt] : List Handle)).1) :: Q) (fun jx => []) rfl (by decide) rfl (fun jx => (sN (sN (sY (sY sE))))) (fun jx r h => h) (fun A w M => have fq := M.frm [arenaC 143 145 S5 ab l1_] (fl A :: Q) [3, 0, 1, 2, 4] rfl; Rets.mono (ar_free ab l1_ S5 (Value.slice (some ⟨b37, 0, none⟩) 1 1) ([rt] : List Handle) (by assumption) (M.eF fq ⟨((M.cF fq 1 rfl).imp fun _ h => SlAt.of_blk (n := 1) (size := 2) h rfl (by decide)), trivial⟩)) (fun v_ w_ ⟨S38, e_, m⟩ => ⟨S38, e_, (M.lF fq m).sel [1, 0, 2, 3, 4] rfl (by decide), fun b hb => M.kF fq m b hb⟩)) (fun w => CallsF.func Try.en50 rfl) (fun S38 v hp hin => ?_)
    replace hp := hp.symm; subst hp
    obtain ⟨_, _, hin⟩ := hin
    clear hin
    refine TW.done (fun w39 M => ?_)
    refine wR (wM (vI ((getT fu d l rt k).1)) (wA (vI ((getT fu d l rt k).1)) (wA (vB true) (WL.nil ?_))))
    refine W.ret ?_
    refine ⟨.inl rfl, (Value.tuple #[(vI ((getT fu d l rt k).1)), (vB true)]), ?_, ?_⟩
    · exact ⟨rfl, (Res.r2 (show RV _ _ _ (.tmp 4) (vI ((getT fu d l rt k).1)) from by exact rfl) (show RV _ _ _ (.tmp 5) (vB true) from by exact rfl))⟩
    have e40 : (bk tb #[(vP ab), (vI (((delR d l rt fu ln k).1.2).at_)), (vI (((delR d l rt fu ln k).1.2).turn)), (vB ((delR d l rt fu ln k).2.1)), (vI ((delR d l rt fu ln k).2.2))] 94 : Chunk) = (bk tb #[(vP ab), (vI x29.at_), (vI x29.turn), (vB !n.leaf), (vI ((ln : Int) - 1))] 94 : Chunk) := by
     rw [delR_kid hth_ hl1_ hn (by omega) hlf_ hgd_]; simp [hlf_]
    replace M := M.rechunk 3 (c' := bk tb #[(vP ab), (vI (((delR d l rt fu ln k).1.2).at_)), (vI (((delR d l rt fu ln k).1.2).turn)), (vB ((delR d l rt fu ln k).2.1)), (vI ((delR d l rt fu ln k).2.2))] 94) rfl e40.symm
    have e41 : (delR d l rt fu ln k).1.1 = (rfree l1_ ([rt] : List Handle)).1 := by
     rw [delR_kid hth_ hl1_ hn (by omega) hlf_ hgd_]
    replace M := M.rechunk 0 (c' := arenaC 143 145 S38 ab ((delR d l rt fu ln k).1.1)) rfl (congrArg (fun z => arenaC 143 145 S38 ab z) e41.symm)
    refine ⟨S38, ?_, M.close [3, 0] rfl (by decide) trivial⟩
    rw [hth_]
   ·
    have hlf_ : n.leaf = true := by simpa using h26
    refine W.skip ?_
    replace M := M.loseI 5
    replace M := M.loseI 4
    replace M := M.loseI 3
    replace M := M.loseI 1
    refine W.drawn M [0, 1, 2, 3, 4, 5, 6] [6] [5] _ _ (sY (sN (sY sE))) (fun _ h => h) Try.mixed (by kernel_rfl) ?_
    refine tP (vP tb) rfl (fun w => (Step.move rfl)) ?_
    refine tP (vP tb) rfl (fun w => sP) ?_
    refine tP (vP tb) rfl (fun w => sP) ?_
    refine tR (vP ab) rfl (fun A w M => (Step.load1 Try.sc90 rfl ((M.cell 2 rfl 0).trans rfl))) ?_
    refine tR (Value.agg #[(vI rt.at_), (vI rt.turn)]) rfl (fun A w M => (Step.loadN Try.ag92 rfl (M.blk 1 rfl) (Nat.le_of_ble_eq_true rfl) rfl)) ?_
    refine TW.new (obj := .cells #[(vI rt.at_), (vI rt.turn)] 92) (fun b => .slice (some ⟨b, 0, none⟩) 1 1) rfl (by decide) (by decide) rfl (fun w => Step.make (by kernel_rfl)) (fun b48 => ?_)
    let Q : List Chunk := [bk b48 #[(vI rt.at_), (vI rt.turn)] 92, bk b22 #[(vI rt.at_), (vI rt.turn)] 92, bk tb #[(vP ab), (vI rt.at_), (vI rt.turn), (vB !n.leaf), (vI ((ln : Int) - 1))] 94]
    refine TW.callX (ι := (Nat → Prop)) (fun jx v_ => v_ = (vI ((rfree l1_ ([rt] : List Handle)).2))) (fun jx => arenaC 143 145 jx ab ((rfree l1_ ([rt] : List Handle)).1) :: Q) (fun jx => []) rfl (by decide) rfl (fun jx => (sN (sN (sY (sY sE))))) (fun jx r h => h) (fun A w M => have fq := M.frm [arenaC 143 145 S5 ab l1_] (fl A :: Q) [3, 0, 1, 2, 4] rfl; Rets.mono (ar_free ab l1_ S5 (Value.slice (some ⟨b48, 0, none⟩) 1 1) ([rt] : List Handle) (by assumption) (M.eF fq ⟨((M.cF fq 1 rfl).imp fun _ h => SlAt.of_blk (n := 1) (size := 2) h rfl (by decide)), trivial⟩)) (fun v_ w_ ⟨S49, e_, m⟩ => ⟨S49, e_, (M.lF fq m).sel [1, 0, 2, 3, 4] rfl (by decide), fun b hb => M.kF fq m b hb⟩)) (fun w => CallsF.func Try.en50 rfl) (fun S49 v hp hin => ?_)
    replace hp := hp.symm; subst hp
    obtain ⟨_, _, hin⟩ := hin
    clear hin
    refine TW.done (fun w50 M => ?_)
    refine wR (wM (vI ((getT fu d l rt k).1)) (wA (vI ((getT fu d l rt k).1)) (wA (vB true) (WL.nil ?_))))
    refine W.ret ?_
    refine ⟨.inl rfl, (Value.tuple #[(vI ((getT fu d l rt k).1)), (vB true)]), ?_, ?_⟩
    · exact ⟨rfl, (Res.r2 (show RV _ _ _ (.tmp 4) (vI ((getT fu d l rt k).1)) from by exact rfl) (show RV _ _ _ (.tmp 5) (vB true) from by exact rfl))⟩
    have e51 : (bk tb #[(vP ab), (vI (((delR d l rt fu ln k).1.2).at_)), (vI (((delR d l rt fu ln k).1.2).turn)), (vB ((delR d l rt fu ln k).2.1)), (vI ((delR d l rt fu ln k).2.2))] 94 : Chunk) = (bk tb #[(vP ab), (vI rt.at_), (vI rt.turn), (vB !n.leaf), (vI ((ln : Int) - 1))] 94 : Chunk) := by
     rw [delR_leaf hth_ hl1_ hn (by omega) hlf_]; simp [hlf_]
    replace M := M.rechunk 3 (c' := bk tb #[(vP ab), (vI (((delR d l rt fu ln k).1.2).at_)), (vI (((delR d l rt fu ln k).1.2).turn)), (vB ((delR d l rt fu ln k).2.1)), (vI ((delR d l rt fu ln k).2.2))] 94) rfl e51.symm
    have e52 : (delR d l rt fu ln k).1.1 = (rfree l1_ ([rt] : List Handle)).1 := by
     rw [delR_leaf hth_ hl1_ hn (by omega) hlf_]
    replace M := M.rechunk 0 (c' := arenaC 143 145 S49 ab ((delR d l rt fu ln k).1.1)) rfl (congrArg (fun z => arenaC 143 145 S49 ab z) e52.symm)
    refine ⟨S49, ?_, M.close [3, 0] rfl (by decide) trivial⟩
    rw [hth_]
  ·
   have h21p : ¬ (↑n.keys.length : Int) = (0 : Int) := by simpa using h21
   refine W.skip (wR (wM (vI ((getT fu d l rt k).1)) (wA (vI ((getT fu d l rt k).1)) (wA (vB true) (WL.nil ?_)))))
   refine W.ret ?_
   refine ⟨.inl rfl, (Value.tuple #[(vI ((getT fu d l rt k).1)), (vB true)]), ?_, ?_⟩
   · exact ⟨rfl, (Res.r2 (show RV _ _ _ (.tmp 4) (vI ((getT fu d l rt k).1)) from by exact rfl) (show RV _ _ _ (.tmp 5) (vB true) from by exact rfl))⟩
   have e53 : (bk tb #[(vP ab), (vI (((delR d l rt fu ln k).1.2).at_)), (vI (((delR d l rt fu ln k).1.2).turn)), (vB ((delR d l rt fu ln k).2.1)), (vI ((delR d l rt fu ln k).2.2))] 94 : Chunk) = (bk tb #[(vP ab), (vI rt.at_), (vI rt.turn), (vB fu), (vI ((ln : Int) - 1))] 94 : Chunk) := by
    rw [delR_keep hth_ hl1_ hn (by omega)]
   replace M := M.rechunk 5 (c' := bk tb #[(vP ab), (vI (((delR d l rt fu ln k).1.2).at_)), (vI (((delR d l rt fu ln k).1.2).turn)), (vB ((delR d l rt fu ln k).2.1)), (vI ((delR d l rt fu ln k).2.2))] 94) rfl e53.symm
   have e54 : (delR d l rt fu ln k).1.1 = l1_ := by
    rw [delR_keep hth_ hl1_ hn (by omega)]
   replace M := M.rechunk 1 (c' := arenaC 143 145 S5 ab ((delR d l rt fu ln k).1.1)) rfl (congrArg (fun z => arenaC 143 145 S5 ab z) e54.symm)
   refine ⟨S5, ?_, M.close [5, 1] rfl (by decide) trivial⟩
   rw [hth_]
end Go.Proofs
set_option maxRecDepth 100000
namespace Go.Proofs
open Go Tp
theorem Try.un34 : Und Try.prog 34 (.slice 41) := by unfold Und; kernel_rfl
end Go.Proofs
set_option maxRecDepth 100000
namespace Go.Proofs
open Go Tp
abbrev oR (v : Value) (xs : List THit) : Chunk := own 41 2 v xs.length (xs.flatMap hitE)
abbrev fR (v : Value) (xs : List THit) : World → Prop := SlAt 2 v xs.length (xs.flatMap hitE)
end Go.Proofs
set_option maxRecDepth 100000
namespace Go.Proofs
open Go Tp
abbrev tT (S : Nat → Prop) (tb : Nat) (row : List THit) (c : Nat) : Chunk := tabC 94 143 145 S tb row c
theorem T_new {G : Nat → Prop} {w : World}    (M : Mem G (fun _ => False) w [] [] w) : Rets Try.prog 30 #[] w fun r w' => ∃ (tb' : Nat) (S' : Nat → Prop), r = (vP tb') ∧ Mem G (fun _ => False) w [tT S' tb' ([] : List THit) 0] [] w' := by
 refine Rets.mono (tab_new M) ?_
 rintro _ w' ⟨tb, ab, S', rfl, m⟩
 exact ⟨tb, _, rfl, Mem.pack (Ls := tabL 94 143 145 tb) (p := TabP [] 0) ⟨ab, ⟨0, 0⟩, false, 0, [], S'⟩ m ⟨0, 0, Tp.tab_new, Nat.le_refl _, Nat.le_refl _⟩⟩
theorem T_put {G X : Nat → Prop} {w : World} (tb : Nat) (S : Nat → Prop) (row : List THit) (c : Nat) (k : ByteArray) (v : Int)  (hc : c ≤ 900) (M : Mem G X w [tT S tb row c] [] w) : Rets Try.prog 18 #[(vP tb), (vS k), (vI v)] w fun r w' => ∃ (S' : Nat → Prop), r = (Value.tuple #[(vI ((getL row k).1)), (vB ((getL row k).2))]) ∧ Mem G X w [tT S' tb (putR row (⟨k, v⟩ : THit)) (c + 1)] [] w' := by
 obtain ⟨i, ⟨K, d, H, hK, hr⟩, rfl, M1⟩ := M.unpack
 have hd := tab_deep H
 refine Rets.mono (tab_put tb i.ab i.rt i.fu i.ln i.l i.S k v (H.small' (by omega)) d (put_okW H (by omega)) (put_small H (by omega)) (by rw [H.len]; omega) M1) ?_
 rintro _ w' ⟨S', rfl, m⟩
 obtain ⟨_, _, e⟩ := put_tab (x := (⟨k, v⟩ : THit)) H
 exact ⟨_, by rw [e], Mem.pack (Ls := tabL 94 143 145 tb) (p := TabP (putR row (⟨k, v⟩ : THit)) (c + 1)) ⟨i.ab, _, true, _, _, S'⟩ m (put_row H hK hr hc)⟩
theorem T_delete {G X : Nat → Prop} {w : World} (tb : Nat) (S : Nat → Prop) (row : List THit) (c : Nat) (k : ByteArray)  (hc : c ≤ 900) (M : Mem G X w [tT S tb row c] [] w) : Rets Try.prog 19 #[(vP tb), (vS k)] w fun r w' => ∃ (S' : Nat → Prop), r = (Value.tuple #[(vI ((getL row k).1)), (vB ((getL row k).2))]) ∧ Mem G X w [tT S' tb (delL row k) c] [] w' := by
 obtain ⟨i, ⟨K, d, H, hK, hr⟩, rfl, M1⟩ := M.unpack
 refine Rets.mono (tab_delete tb i.ab i.rt i.fu i.ln i.l i.S k (H.small' (by omega)) d (tab_look H) (del_small H (by omega)) (by rw [H.len]; omega) M1) ?_
 rintro _ w' ⟨S', rfl, m⟩
 obtain ⟨d', H'⟩ := del_row (k := k) H
 exact ⟨_, by rw [tab_get H], Mem.pack (Ls := tabL 94 143 145 tb) (p := TabP (delL row k) c) ⟨i.ab, _, _, _, _, S'⟩ m ⟨K, d', H', hK, Nat.le_trans delL_le hr⟩⟩
theorem T_from {G X : Nat → Prop} {w : World} (tb : Nat) (S : Nat → Prop) (row : List THit) (c : Nat) (k : ByteArray)  (hc : c ≤ 900) (M : Mem G X w [tT S tb row c] [] w) : Rets Try.prog 45 #[(vP tb), (vS k)] w fun r w' => r = (Value.tuple #[(Value.agg #[(vS (((fromL row k).1).key)), (vI (((fromL row k).1).val))]), (vB ((fromL row k).2))]) ∧ Mem G X w [tT S tb row c] [] w' := by
 refine (tab_reads (ι := Unit) (fun _ => (Value.tuple #[(Value.agg #[(vS (((fromL row k).1).key)), (vI (((fromL row k).1).val))]), (vB ((fromL row k).2))])) (fun _ => []) M fun i ⟨K, d, H, hK, hr⟩ G' X' M' => ?_).mono fun v w' ⟨_, e, m⟩ => ⟨e, m⟩
 refine (tr_From tb i.ab i.rt i.fu i.ln i.l i.S k (H.small' (by omega)) d (tab_look H) M').mono fun v w' ⟨e, m⟩ => ⟨(), ?_, m⟩
 rw [e, tab_lookT H (upP_ge k)]; rfl
theorem T_after {G X : Nat → Prop} {w : World} (tb : Nat) (S : Nat → Prop) (row : List THit) (c : Nat) (k : ByteArray)  (hc : c ≤ 900) (M : Mem G X w [tT S tb row c] [] w) : Rets Try.prog 72 #[(vP tb), (vS k)] w fun r w' => r = (Value.tuple #[(Value.agg #[(vS (((afterL row k).1).key)), (vI (((afterL row k).1).val))]), (vB ((afterL row k).2))]) ∧ Mem G X w [tT S tb row c] [] w' := by
 refine (tab_reads (ι := Unit) (fun _ => (Value.tuple #[(Value.agg #[(vS (((afterL row k).1).key)), (vI (((afterL row k).1).val))]), (vB ((afterL row k).2))])) (fun _ => []) M fun i ⟨K, d, H, hK, hr⟩ G' X' M' => ?_).mono fun v w' ⟨_, e, m⟩ => ⟨e, m⟩
 refine (tr_After tb i.ab i.rt i.fu i.ln i.l i.S k (H.small' (by omega)) d (tab_look H) M').mono fun v w' ⟨e, m⟩ => ⟨(), ?_, m⟩
 rw [e, tab_lookT H (upP_gt k)]; rfl
theorem T_before {G X : Nat → Prop} {w : World} (tb : Nat) (S : Nat → Prop) (row : List THit) (c : Nat) (k : ByteArray)  (hc : c ≤ 900) (M : Mem G X w [tT S tb row c] [] w) : Rets Try.prog 60 #[(vP tb), (vS k)] w fun r w' => r = (Value.tuple #[(Value.agg #[(vS (((beforeL row k).1).key)), (vI (((beforeL row k).1).val))]), (vB ((beforeL row k).2))]) ∧ Mem G X w [tT S tb row c] [] w' := by
 refine (tab_reads (ι := Unit) (fun _ => (Value.tuple #[(Value.agg #[(vS (((beforeL row k).1).key)), (vI (((beforeL row k).1).val))]), (vB ((beforeL row k).2))])) (fun _ => []) M fun i ⟨K, d, H, hK, hr⟩ G' X' M' => ?_).mono fun v w' ⟨_, e, m⟩ => ⟨e, m⟩
 refine (tr_Before tb i.ab i.rt i.fu i.ln i.l i.S k (H.small' (by omega)) d (tab_look H) M').mono fun v w' ⟨e, m⟩ => ⟨(), ?_, m⟩
 rw [e, tab_lookG H (downP_lt k)]; rfl
theorem T_last {G X : Nat → Prop} {w : World} (tb : Nat) (S : Nat → Prop) (row : List THit) (c : Nat)  (hc : c ≤ 900) (M : Mem G X w [tT S tb row c] [] w) : Rets Try.prog 78 #[(vP tb)] w fun r w' => r = (Value.tuple #[(Value.agg #[(vS (((tailL row).1).key)), (vI (((tailL row).1).val))]), (vB ((tailL row).2))]) ∧ Mem G X w [tT S tb row c] [] w' := by
 refine (tab_reads (ι := Unit) (fun _ => (Value.tuple #[(Value.agg #[(vS (((tailL row).1).key)), (vI (((tailL row).1).val))]), (vB ((tailL row).2))])) (fun _ => []) M fun i ⟨K, d, H, hK, hr⟩ G' X' M' => ?_).mono fun v w' ⟨_, e, m⟩ => ⟨e, m⟩
 refine (tr_Last tb i.ab i.rt i.fu i.ln i.l i.S (H.small' (by omega)) d (tab_look H) M').mono fun v w' ⟨e, m⟩ => ⟨(), ?_, m⟩
 rw [e, tab_lookG H downP_all]; rfl
end Go.Proofs
set_option maxRecDepth 100000
namespace Go.Proofs
open Go Tp
theorem Try.un27 : Und Try.prog 27 (.slice 108) := by unfold Und; kernel_rfl
theorem Try.ag108 : Aggr Try.prog 108 2 := ⟨fun _ => by kernel_rfl, fun _ => by kernel_rfl⟩
theorem Try.el108 : Elem Try.prog 108 (Value.agg #[(vS sZ), (vI 0)]) 2 24 := Elem.mk (by kernel_rfl)
abbrev oQ (v : Value) (xs : List THit) : Chunk := own 108 2 v xs.length (xs.flatMap hitE)
theorem r_delete {G : Nat → Prop} {w : World} (v : Value) (l : List THit) (k : ByteArray)  (hb : l.length ≤ 400000) (M : Mem G (fun _ => False) w [] [fR v l] w) : Rets Try.prog 41 #[v, (vS k)] w fun r w' => ∃ (v' : Value), r = v' ∧ Mem G (fun _ => False) w [] [fR v' (delL l k)] w' := by
 refine Rets.enter 28 _ Try.func41 rfl Try.ntmps41 Try.results41 (by simp) ?_
 have hle1 := SlAt.le' (M.rep 0 rfl)
 have sl2 : IsSl v := SlAt.isSl (Mem.rep M 0 rfl)
 refine wR (wA vZ (WL.nil (wR (wA vZ (WL.nil ?_)))))
 refine W.seq' (wR (wA (vI 0) (WL.nil (W.block ?_))))
 replace M := M.ownNil 108 2
 replace M := M.rechunk 0 (c' := oQ vZ ((l.take 0).filter fun a => !decide (a.key = k))) rfl rfl
 refine W.loop (fun kk ρ w' => ∃ (i_ : Nat) (acci_ : Value), ((i_ ≤ l.length) ∧ kk = l.length - i_) ∧ ρ.has [(0, v), (1, (vS k)), (4, vZ), (5, acci_), (6, (vI ↑i_))] ∧ Mem G (fun _ => False) w [oQ acci_ ((l.take i_).filter fun a => !decide (a.key = k))] [fR v l]  w') _ ⟨0, _, ⟨(Nat.zero_le _), rfl⟩, ⟨rfl, rfl, rfl, rfl, rfl, rfl, rfl⟩, M⟩ ?_
 rintro _ ρ4 w3 ⟨i_, acci_, ⟨hi5, rfl⟩, hρ, M⟩
 obtain ⟨ρ4, rfl⟩ := hρ.know
 clear hρ
 have sl6 : IsSl acci_ := SlAt.isSl (own_slAt (M.chunk 0 rfl).inv)
 have hacl : ((l.take i_).filter fun a => !decide (a.key = k)).length ≤ 400000 := Nat.le_trans (List.length_filter_le _ _) (by rw [List.length_take]; omega)
 refine W.seq' (wR (wM (vI ↑i_) (wM v (wS (vI ↑l.length) rfl (Step.lenSl Try.un27 rfl (M.rep 0 rfl)) (wP (vB (decide ((↑i_ : Int) < (↑l.length : Int)))) ?_)))))
 refine WL.nil ?_
 refine W.cond (t := decide ((↑i_ : Int) < (↑l.length : Int))) rfl (fun h7 => ?_) (fun h7 => ?_)
 ·
  have h7p := of_decide_eq_true h7
  refine W.skip (W.seq' (W.block (wR (wM v (wM (vI ↑i_) ?_)))))
  obtain ⟨cap9, hb8⟩ := SlAt.base (M.rep 0 rfl) (by omega)
  obtain ⟨x10, hx10⟩ := elem_of_lt (xs := l) (i := i_) (by omega)
  refine wS (vQ v i_ 2) rfl (sX i_ Try.un27 Try.el108 rfl rfl hb8) (wP (vQ v i_ 2) (wS (vS x10.key) rfl (Step.loadE (k := 0) Try.sc9 (flat_ec (M.rep 0 rfl) hx10 hitE_len) (by decide) rfl rfl) (wM (vS k) (wP (vB (!(x10.key.toList == k.toList))) (WL.nil ?_)))))
  refine W.cond (t := !(x10.key.toList == k.toList)) rfl (fun h11 => ?_) (fun h11 => ?_)
  ·
   refine W.region rfl (wM acci_ (wM v (wM (vI ↑i_) (wS (vQ v i_ 2) rfl (sX i_ Try.un27 Try.el108 rfl rfl hb8) (wS (Value.agg #[(vS x10.key), (vI x10.val)]) rfl (Step.loadEN (k := 0) (cs' := [(vS x10.key), (vI x10.val)]) Try.ag108 (flat_ec (M.rep 0 rfl) hx10 hitE_len) (by decide) rfl rfl rfl) ?_)))))
   refine WL.new (obj := .cells #[(vS x10.key), (vI x10.val)] 108) (fun b => .slice (some ⟨b, 0, none⟩) 1 1) M rfl (fun w => Step.make (by kernel_rfl)) (fun b12 w13 hb12 M => ?_)
   refine WL.does rfl (M.appendF ((l.take i_).filter fun a => !decide (a.key = k)) ([x10] : List THit) (sv := (Value.slice (some ⟨b12, 0, none⟩) 1 1)) 1 Try.un27 Try.el108 rfl (by decide) rfl rfl rfl (SlAt.of_blk (M.blk 0 rfl) rfl (by decide)) hitE_cel (by have := hacl; simp only [maxLen, List.length_nil, List.length_cons, List.length_append]; omega) (by have := hacl; (try simp only [List.length_nil, List.length_cons, List.length_append]); omega)) ?_
   rintro v14 w15 M
   have sl16 : IsSl v14 := SlAt.isSl (own_slAt (M.chunk 1 rfl).inv)
   refine wA v14 (WL.nil (W.region rfl (wM (vI ↑i_) (wS (vI (↑i_ + 1)) rfl (Step.add rfl rfl (wrap_i64 (by omega))) (wA (vI (↑i_ + 1)) ?_)))))
   refine WL.nil ?_
   replace M := M.rechunk 1 (c' := oQ v14 ((l.take (i_ + 1)).filter fun a => !decide (a.key = k))) rfl (by rw [filtY hx10 (by simpa [sEq_dec] using h11)])
   replace M := M.sel (L' := [oQ v14 ((l.take (i_ + 1)).filter fun a => !decide (a.key = k))]) [1] rfl (by decide)
   exact ⟨_, (by omega), i_ + 1, v14, ⟨(by omega), rfl⟩, ⟨rfl, rfl, rfl, rfl, rfl, rfl, rfl⟩, M⟩
  ·
   refine W.skip (W.region rfl (wM (vI ↑i_) (wS (vI (↑i_ + 1)) rfl (Step.add rfl rfl (wrap_i64 (by omega))) (wA (vI (↑i_ + 1)) (WL.nil ?_)))))
   replace M := M.rechunk 0 (c' := oQ acci_ ((l.take (i_ + 1)).filter fun a => !decide (a.key = k))) rfl (by rw [filtN hx10 (by simpa [sEq_dec] using h11)])
   exact ⟨_, (by omega), i_ + 1, acci_, ⟨(by omega), rfl⟩, ⟨rfl, rfl, rfl, rfl, rfl, rfl, rfl⟩, M⟩
 ·
  have h7p := of_decide_eq_false h7
  refine W.exit ?_
  refine thn_exit ?_
  refine thn_exit ?_
  refine inBlk_hit ?_
  refine wR (wM acci_ (wA acci_ (WL.nil ?_)))
  refine W.ret ?_
  refine ⟨.inl rfl, acci_, ?_, ?_⟩
  · exact ⟨rfl, (Res.r1 (show RV _ _ _ (.tmp 4) acci_ from by exact rfl))⟩
  replace M := M.shareOwn 0 rfl
  have e17 : delL l k = ((l.take i_).filter fun a => !decide (a.key = k)) := by
   unfold delL; rw [List.take_of_length_le (by omega)]
  have hf18 := Sh.reList e17 (M.shr' 0 rfl)
  refine ⟨acci_, ?_, M.close [] rfl (by decide) ⟨hf18, trivial⟩⟩
  rfl
end Go.Proofs
set_option maxRecDepth 100000
namespace Go.Proofs
open Go Tp
theorem Try.en41 : Enters Try.prog 41 := fun _ _ => by kernel_rfl
theorem r_put {G : Nat → Prop} {w : World} (v : Value) (l : List THit) (k : ByteArray) (n : Int)  (hb : l.length ≤ 400000) (M : Mem G (fun _ => False) w [] [fR v l] w) : Rets Try.prog 39 #[v, (vS k), (vI n)] w fun r w' => ∃ (v' : Value), r = v' ∧ Mem G (fun _ => False) w [] [fR v' (putR l (⟨k, n⟩ : THit))] w' := by
 refine Rets.enter 63 _ Try.func39 rfl Try.ntmps39 Try.results39 (by simp) ?_
 have hle1 := SlAt.le' (M.rep 0 rfl)
 have sl2 : IsSl v := SlAt.isSl (Mem.rep M 0 rfl)
 refine wR (wA vZ (WL.nil (wR (wA vZ (WL.nil ?_)))))
 refine wR (wM v (wM (vS k) ?_))
 refine WL.callX rfl (r_delete v l k (by omega) (M.enter0 ⟨(M.shr' 0 rfl), trivial⟩)) (CallsF.func Try.en41 rfl) ?_
 rintro v3 w4 ⟨_, rfl, m⟩
 replace M := M.leave0 m
 clear m
 have sl5 : IsSl v3 := SlAt.isSl (Mem.rep M 0 rfl)
 have hle6 := SlAt.le' (M.rep 0 rfl)
 refine wA v3 (WL.nil (W.seq' (wR (wA (vI 0) (WL.nil ?_)))))
 refine W.block ?_
 have hdl_ : (delL l k).length ≤ l.length := delL_le
 have htw_ := (List.takeWhile_prefix (p := fun a : THit => sLt a.key k) (l := (delL l k))).length_le
 replace M := M.ownNil 108 2
 replace M := M.rechunk 0 (c' := oQ vZ ((delL l k).take 0)) rfl rfl
 refine W.loop (fun kk ρ w' => ∃ (i_ : Nat) (acci_ : Value), ((i_ ≤ (delL l k).length) ∧ (∀ j u, j < i_ → (delL l k)[j]? = some u → (fun u : THit => !(sLt u.key k)) u = false) ∧ kk = (delL l k).length - i_) ∧ ρ.has [(1, (vS k)), (2, (vI n)), (6, vZ), (7, acci_), (8, v3), (9, (vI ↑i_))] ∧ Mem G (fun _ => False) w [oQ acci_ ((delL l k).take i_)] [fR v3 (delL l k), fR v l]  w') _ ⟨0, _, ⟨(Nat.zero_le _), (fun _ _ h => absurd h (Nat.not_lt_zero _)), rfl⟩, ⟨rfl, rfl, rfl, rfl, rfl, rfl, rfl, rfl⟩, M⟩ ?_
 rintro _ ρ8 w7 ⟨i_, acci_, ⟨hi9, hi10, rfl⟩, hρ, M⟩
 obtain ⟨ρ8, rfl⟩ := hρ.know
 clear hρ
 have sl11 : IsSl acci_ := SlAt.isSl (own_slAt (M.chunk 0 rfl).inv)
 have hacl : ((delL l k).take i_).length ≤ 400000 := by rw [List.length_take]; omega
 refine W.seq' (wR (wM (vI ↑i_) (wM v3 (wS (vI (↑((delL l k).length))) rfl (Step.lenSl Try.un27 rfl (M.rep 0 rfl)) (wP (vB (decide ((↑i_ : Int) < (↑((delL l k).length) : Int)))) ?_)))))
 refine wM (vB (decide ((↑i_ : Int) < (↑((delL l k).length) : Int)))) ?_
 rcases Bool.eq_false_or_eq_true (decide ((↑i_ : Int) < (↑((delL l k).length) : Int))) with h12 | h12
 ·
  have h12p := of_decide_eq_true h12
  rw [h12]
  refine wM v3 (wM (vI ↑i_) ?_)
  obtain ⟨cap14, hb13⟩ := SlAt.base (M.rep 0 rfl) (by omega)
  obtain ⟨x15, hx15⟩ := elem_of_lt (xs := delL l k) (i := i_) (by omega)
  refine wS (vQ v3 i_ 2) rfl (sX i_ Try.un27 Try.el108 rfl rfl hb13) (wP (vQ v3 i_ 2) (wS (vS x15.key) rfl (Step.loadE (k := 0) Try.sc9 (flat_ec (M.rep 0 rfl) hx15 hitE_len) (by decide) rfl rfl) (wM (vS k) (wP (vB (sLt x15.key k)) (wS (vB (sLt x15.key k)) rfl (Step.pick (t := true) rfl rfl) ?_)))))
  refine WL.nil ?_
  refine W.cond (t := sLt x15.key k) rfl (fun h16 => ?_) (fun h16 => ?_)
  ·
   refine W.skip (W.seq' (W.block (W.region rfl (wM acci_ (wM v3 ?_)))))
   refine wM (vI ↑i_) (wS (vQ v3 i_ 2) rfl (sX i_ Try.un27 Try.el108 rfl rfl hb13) (wS (Value.agg #[(vS x15.key), (vI x15.val)]) rfl (Step.loadEN (k := 0) (cs' := [(vS x15.key), (vI x15.val)]) Try.ag108 (flat_ec (M.rep 0 rfl) hx15 hitE_len) (by decide) rfl rfl rfl) ?_))
   refine WL.new (obj := .cells #[(vS x15.key), (vI x15.val)] 108) (fun b => .slice (some ⟨b, 0, none⟩) 1 1) M rfl (fun w => Step.make (by kernel_rfl)) (fun b17 w18 hb17 M => ?_)
   refine WL.does rfl (M.appendF ((delL l k).take i_) ([x15] : List THit) (sv := (Value.slice (some ⟨b17, 0, none⟩) 1 1)) 1 Try.un27 Try.el108 rfl (by decide) rfl rfl rfl (SlAt.of_blk (M.blk 0 rfl) rfl (by decide)) hitE_cel (by have := hacl; simp only [maxLen, List.length_nil, List.length_cons, List.length_append]; omega) (by have := hacl; (try simp only [List.length_nil, List.length_cons, List.length_append]); omega)) ?_
   rintro v19 w20 M
   have sl21 : IsSl v19 := SlAt.isSl (own_slAt (M.chunk 1 rfl).inv)
   refine wA v19 (WL.nil (W.region rfl (wM (vI ↑i_) (wS (vI (↑i_ + 1)) rfl (Step.add rfl rfl (wrap_i64 (by omega))) (wA (vI (↑i_ + 1)) ?_)))))
   refine WL.nil ?_
   replace M := M.rechunk 1 (c' := oQ v19 ((delL l k).take (i_ + 1))) rfl (by rw [← take_snoc hx15])
   replace M := M.sel (L' := [oQ v19 ((delL l k).take (i_ + 1))]) [1] rfl (by decide)
   exact ⟨_, (by omega), i_ + 1, v19, ⟨(by omega), (below_stepG hi10 hx15 (by simpa using h16)), rfl⟩, ⟨rfl, rfl, rfl, rfl, rfl, rfl, rfl, rfl⟩, M⟩
  ·
   refine W.exit ?_
   refine thn_exit ?_
   refine thn_exit ?_
   refine inBlk_hit ?_
   refine W.seq' ?_
   replace M := M.rechunk 0 (c' := oQ acci_ ((delL l k).takeWhile fun a => sLt a.key k)) rfl (by rw [takeW_of (i := i_) (fun j u h1 h2 => by simpa using hi10 j u h1 h2) (.inr ⟨_, hx15, by simpa using h16⟩)])
   refine W.region rfl (wM acci_ (wM (vS k) (wM (vI n) (wP (Value.agg #[(vS k), (vI n)]) ?_))))
   refine WL.new (obj := .cells #[(vS k), (vI n)] 108) (fun b => .slice (some ⟨b, 0, none⟩) 1 1) M rfl (fun w => Step.make (by kernel_rfl)) (fun b22 w23 hb22 M => ?_)
   refine WL.does rfl (M.appendF ((delL l k).takeWhile fun a => sLt a.key k) ([(⟨k, n⟩ : THit)] : List THit) (sv := (Value.slice (some ⟨b22, 0, none⟩) 1 1)) 1 Try.un27 Try.el108 rfl (by decide) rfl rfl rfl (SlAt.of_blk (M.blk 0 rfl) rfl (by decide)) hitE_cel (by have := htw_; simp only [maxLen, List.length_nil, List.length_cons, List.length_append]; omega) (by have := htw_; (try simp only [List.length_nil, List.length_cons, List.length_append]); omega)) ?_
   rintro v24 w25 M
   have sl26 : IsSl v24 := SlAt.isSl (own_slAt (M.chunk 1 rfl).inv)
   refine wA v24 (WL.nil (W.seq' (wR (wA (vI 0) (WL.nil ?_)))))
   refine W.block ?_
   replace M := M.loseI 0
   replace M : Mem _ _ _ [oQ v24 (((delL l k).takeWhile fun a => sLt a.key k) ++ ([(⟨k, n⟩ : THit)] : List THit))] [fR v3 (delL l k), fR v l] _ := M
   replace M := M.rechunk 0 (c' := oQ v24 ((((delL l k).takeWhile fun a => sLt a.key k) ++ ([(⟨k, n⟩ : THit)] : List THit)) ++ ((delL l k).take 0).filter fun a => sLt k a.key)) rfl (by simp)
   replace M := M.sel (L' := [oQ v24 ((((delL l k).takeWhile fun a => sLt a.key k) ++ ([(⟨k, n⟩ : THit)] : List THit)) ++ ((delL l k).take 0).filter fun a => sLt k a.key)]) [0] rfl (by decide)
   refine W.loop (fun kk ρ w' => ∃ (j_ : Nat) (accj_ : Value), ((j_ ≤ (delL l k).length) ∧ kk = (delL l k).length - j_) ∧ ρ.has [(1, (vS k)), (6, vZ), (7, accj_), (8, v3), (10, (vI ↑j_))] ∧ Mem G (fun _ => False) w [oQ accj_ ((((delL l k).takeWhile fun a => sLt a.key k) ++ ([(⟨k, n⟩ : THit)] : List THit)) ++ ((delL l k).take j_).filter fun a => sLt k a.key)] [fR v3 (delL l k), fR v l]  w') _ ⟨0, _, ⟨(Nat.zero_le _), rfl⟩, ⟨rfl, rfl, rfl, rfl, rfl, rfl, rfl⟩, M⟩ ?_
   rintro _ ρ28 w27 ⟨j_, accj_, ⟨hi29, rfl⟩, hρ, M⟩
   obtain ⟨ρ28, rfl⟩ := hρ.know
   clear hρ
   have sl30 : IsSl accj_ := SlAt.isSl (own_slAt (M.chunk 0 rfl).inv)
   have hacf := Nat.le_trans (List.length_filter_le (fun a : THit => sLt k a.key) ((delL l k).take j_)) (by rw [List.length_take]; exact Nat.min_le_right ..)
   have hac2 : ((((delL l k).takeWhile fun a => sLt a.key k) ++ ([(⟨k, n⟩ : THit)] : List THit)) ++ ((delL l k).take j_).filter fun a => sLt k a.key).length ≤ 1000000 := by simp only [List.length_append, List.length_cons, List.length_nil]; omega
   refine W.seq' (wR (wM (vI ↑j_) (wM v3 (wS (vI (↑((delL l k).length))) rfl (Step.lenSl Try.un27 rfl (M.rep 0 rfl)) (wP (vB (decide ((↑j_ : Int) < (↑((delL l k).length) : Int)))) ?_)))))
   refine WL.nil ?_
   refine W.cond (t := decide ((↑j_ : Int) < (↑((delL l k).length) : Int))) rfl (fun h31 => ?_) (fun h31 => ?_)
   ·
    have h31p := of_decide_eq_true h31
    refine W.skip (W.seq' (W.block (wR (wM v3 (wM (vI ↑j_) ?_)))))
    obtain ⟨x32, hx32⟩ := elem_of_lt (xs := delL l k) (i := j_) (by omega)
    refine wS (vQ v3 j_ 2) rfl (sX j_ Try.un27 Try.el108 rfl rfl hb13) (wP (vQ v3 j_ 2) (wS (vS x32.key) rfl (Step.loadE (k := 0) Try.sc9 (flat_ec (M.rep 0 rfl) hx32 hitE_len) (by decide) rfl rfl) (wM (vS k) (wP (vB (!(sLt x32.key k || x32.key.toList == k.toList))) (WL.nil ?_)))))
    refine W.cond (t := !(sLt x32.key k || x32.key.toList == k.toList)) rfl (fun h33 => ?_) (fun h33 => ?_)
    ·
     refine W.region rfl (wM accj_ (wM v3 (wM (vI ↑j_) (wS (vQ v3 j_ 2) rfl (sX j_ Try.un27 Try.el108 rfl rfl hb13) (wS (Value.agg #[(vS x32.key), (vI x32.val)]) rfl (Step.loadEN (k := 0) (cs' := [(vS x32.key), (vI x32.val)]) Try.ag108 (flat_ec (M.rep 0 rfl) hx32 hitE_len) (by decide) rfl rfl rfl) ?_)))))
     refine WL.new (obj := .cells #[(vS x32.key), (vI x32.val)] 108) (fun b => .slice (some ⟨b, 0, none⟩) 1 1) M rfl (fun w => Step.make (by kernel_rfl)) (fun b34 w35 hb34 M => ?_)
     refine WL.does rfl (M.appendF ((((delL l k).takeWhile fun a => sLt a.key k) ++ ([(⟨k, n⟩ : THit)] : List THit)) ++ ((delL l k).take j_).filter fun a => sLt k a.key) ([x32] : List THit) (sv := (Value.slice (some ⟨b34, 0, none⟩) 1 1)) 1 Try.un27 Try.el108 rfl (by decide) rfl rfl rfl (SlAt.of_blk (M.blk 0 rfl) rfl (by decide)) hitE_cel (by have := hac2; simp only [maxLen, List.length_nil, List.length_cons, List.length_append]; omega) (by have := hac2; (try simp only [List.length_nil, List.length_cons, List.length_append]); omega)) ?_
     rintro v36 w37 M
     have sl38 : IsSl v36 := SlAt.isSl (own_slAt (M.chunk 1 rfl).inv)
     refine wA v36 (WL.nil (W.region rfl (wM (vI ↑j_) (wS (vI (↑j_ + 1)) rfl (Step.add rfl rfl (wrap_i64 (by omega))) (wA (vI (↑j_ + 1)) ?_)))))
     refine WL.nil ?_
     replace M := M.rechunk 1 (c' := oQ v36 ((((delL l k).takeWhile fun a => sLt a.key k) ++ ([(⟨k, n⟩ : THit)] : List THit)) ++ ((delL l k).take (j_ + 1)).filter fun a => sLt k a.key)) rfl (by rw [filtY (p := fun a : THit => sLt k a.key) hx32 (by have h_ := h33; simpa [sGt, sLe] using h_), ← List.append_assoc])
     replace M := M.sel (L' := [oQ v36 ((((delL l k).takeWhile fun a => sLt a.key k) ++ ([(⟨k, n⟩ : THit)] : List THit)) ++ ((delL l k).take (j_ + 1)).filter fun a => sLt k a.key)]) [1] rfl (by decide)
     exact ⟨_, (by omega), j_ + 1, v36, ⟨(by omega), rfl⟩, ⟨rfl, rfl, rfl, rfl, rfl, rfl, rfl⟩, M⟩
    ·
     refine W.skip (W.region rfl (wM (vI ↑j_) (wS (vI (↑j_ + 1)) rfl (Step.add rfl rfl (wrap_i64 (by omega))) (wA (vI (↑j_ + 1)) (WL.nil ?_)))))
     replace M := M.rechunk 0 (c' := oQ accj_ ((((delL l k).takeWhile fun a => sLt a.key k) ++ ([(⟨k, n⟩ : THit)] : List THit)) ++ ((delL l k).take (j_ + 1)).filter fun a => sLt k a.key)) rfl (by rw [filtN (p := fun a : THit => sLt k a.key) hx32 (by have h_ := h33; simpa [sGt, sLe] using h_)])
     exact ⟨_, (by omega), j_ + 1, accj_, ⟨(by omega), rfl⟩, ⟨rfl, rfl, rfl, rfl, rfl, rfl, rfl⟩, M⟩
   ·
    have h31p := of_decide_eq_false h31
    refine W.exit ?_
    refine thn_exit ?_
    refine thn_exit ?_
    refine inBlk_hit ?_
    refine wR (wM accj_ (wA accj_ (WL.nil ?_)))
    refine W.ret ?_
    refine ⟨.inl rfl, accj_, ?_, ?_⟩
    · exact ⟨rfl, (Res.r1 (show RV _ _ _ (.tmp 6) accj_ from by exact rfl))⟩
    replace M := M.shareOwn 0 rfl
    have e39 : putR l (⟨k, n⟩ : THit) = ((((delL l k).takeWhile fun a => sLt a.key k) ++ ([(⟨k, n⟩ : THit)] : List THit)) ++ ((delL l k).take j_).filter fun a => sLt k a.key) := by
     unfold putR; rw [List.take_of_length_le (by omega)]; simp
    have hf40 := Sh.reList e39 (M.shr' 0 rfl)
    refine ⟨accj_, ?_, M.close [] rfl (by decide) ⟨hf40, trivial⟩⟩
    rfl
 ·
  have h12p := of_decide_eq_false h12
  rw [h12]
  refine WL.pass rfl ?_
  refine WL.pass rfl ?_
  refine WL.pass rfl ?_
  refine WL.pass rfl ?_
  refine WL.pass rfl ?_
  refine WL.pass rfl ?_
  refine WL.pass rfl ?_
  refine wS (vB false) rfl (Step.pick (t := false) rfl rfl) (WL.nil ?_)
  refine W.cond (t := false) rfl (fun h => by cases h) (fun _ => ?_)
  refine W.exit ?_
  refine thn_exit ?_
  refine thn_exit ?_
  refine inBlk_hit ?_
  refine W.seq' ?_
  replace M := M.rechunk 0 (c' := oQ acci_ ((delL l k).takeWhile fun a => sLt a.key k)) rfl (by rw [takeW_of (i := i_) (fun j u h1 h2 => by simpa using hi10 j u h1 h2) (.inl (by omega))])
  refine W.region rfl (wM acci_ (wM (vS k) (wM (vI n) (wP (Value.agg #[(vS k), (vI n)]) ?_))))
  refine WL.new (obj := .cells #[(vS k), (vI n)] 108) (fun b => .slice (some ⟨b, 0, none⟩) 1 1) M rfl (fun w => Step.make (by kernel_rfl)) (fun b41 w42 hb41 M => ?_)
  refine WL.does rfl (M.appendF ((delL l k).takeWhile fun a => sLt a.key k) ([(⟨k, n⟩ : THit)] : List THit) (sv := (Value.slice (some ⟨b41, 0, none⟩) 1 1)) 1 Try.un27 Try.el108 rfl (by decide) rfl rfl rfl (SlAt.of_blk (M.blk 0 rfl) rfl (by decide)) hitE_cel (by have := htw_; simp only [maxLen, List.length_nil, List.length_cons, List.length_append]; omega) (by have := htw_; (try simp only [List.length_nil, List.length_cons, List.length_append]); omega)) ?_
  rintro v43 w44 M
  have sl45 : IsSl v43 := SlAt.isSl (own_slAt (M.chunk 1 rfl).inv)
  refine wA v43 (WL.nil (W.seq' (wR (wA (vI 0) (WL.nil ?_)))))
  refine W.block ?_
  replace M := M.loseI 0
  replace M : Mem _ _ _ [oQ v43 (((delL l k).takeWhile fun a => sLt a.key k) ++ ([(⟨k, n⟩ : THit)] : List THit))] [fR v3 (delL l k), fR v l] _ := M
  replace M := M.rechunk 0 (c' := oQ v43 ((((delL l k).takeWhile fun a => sLt a.key k) ++ ([(⟨k, n⟩ : THit)] : List THit)) ++ ((delL l k).take 0).filter fun a => sLt k a.key)) rfl (by simp)
  replace M := M.sel (L' := [oQ v43 ((((delL l k).takeWhile fun a => sLt a.key k) ++ ([(⟨k, n⟩ : THit)] : List THit)) ++ ((delL l k).take 0).filter fun a => sLt k a.key)]) [0] rfl (by decide)
  refine W.loop (fun kk ρ w' => ∃ (j_ : Nat) (accj_ : Value), ((j_ ≤ (delL l k).length) ∧ kk = (delL l k).length - j_) ∧ ρ.has [(1, (vS k)), (6, vZ), (7, accj_), (8, v3), (10, (vI ↑j_))] ∧ Mem G (fun _ => False) w [oQ accj_ ((((delL l k).takeWhile fun a => sLt a.key k) ++ ([(⟨k, n⟩ : THit)] : List THit)) ++ ((delL l k).take j_).filter fun a => sLt k a.key)] [fR v3 (delL l k), fR v l]  w') _ ⟨0, _, ⟨(Nat.zero_le _), rfl⟩, ⟨rfl, rfl, rfl, rfl, rfl, rfl, rfl⟩, M⟩ ?_
  rintro _ ρ47 w46 ⟨j_, accj_, ⟨hi48, rfl⟩, hρ, M⟩
  obtain ⟨ρ47, rfl⟩ := hρ.know
  clear hρ
  have sl49 : IsSl accj_ := SlAt.isSl (own_slAt (M.chunk 0 rfl).inv)
  have hacf := Nat.le_trans (List.length_filter_le (fun a : THit => sLt k a.key) ((delL l k).take j_)) (by rw [List.length_take]; exact Nat.min_le_right ..)
  have hac2 : ((((delL l k).takeWhile fun a => sLt a.key k) ++ ([(⟨k, n⟩ : THit)] : List THit)) ++ ((delL l k).take j_).filter fun a => sLt k a.key).length ≤ 1000000 := by simp only [List.length_append, List.length_cons, List.length_nil]; omega
  refine W.seq' (wR (wM (vI ↑j_) (wM v3 (wS (vI (↑((delL l k).length))) rfl (Step.lenSl Try.un27 rfl (M.rep 0 rfl)) (wP (vB (decide ((↑j_ : Int) < (↑((delL l k).length) : Int)))) ?_)))))
  refine WL.nil ?_
  refine W.cond (t := decide ((↑j_ : Int) < (↑((delL l k).length) : Int))) rfl (fun h50 => ?_) (fun h50 => ?_)
  ·
   have h50p := of_decide_eq_true h50
   refine W.skip (W.seq' (W.block (wR (wM v3 (wM (vI ↑j_) ?_)))))
   obtain ⟨cap52, hb51⟩ := SlAt.base (M.rep 0 rfl) (by omega)
   obtain ⟨x53, hx53⟩ := elem_of_lt (xs := delL l k) (i := j_) (by omega)
   refine wS (vQ v3 j_ 2) rfl (sX j_ Try.un27 Try.el108 rfl rfl hb51) (wP (vQ v3 j_ 2) (wS (vS x53.key) rfl (Step.loadE (k := 0) Try.sc9 (flat_ec (M.rep 0 rfl) hx53 hitE_len) (by decide) rfl rfl) (wM (vS k) (wP (vB (!(sLt x53.key k || x53.key.toList == k.toList))) (WL.nil ?_)))))
   refine W.cond (t := !(sLt x53.key k || x53.key.toList == k.toList)) rfl (fun h54 => ?_) (fun h54 => ?_)
   ·
    refine W.region rfl (wM accj_ (wM v3 (wM (vI ↑j_) (wS (vQ v3 j_ 2) rfl (sX j_ Try.un27 Try.el108 rfl rfl hb51) (wS (Value.agg #[(vS x53.key), (vI x53.val)]) rfl (Step.loadEN (k := 0) (cs' := [(vS x53.key), (vI x53.val)]) Try.ag108 (flat_ec (M.rep 0 rfl) hx53 hitE_len) (by decide) rfl rfl rfl) ?_)))))
    refine WL.new (obj := .cells #[(vS x53.key), (vI x53.val)] 108) (fun b => .slice (some ⟨b, 0, none⟩) 1 1) M rfl (fun w => Step.make (by kernel_rfl)) (fun b55 w56 hb55 M => ?_)
    refine WL.does rfl (M.appendF ((((delL l k).takeWhile fun a => sLt a.key k) ++ ([(⟨k, n⟩ : THit)] : List THit)) ++ ((delL l k).take j_).filter fun a => sLt k a.key) ([x53] : List THit) (sv := (Value.slice (some ⟨b55, 0, none⟩) 1 1)) 1 Try.un27 Try.el108 rfl (by decide) rfl rfl rfl (SlAt.of_blk (M.blk 0 rfl) rfl (by decide)) hitE_cel (by have := hac2; simp only [maxLen, List.length_nil, List.length_cons, List.length_append]; omega) (by have := hac2; (try simp only [List.length_nil, List.length_cons, List.length_append]); omega)) ?_
    rintro v57 w58 M
    have sl59 : IsSl v57 := SlAt.isSl (own_slAt (M.chunk 1 rfl).inv)
    refine wA v57 (WL.nil (W.region rfl (wM (vI ↑j_) (wS (vI (↑j_ + 1)) rfl (Step.add rfl rfl (wrap_i64 (by omega))) (wA (vI (↑j_ + 1)) ?_)))))
    refine WL.nil ?_
    replace M := M.rechunk 1 (c' := oQ v57 ((((delL l k).takeWhile fun a => sLt a.key k) ++ ([(⟨k, n⟩ : THit)] : List THit)) ++ ((delL l k).take (j_ + 1)).filter fun a => sLt k a.key)) rfl (by rw [filtY (p := fun a : THit => sLt k a.key) hx53 (by have h_ := h54; simpa [sGt, sLe] using h_), ← List.append_assoc])
    replace M := M.sel (L' := [oQ v57 ((((delL l k).takeWhile fun a => sLt a.key k) ++ ([(⟨k, n⟩ : THit)] : List THit)) ++ ((delL l k).take (j_ + 1)).filter fun a => sLt k a.key)]) [1] rfl (by decide)
    exact ⟨_, (by omega), j_ + 1, v57, ⟨(by omega), rfl⟩, ⟨rfl, rfl, rfl, rfl, rfl, rfl, rfl⟩, M⟩
   ·
    refine W.skip (W.region rfl (wM (vI ↑j_) (wS (vI (↑j_ + 1)) rfl (Step.add rfl rfl (wrap_i64 (by omega))) (wA (vI (↑j_ + 1)) (WL.nil ?_)))))
    replace M := M.rechunk 0 (c' := oQ accj_ ((((delL l k).takeWhile fun a => sLt a.key k) ++ ([(⟨k, n⟩ : THit)] : List THit)) ++ ((delL l k).take (j_ + 1)).filter fun a => sLt k a.key)) rfl (by rw [filtN (p := fun a : THit => sLt k a.key) hx53 (by have h_ := h54; simpa [sGt, sLe] using h_)])
    exact ⟨_, (by omega), j_ + 1, accj_, ⟨(by omega), rfl⟩, ⟨rfl, rfl, rfl, rfl, rfl, rfl, rfl⟩, M⟩
  ·
   have h50p := of_decide_eq_false h50
   refine W.exit ?_
   refine thn_exit ?_
   refine thn_exit ?_
   refine inBlk_hit ?_
   refine wR (wM accj_ (wA accj_ (WL.nil ?_)))
   refine W.ret ?_
   refine ⟨.inl rfl, accj_, ?_, ?_⟩
   · exact ⟨rfl, (Res.r1 (show RV _ _ _ (.tmp 6) accj_ from by exact rfl))⟩
   replace M := M.shareOwn 0 rfl
   have e60 : putR l (⟨k, n⟩ : THit) = ((((delL l k).takeWhile fun a => sLt a.key k) ++ ([(⟨k, n⟩ : THit)] : List THit)) ++ ((delL l k).take j_).filter fun a => sLt k a.key) := by
    unfold putR; rw [List.take_of_length_le (by omega)]; simp
   have hf61 := Sh.reList e60 (M.shr' 0 rfl)
   refine ⟨accj_, ?_, M.close [] rfl (by decide) ⟨hf61, trivial⟩⟩
   rfl
end Go.Proofs
set_option maxRecDepth 100000
namespace Go.Proofs
open Go Tp
theorem Try.en18 : Enters Try.prog 18 := fun _ _ => by kernel_rfl
theorem Try.en19 : Enters Try.prog 19 := fun _ _ => by kernel_rfl
theorem Try.en39 : Enters Try.prog 39 := fun _ _ => by kernel_rfl
theorem Try.en60 : Enters Try.prog 60 := fun _ _ => by kernel_rfl
theorem Try.en72 : Enters Try.prog 72 := fun _ _ => by kernel_rfl
theorem Try.en78 : Enters Try.prog 78 := fun _ _ => by kernel_rfl
end Go.Proofs
set_option maxRecDepth 100000
namespace Go.Proofs
open Go Tp
theorem Try.en30 : Enters Try.prog 30 := fun _ _ => by kernel_rfl
end Go.Proofs
namespace Tp
open Go
structure Scn where
  frm : ByteArray
  to_ : ByteArray
  back : Bool
  at_ : ByteArray
  told : Bool
deriving DecidableEq, Inhabited
def withinS (s : Scn) (k : ByteArray) : Bool := !(sLt k s.frm) && (decide (s.to_ = sZ) || sLt k s.to_)
def leftB (s : Scn) (k : ByteArray) : Bool := withinS s k && (!s.told || (if s.back then sLt k s.at_ else sLt s.at_ k))
def startS (s : Scn) : ByteArray :=
  if !s.back && (!s.told || sLt s.at_ s.frm) then s.frm else if s.back && (!s.told || (!(decide (s.to_ = sZ)) && sLt s.to_ s.at_)) then s.to_ else s.at_
def insideS (s : Scn) : Bool := s.told && decide (startS s = s.at_)
def look1 (s : Scn) : Bool := s.back && !insideS s && decide (s.to_ = sZ)
def look2 (s : Scn) : Bool := s.back && !(look1 s)
def look3 (s : Scn) : Bool := !s.back && insideS s
def look4 (s : Scn) : Bool := !s.back && !insideS s
def restR (s : Scn) (row : List THit) : List THit := if s.back then (row.filter fun a => leftB s a.key).reverse else row.filter fun a => leftB s a.key
def headT (l : List THit) : THit × Bool := match l with | [] => noHit | a :: _ => (a, true)
def peekR (s : Scn) (row : List THit) : THit × Bool := headT (restR s row)
def nextR (s : Scn) (row : List THit) : Scn := if (peekR s row).2 then { s with at_ := (peekR s row).1.key, told := true } else s
def chkS (s : Scn) (h : THit × Bool) : THit × Bool := if h.2 && withinS s h.1.key then h else noHit
section
variable {s : Scn} {row l r : List THit} {p q : ByteArray → Bool} {a : THit} {k x y : ByteArray} {n : Nat}
theorem head_find (f : THit → Bool) : headT (l.filter f) = match l.find? f with | some a => (a, true) | none => noHit := by
  induction l with
  | nil => rfl
  | cons a l ih =>
    rw [List.filter_cons, List.find?_cons]
    cases f a <;> simp [headT, ih]
    exact ih
theorem peek_fwd (hb : s.back = false) : peekR s row = firstL row (leftB s) noHit := by
  unfold peekR restR firstL
  rw [hb, if_neg (by simp), head_find]
  cases List.find? (fun a => leftB s a.key) row <;> rfl
theorem peek_bwd (hb : s.back = true) : peekR s row = lastL row (leftB s) noHit := by
  unfold peekR restR lastL firstL
  rw [hb, if_pos rfl, ← List.filter_reverse, head_find]
  cases List.find? (fun a => leftB s a.key) row.reverse <;> rfl
theorem first_and (hu : upT row) (hq : ∀ x y, sLt x y = true → q y = true → q x = true) : firstL row (fun k => p k && q k) noHit = if (firstL row p noHit).2 && q (firstL row p noHit).1.key then firstL row p noHit else noHit := by
  induction row with
  | nil => rfl
  | cons a l ih =>
    have hu2 := upT_cons.1 hu
    by_cases hp : p a.key = true
    · rw [firstL_hit (z := a) hp]
      by_cases hqa : q a.key = true
      · rw [firstL_hit (z := a) (by simp [hp, hqa])]; simp [hqa]
      · rw [firstL_none (fun b hb => ?_)]
        · simp [hqa]
        · rcases List.mem_cons.1 hb with rfl | hb
          · simp [hqa]
          · have := hu2.1 b hb
            cases hqb : q b.key with
            | false => simp
            | true => exact absurd (hq _ _ this hqb) hqa
    · have hp : p a.key = false := by simpa using hp
      have e1 : firstL (a :: l) p noHit = firstL l p noHit := firstL_skip (P := [a]) fun b hb => by rw [List.mem_singleton.1 hb]; exact hp
      have e2 : firstL (a :: l) (fun k => p k && q k) noHit = firstL l (fun k => p k && q k) noHit := firstL_skip (P := [a]) fun b hb => by rw [List.mem_singleton.1 hb]; simp [hp]
      rw [e1, e2, ih hu2.2]
theorem last_and (hu : upT row) (hq : ∀ x y, sLt x y = true → q x = true → q y = true) : lastL row (fun k => p k && q k) noHit = if (lastL row p noHit).2 && q (lastL row p noHit).1.key then lastL row p noHit else noHit := by
  induction row with
  | nil => rfl
  | cons a l ih =>
    have hu2 := upT_cons.1 hu
    have e : ∀ f, lastL (a :: l) f noHit = lastL l f (lastL [a] f noHit) := fun f => lastL_app (P := [a])
    have one : ∀ f : ByteArray → Bool, lastL [a] f noHit = if f a.key then (a, true) else noHit := fun f => by
      unfold lastL firstL; cases h : f a.key <;> simp [h]
    have some_ : ∀ (f : ByteArray → Bool) (b : THit × Bool), lastL l f b = if (lastL l f noHit).2 then lastL l f noHit else b := fun f b => by
      unfold lastL firstL; cases l.reverse.find? (fun a => f a.key) <;> simp [noHit]
    have mem : (lastL l p noHit).2 = true → (lastL l p noHit).1 ∈ l := by
      unfold lastL firstL
      cases h : l.reverse.find? (fun a => p a.key) with
      | none => intro h2; cases h2
      | some z => intro _; exact List.mem_reverse.1 (List.mem_of_find?_eq_some h)
    rw [e, e, some_, some_ p, one, one, ih hu2.2]
    by_cases h2 : (lastL l p noHit).2 = true
    · rw [h2]
      have hlt := hu2.1 _ (mem h2)
      by_cases hq2 : q (lastL l p noHit).1.key = true
      · simp [hq2, h2]
      · have hqa : q a.key = false := by
          cases h : q a.key with
          | false => rfl
          | true => exact absurd (hq _ _ hlt h) hq2
        have hq2 : q (lastL l p noHit).1.key = false := by simpa using hq2
        rw [hq2, hqa]
        simp [show noHit.2 = false from rfl]
        intro _ h4; rw [hq2] at h4; cases h4
    · have h2 : (lastL l p noHit).2 = false := by simpa using h2
      rw [h2]
      cases hp : p a.key <;> simp [noHit, hp]
theorem chk_fwd (hb : s.back = false) (hu : upT row) (hp : ∀ k, p k = true → sLt k s.frm = false) (hl : ∀ k, leftB s k = (p k && (decide (s.to_ = sZ) || sLt k s.to_))) : peekR s row = chkS s (firstL row p noHit) := by
  rw [peek_fwd hb, show leftB s = fun k => p k && (decide (s.to_ = sZ) || sLt k s.to_) from funext hl, first_and hu (q := fun k => decide (s.to_ = sZ) || sLt k s.to_) (fun x y hxy hy => by
    simp only [Bool.or_eq_true] at hy ⊢
    exact hy.imp id fun h => sLt_trans hxy h)]
  unfold chkS
  cases h2 : (firstL row p noHit).2 with
  | false => rfl
  | true =>
    have : p (firstL row p noHit).1.key = true := by
      unfold firstL at h2 ⊢
      cases h : row.find? (fun a => p a.key) with
      | none => rw [h] at h2; cases h2
      | some z => exact List.find?_some (p := fun a : THit => p a.key) h
    unfold withinS
    rw [hp _ this]; simp
theorem chk_bwd (hb : s.back = true) (hu : upT row) (hp : ∀ k, p k = true → (decide (s.to_ = sZ) || sLt k s.to_) = true) (hl : ∀ k, leftB s k = (p k && !(sLt k s.frm))) : peekR s row = chkS s (lastL row p noHit) := by
  rw [peek_bwd hb, show leftB s = fun k => p k && !(sLt k s.frm) from funext hl, last_and hu (q := fun k => !(sLt k s.frm)) (upP_ge s.frm)]
  unfold chkS
  cases h2 : (lastL row p noHit).2 with
  | false => rfl
  | true =>
    have : p (lastL row p noHit).1.key = true := by
      unfold lastL firstL at h2 ⊢
      cases h : row.reverse.find? (fun a => p a.key) with
      | none => rw [h] at h2; cases h2
      | some z => exact List.find?_some (p := fun a : THit => p a.key) h
    unfold withinS
    rw [hp _ this]; simp
theorem sLt_ne_lt (h1 : sLt x y = false) (h2 : x ≠ y) : sLt y x = true := by
  cases h : sLt y x with
  | true => rfl
  | false => exact absurd (sLt_total h1 h) h2
theorem sLt_of_le (h1 : sLt x y = true) (h2 : sLt k y = false) : sLt x k = true := by
  by_cases e : y = k
  · rw [← e]; exact h1
  · exact sLt_trans h1 (sLt_ne_lt h2 fun h => e h.symm)
theorem start_fwd (hb : s.back = false) : startS s = if !s.told || sLt s.at_ s.frm then s.frm else s.at_ := by unfold startS; simp [hb]
theorem start_bwd (hb : s.back = true) : startS s = if !s.told || (!(decide (s.to_ = sZ)) && sLt s.to_ s.at_) then s.to_ else s.at_ := by unfold startS; simp [hb]
theorem look3_fact (h : look3 s = true) : s.back = false ∧ s.told = true ∧ startS s = s.at_ ∧ sLt s.at_ s.frm = false := by
  unfold look3 insideS at h
  simp only [Bool.and_eq_true, Bool.not_eq_true', decide_eq_true_eq] at h
  obtain ⟨h1, h2, h3⟩ := h
  refine ⟨h1, h2, h3, ?_⟩
  rw [start_fwd h1, h2] at h3
  cases h4 : sLt s.at_ s.frm with
  | false => rfl
  | true =>
    rw [h4] at h3
    simp at h3
    rw [h3, sLt_irrefl] at h4; cases h4
theorem look4_fact (h : look4 s = true) : s.back = false ∧ startS s = s.frm ∧ (s.told = true → sLt s.at_ s.frm = true) := by
  unfold look4 insideS at h
  simp only [Bool.and_eq_true, Bool.not_eq_true'] at h
  obtain ⟨h1, h2⟩ := h
  refine ⟨h1, ?_, fun ht => ?_⟩
  · rw [start_fwd h1] at h2 ⊢
    by_cases h3 : (!s.told || sLt s.at_ s.frm) = true
    · rw [if_pos h3]
    · rw [if_neg h3] at h2; simp at h3; rw [h3.1] at h2; simp at h2
  · rw [start_fwd h1, ht] at h2
    cases h4 : sLt s.at_ s.frm with
    | true => rfl
    | false => rw [h4] at h2; simp at h2
theorem look1_fact (h : look1 s = true) : s.back = true ∧ s.to_ = sZ ∧ s.told = false := by
  unfold look1 insideS at h
  simp only [Bool.and_eq_true, Bool.not_eq_true', decide_eq_true_eq] at h
  obtain ⟨⟨h1, h2⟩, h3⟩ := h
  refine ⟨h1, h3, ?_⟩
  rw [start_bwd h1, h3] at h2
  cases ht : s.told with
  | false => rfl
  | true => rw [ht] at h2; simp at h2
theorem look2_fact (h : look2 s = true) : s.back = true ∧ ((s.told = true ∧ startS s = s.at_ ∧ (s.to_ = sZ ∨ sLt s.to_ s.at_ = false)) ∨ (s.to_ ≠ sZ ∧ startS s = s.to_ ∧ (s.told = true → sLt s.to_ s.at_ = true))) := by
  unfold look2 look1 insideS at h
  simp only [Bool.and_eq_true, Bool.not_eq_true'] at h
  obtain ⟨h1, h2⟩ := h
  refine ⟨h1, ?_⟩
  rw [h1, start_bwd h1] at h2
  rw [start_bwd h1]
  cases ht : s.told <;> by_cases hz : s.to_ = sZ <;> cases hl : sLt s.to_ s.at_ <;> simp_all
theorem peek3 (hu : upT row) (h : look3 s = true) : peekR s row = chkS s (afterL row (startS s)) := by
  obtain ⟨h1, h2, h3, h4⟩ := look3_fact h
  rw [h3]
  refine chk_fwd h1 hu (p := fun x => sLt s.at_ x) (fun k hk => ?_) fun k => ?_
  · cases h5 : sLt k s.frm with
    | false => rfl
    | true => rw [sLt_trans hk h5] at h4; cases h4
  · unfold leftB withinS
    rw [h1, h2]
    cases h6 : sLt s.at_ k with
    | false => simp
    | true =>
      have : sLt k s.frm = false := by
        cases h5 : sLt k s.frm with
        | false => rfl
        | true => rw [sLt_trans h6 h5] at h4; cases h4
      simp [this]
theorem peek4 (hu : upT row) (h : look4 s = true) : peekR s row = chkS s (fromL row (startS s)) := by
  obtain ⟨h1, h2, h3⟩ := look4_fact h
  rw [h2]
  refine chk_fwd h1 hu (p := fun x => !(sLt x s.frm)) (fun k hk => by simpa using hk) fun k => ?_
  unfold leftB withinS
  rw [h1]
  cases h5 : sLt k s.frm with
  | true => simp
  | false =>
    cases ht : s.told with
    | false => simp
    | true => simp [sLt_of_le (h3 ht) h5]
theorem peek1 (hu : upT row) (h : look1 s = true) : peekR s row = chkS s (tailL row) := by
  obtain ⟨h1, h2, h3⟩ := look1_fact h
  refine chk_bwd h1 hu (p := fun _ => true) (fun k _ => by simp [h2]) fun k => ?_
  unfold leftB withinS; simp [h2, h3]
theorem peek2 (hu : upT row) (h : look2 s = true) : peekR s row = chkS s (beforeL row (startS s)) := by
  obtain ⟨h1, h2⟩ := look2_fact h
  rcases h2 with ⟨h2, h3, h4⟩ | ⟨h2, h3, h4⟩
  · rw [h3]
    have key : ∀ k, sLt k s.at_ = true → (decide (s.to_ = sZ) || sLt k s.to_) = true := fun k hk => by
      rcases h4 with h4 | h4
      · simp [h4]
      · have : sLt k s.to_ = true := sLt_of_le hk h4
        simp [this]
    refine chk_bwd h1 hu (p := fun x => sLt x s.at_) key fun k => ?_
    unfold leftB withinS
    rw [h1, h2]
    cases h6 : sLt k s.at_ with
    | false => simp
    | true => rw [key k h6]; simp
  · rw [h3]
    refine chk_bwd h1 hu (p := fun x => sLt x s.to_) (fun k hk => by simp [hk]) fun k => ?_
    unfold leftB withinS
    rw [h1]
    cases h6 : sLt k s.to_ with
    | false => simp [h2]
    | true =>
      cases ht : s.told with
      | false => simp
      | true => simp [sLt_trans h6 (h4 ht)]
theorem look_all (h1 : look1 s = false) (h2 : look2 s = false) (h3 : look3 s = false) : look4 s = true := by
  unfold look2 at h2; rw [h1] at h2
  unfold look3 at h3
  unfold look4
  cases hb : s.back <;> simp_all
theorem next_hit (h : (peekR s row).2 = true) : nextR s row = { s with at_ := (peekR s row).1.key, told := true } := if_pos h
theorem next_no (h : (peekR s row).2 = false) : nextR s row = s := if_neg (by simp [h])
theorem rest_up (hu : upT row) : upT (row.filter fun a => leftB s a.key) := hu.filter _
theorem left_next (ha : leftB s k = true) : leftB { s with at_ := k, told := true } x = ((if s.back then sLt x k else sLt k x) && leftB s x) := by
  obtain ⟨f, t, b, z, td⟩ := s
  unfold leftB withinS at *
  cases b with
  | false =>
    simp only [Bool.false_eq_true, if_false, Bool.not_true, Bool.false_or] at ha ⊢
    cases h : sLt k x with
    | false => simp
    | true =>
      cases td with
      | false => simp
      | true =>
        simp only [Bool.not_true, Bool.false_or, Bool.and_eq_true] at ha
        simp [sLt_trans ha.2 h]
  | true =>
    simp only [if_true, Bool.not_true, Bool.false_or] at ha ⊢
    cases h : sLt x k with
    | false => simp
    | true =>
      cases td with
      | false => simp
      | true =>
        simp only [Bool.not_true, Bool.false_or, Bool.and_eq_true] at ha
        simp [sLt_trans h ha.2]
theorem rest_next (hu : upT row) (h : restR s row = a :: r) : (peekR s row) = (a, true) ∧ restR (nextR s row) row = r := by
  have hp : peekR s row = (a, true) := by unfold peekR; rw [h]; rfl
  refine ⟨hp, ?_⟩
  have hm : a ∈ row.filter fun a => leftB s a.key := by
    have : a ∈ restR s row := by rw [h]; simp
    unfold restR at this
    split at this
    · exact List.mem_reverse.1 this
    · exact this
  have hla := (List.mem_filter.1 hm).2
  rw [next_hit (by rw [hp]), hp]
  have e : (row.filter fun b => leftB { s with at_ := a.key, told := true } b.key) = (row.filter fun b => leftB s b.key).filter fun b => if s.back then sLt b.key a.key else sLt a.key b.key := by
    rw [List.filter_filter]
    exact List.filter_congr fun b _ => left_next hla
  have hu2 := rest_up (s := s) hu
  unfold restR at h ⊢
  simp only at h ⊢
  rw [e]
  cases hb : s.back with
  | false =>
    rw [hb, if_neg (by simp)] at h
    rw [h] at hu2
    obtain ⟨h2, h3⟩ := upT_cons.1 hu2
    simp only [Bool.false_eq_true, if_false]
    rw [h, List.filter_cons, if_neg (by simp [sLt_irrefl])]
    exact List.filter_eq_self.2 fun b hb => h2 b hb
  | true =>
    rw [hb, if_pos rfl] at h
    have h' : (row.filter fun a => leftB s a.key) = r.reverse ++ [a] := by
      have := congrArg List.reverse h; rw [List.reverse_reverse, List.reverse_cons] at this; exact this
    rw [h'] at hu2
    have h2 := (upT_app.1 hu2).2.2
    simp only [if_true]
    rw [h', List.filter_append, List.filter_cons, if_neg (by simp [sLt_irrefl]), List.filter_nil, List.append_nil]
    rw [List.filter_eq_self.2 fun b hb => h2 b hb a (by simp), List.reverse_reverse]
def stepsN : Nat → Scn → List THit → Scn
  | 0, s, _ => s
  | n + 1, s, row => nextR (stepsN n s row) row
theorem steps_rest (hu : upT row) : ∀ n, restR (stepsN n s row) row = (restR s row).drop n
  | 0 => rfl
  | n + 1 => by
    have ih := steps_rest hu n
    show restR (nextR (stepsN n s row) row) row = _
    cases h : (restR s row).drop n with
    | nil =>
      rw [h] at ih
      rw [next_no (by unfold peekR; rw [ih]; rfl), ih, ← List.drop_drop, h]; rfl
    | cons a r =>
      rw [h] at ih
      rw [(rest_next hu ih).2, ← List.drop_drop, h]; rfl
theorem steps_peek (hu : upT row) (n : Nat) : peekR (stepsN n s row) row = headT ((restR s row).drop n) := by unfold peekR; rw [steps_rest hu]
theorem peek_some (hu : upT row) (h : (peekR (stepsN n s row) row).2 = true) : (restR s row)[n]? = some (peekR (stepsN n s row) row).1 := by
  rw [steps_peek hu] at h ⊢
  cases hd : (restR s row).drop n with
  | nil => rw [hd] at h; cases h
  | cons a r =>
    have : ((restR s row).drop n)[0]? = some a := by rw [hd]; rfl
    rw [List.getElem?_drop] at this
    simpa [headT] using this
theorem peek_none (hu : upT row) (h : (peekR (stepsN n s row) row).2 = false) : (restR s row).length ≤ n := by
  rw [steps_peek hu] at h
  cases hd : (restR s row).drop n with
  | nil => exact List.drop_eq_nil_iff.1 hd
  | cons a r => rw [hd] at h; cases h
theorem rest_le : (restR s row).length ≤ row.length := by
  unfold restR; split
  · rw [List.length_reverse]; exact List.length_filter_le _ _
  · exact List.length_filter_le _ _
def pageN (s : Scn) (row : List THit) (n : Int) : Nat := min n.toNat (restR s row).length
def pageL (s : Scn) (row : List THit) (n : Int) : List THit := (restR s row).take (pageN s row n)
def pageS (s : Scn) (row : List THit) (n : Int) : Scn := stepsN (pageN s row n) s row
def pageD (s : Scn) (row : List THit) (n : Int) : Bool := !(peekR (pageS s row n) row).2
end
end Tp
namespace Tp
open Go
section
variable {s : Scn} {row l : List THit} {k f t : ByteArray} {x : THit} {i n : Nat} {h : THit × Bool}
theorem chk_miss (h2 : h.2 = false) : chkS s h = noHit := by unfold chkS; rw [h2]; rfl
theorem chk_out (hw : withinS s h.1.key = false) : chkS s h = noHit := by unfold chkS; rw [hw, Bool.and_false]; rfl
theorem chk_in (h2 : h.2 = true) (hw : withinS s h.1.key = true) : chkS s h = h := by unfold chkS; rw [h2, hw]; rfl
theorem page_n {q : Int} (h1 : (n : Int) ≤ q ∨ n = 0) (h2 : n ≤ (restR s row).length) (h3 : q ≤ n ∨ (restR s row).length ≤ n) : pageN s row q = n := by unfold pageN; omega
theorem take_hit (hu : upT row) (h : (peekR (stepsN n s row) row).2 = true) : (restR s row).take (n + 1) = (restR s row).take n ++ [(peekR (stepsN n s row) row).1] := (take_snoc (peek_some hu h)).symm
theorem rest_lt (hu : upT row) (h : (peekR (stepsN n s row) row).2 = true) : n < (restR s row).length := (List.getElem?_eq_some_iff.1 (peek_some hu h)).1
end
end Tp
