/- Proved here: lemmas and walks on which the claim stands (part 5 of 6). No condition. -/
import Derived.Test.YtnlnpfpfggbheaaTn4
set_option linter.all false
set_option maxRecDepth 100000
namespace Go.Proofs
open Go Tp
theorem Try.en50 : Enters Try.prog 50 := fun _ _ => by kernel_rfl
theorem Try.en89 : Enters Try.prog 89 := fun _ _ => by kernel_rfl
theorem Try.en90 : Enters Try.prog 90 := fun _ _ => by kernel_rfl
theorem Try.en130 : Enters Try.prog 130 := fun _ _ => by kernel_rfl
set_option maxHeartbeats 4000000 in
theorem tr_join {G X : Nat → Prop} {w : World} (tb ab : Nat) (r : Handle) (fu : Bool) (ln : Int) (l : List RPlace) (S : Nat → Prop) (h : Handle) (i : Nat)  (hO : pairOk l h i) (M : Mem G X w [arenaC 143 145 S ab l] [bF tb #[(vP ab), (vI r.at_), (vI r.turn), (vB fu), (vI ln)] 94] w) : Rets Try.prog 120 #[(vP tb), (Value.agg #[(vI h.at_), (vI h.turn)]), (vI ↑i)] w fun r w' => ∃ (S' : Nat → Prop), r = undef ∧ Mem G X w [arenaC 143 145 S' ab (joinF l h i)] [] w' := by
 refine Rets.enter 106 _ Try.func120 rfl Try.ntmps120 Try.results120 (by simp) ?_
 obtain ⟨n, hn⟩ : ∃ n, (rget l h).1 = n := ⟨_, rfl⟩
 obtain ⟨hA, hty, hvl, hin_, hkn_⟩ := pairOk_n hO hn
 obtain ⟨ht1, ht2, ht3⟩ := hty
 refine wR ?_
 refine WL.box (v := (Value.agg #[(vI h.at_), (vI h.turn)])) (c := #[(vI h.at_), (vI h.turn)]) M rfl rfl rfl (fun b1 w2 hb1 M => ?_)
 refine WL.nil (wR (wM (vP tb) (wS (Value.agg #[(vI h.at_), (vI h.turn)]) rfl (Step.loadN Try.ag92 rfl (M.blk 0 rfl) (Nat.le_of_ble_eq_true rfl) rfl) ?_)))
 have fq := M.frm [arenaC 143 145 S ab l] [bk b1 #[(vI h.at_), (vI h.turn)] 92] [1, 0] rfl
 refine WL.callX rfl (tr_node tb ab r fu ln l S h (by assumption) n hn (M.eF fq ⟨(M.rF fq 0 rfl), trivial⟩)) (CallsF.func Try.en49 rfl) ?_
 rintro _ w6 ⟨kv3, dv4, vv5, rfl, m⟩
 replace M := M.lF fq m
 clear m
 have sl7 : IsSl kv3 := SlAt.isSl (own_slAt (Mem.chunk M 1 rfl).inv)
 have hle8 := SlAt.le' (own_slAt (Mem.chunk M 1 rfl).inv)
 have sl9 : IsSl dv4 := SlAt.isSl (own_slAt (Mem.chunk M 2 rfl).inv)
 have hle10 := SlAt.le' (own_slAt (Mem.chunk M 2 rfl).inv)
 have sl11 : IsSl vv5 := SlAt.isSl (own_slAt (Mem.chunk M 3 rfl).inv)
 have hle12 := SlAt.le' (own_slAt (Mem.chunk M 3 rfl).inv)
 refine WL.alloc (c := #[(vB false), vZ, vZ, vZ]) M rfl Try.el99.zero rfl (fun b13 w14 hb13 M => ?_)
 refine WL.store (v := (Value.agg #[(vB n.leaf), kv3, dv4, vv5])) (cs := [(vB n.leaf), kv3, dv4, vv5]) (c' := #[(vB n.leaf), kv3, dv4, vv5]) M 0 rfl rfl Try.el99.sized rfl rfl rfl rfl (Nat.le_of_ble_eq_true rfl) (cel_cons rfl (cel_cons (IsSl.cel sl7) (cel_cons (IsSl.cel sl9) (cel_cons (IsSl.cel sl11) cel_nil)))) rfl rfl (fun w15 M => ?_)
 refine WL.nil (W.seq' ?_)
 obtain ⟨cap17, hb16⟩ := SlAt.base (own_slAt (M.chunk 3 rfl).inv) (by omega)
 obtain ⟨x18, hx18⟩ := elem_of_lt (xs := n.kids) (i := i) (by omega)
 have hgd1_ : n.kids.getD i hdZero = x18 := by rw [List.getD_eq_getElem?_getD, hx18]; rfl
 obtain ⟨x22, hx22⟩ := elem_of_lt (xs := n.kids) (i := i + 1) (by omega)
 have hgd2_ : n.kids.getD (i + 1) hdZero = x22 := by rw [List.getD_eq_getElem?_getD, hx22]; rfl
 refine W.drawn M [0, 1, 2, 3, 4, 5, 6, 7, 8, 9, 10, 11, 12, 13, 14, 15, 16, 17, 18] [6, 14, 17, 18] [15, 16] _ _ (sY (sY (sY (sY (sY (sY sE)))))) (fun _ h => h) Try.mixed (by kernel_rfl) ?_
 refine tP (vP tb) rfl (fun w => (Step.move rfl)) ?_
 refine tP (Value.pointer (some ⟨b13, 2, none⟩)) rfl (fun w => sP) ?_
 refine tR dv4 rfl (fun A w M => (Step.load1 Try.sc96 rfl ((M.cell 1 rfl 2).trans rfl))) ?_
 refine tP (vI ↑i) rfl (fun w => (Step.move rfl)) ?_
 refine tP (vQ dv4 i 2) rfl (fun w => (sX i Try.un96 Try.el92 rfl rfl hb16)) ?_
 refine tR (Value.agg #[(vI x18.at_), (vI x18.turn)]) rfl (fun A w M => (Step.loadEN (k := 0) (cs' := [(vI x18.at_), (vI x18.turn)]) Try.ag92 (flat_ec (own_slAt (M.chunk 4 rfl).inv) hx18 handleE_len) (by decide) rfl rfl rfl)) ?_
 obtain ⟨na_, hna_⟩ : ∃ n, (rget l x18).1 = n := ⟨_, rfl⟩
 let Q : List Chunk := [bk b13 #[(vB n.leaf), kv3, dv4, vv5] 99, oS kv3 n.keys, oH dv4 n.kids, oI vv5 n.vals, bk b1 #[(vI h.at_), (vI h.turn)] 92]
 refine TW.callX (ι := Value × Value × Value) (fun jx v_ => v_ = (Value.agg #[(vB na_.leaf), jx.1, jx.2.1, jx.2.2])) (fun jx => [oS jx.1 na_.keys, oH jx.2.1 na_.kids, oI jx.2.2 na_.vals, bk b13 #[(vB n.leaf), kv3, dv4, vv5] 99, arenaC 143 145 S ab l, oS kv3 n.keys, oH dv4 n.kids, oI vv5 n.vals, bk b1 #[(vI h.at_), (vI h.turn)] 92]) (fun jx => [bF tb #[(vP ab), (vI r.at_), (vI r.turn), (vB fu), (vI ln)] 94]) rfl (by decide) rfl (fun jx => (sN (sN (sN (sY (sY (sY (sY (sY (sY sE)))))))))) (fun jx r h => h) (fun A w M => have fq := M.frm [arenaC 143 145 S ab l] (fl A :: Q) [2, 0, 1, 3, 4, 5, 6] rfl; Rets.mono (tr_node tb ab r fu ln l S x18 (by assumption) na_ hna_ (M.eF fq ⟨(M.rF fq 0 rfl), trivial⟩)) (fun v_ w_ ⟨kv44, dv45, vv46, e_, m⟩ => ⟨(kv44, dv45, vv46), e_, (M.lF fq m).sel [4, 1, 2, 3, 5, 0, 6, 7, 8, 9] rfl (by decide), fun b hb => M.kF fq m b hb⟩)) (fun w => CallsF.func Try.en49 rfl) (fun jx v hp hin => ?_)
 obtain ⟨kv44, dv45, vv46⟩ := jx
 replace hp := hp.symm; subst hp
 obtain ⟨_, _, hin⟩ := hin
 have sl47 : IsSl kv44 := SlAt.isSl (own_slAt (Mem.chunk hin 1 rfl).inv)
 have hle48 := SlAt.le' (own_slAt (Mem.chunk hin 1 rfl).inv)
 have sl49 : IsSl dv45 := SlAt.isSl (own_slAt (Mem.chunk hin 2 rfl).inv)
 have hle50 := SlAt.le' (own_slAt (Mem.chunk hin 2 rfl).inv)
 have sl51 : IsSl vv46 := SlAt.isSl (own_slAt (Mem.chunk hin 3 rfl).inv)
 have hle52 := SlAt.le' (own_slAt (Mem.chunk hin 3 rfl).inv)
 clear hin
 refine tP (vP tb) rfl (fun w => (Step.move rfl)) ?_
 refine tP (Value.pointer (some ⟨b13, 2, none⟩)) rfl (fun w => sP) ?_
 refine tR dv4 rfl (fun A w M => (Step.load1 Try.sc96 rfl ((M.cell 1 rfl 2).trans rfl))) ?_
 refine tP (vI ↑i) rfl (fun w => (Step.move rfl)) ?_
 refine tP (vI (↑(i + 1))) rfl (fun w => (Step.cast (congrArg (Value.int .i64) (show (↑i + 1 : Int) = ↑(i + 1) by omega)) (Step.add rfl rfl (wrap_i64 (by omega))))) ?_
 refine tP (vQ dv4 (i + 1) 2) rfl (fun w => (sX (i + 1) Try.un96 Try.el92 rfl rfl hb16)) ?_
 refine tR (Value.agg #[(vI x22.at_), (vI x22.turn)]) rfl (fun A w M => (Step.loadEN (k := 0) (cs' := [(vI x22.at_), (vI x22.turn)]) Try.ag92 (flat_ec (own_slAt (M.chunk 4 rfl).inv) hx22 handleE_len) (by decide) rfl rfl rfl)) ?_
 obtain ⟨nb_, hnb_⟩ : ∃ n, (rget l x22).1 = n := ⟨_, rfl⟩
 have hP := pairOk_at hO hn hgd1_ hgd2_ hna_ hnb_
 obtain ⟨hta1, hta2, hta3⟩ := hP.a_
 obtain ⟨htb1, htb2, htb3⟩ := hP.b_
 have hal_ := hP.al
 have hbl_ := hP.bl
 have ha1_ := hP.a1
 have hb1_ := hP.b1
 have hlfb_ := hP.lf
 let Q : List Chunk := [oS kv44 na_.keys, oH dv45 na_.kids, oI vv46 na_.vals, bk b13 #[(vB n.leaf), kv3, dv4, vv5] 99, oS kv3 n.keys, oH dv4 n.kids, oI vv5 n.vals, bk b1 #[(vI h.at_), (vI h.turn)] 92]
 refine TW.callX (ι := Value × Value × Value) (fun jx v_ => v_ = (Value.agg #[(vB nb_.leaf), jx.1, jx.2.1, jx.2.2])) (fun jx => [oS jx.1 nb_.keys, oH jx.2.1 nb_.kids, oI jx.2.2 nb_.vals, oS kv44 na_.keys, oH dv45 na_.kids, oI vv46 na_.vals, bk b13 #[(vB n.leaf), kv3, dv4, vv5] 99, arenaC 143 145 S ab l, oS kv3 n.keys, oH dv4 n.kids, oI vv5 n.vals, bk b1 #[(vI h.at_), (vI h.turn)] 92]) (fun jx => [bF tb #[(vP ab), (vI r.at_), (vI r.turn), (vB fu), (vI ln)] 94]) rfl (by decide) rfl (fun jx => (sN (sN (sN (sN (sN (sN (sY (sY (sY (sY (sY (sY sE))))))))))))) (fun jx r h => h) (fun A w M => have fq := M.frm [arenaC 143 145 S ab l] (fl A :: Q) [5, 0, 1, 2, 3, 4, 6, 7, 8, 9] rfl; Rets.mono (tr_node tb ab r fu ln l S x22 (by assumption) nb_ hnb_ (M.eF fq ⟨(M.rF fq 0 rfl), trivial⟩)) (fun v_ w_ ⟨kv53, dv54, vv55, e_, m⟩ => ⟨(kv53, dv54, vv55), e_, (M.lF fq m).sel [4, 1, 2, 3, 5, 6, 7, 8, 0, 9, 10, 11, 12] rfl (by decide), fun b hb => M.kF fq m b hb⟩)) (fun w => CallsF.func Try.en49 rfl) (fun jx v hp hin => ?_)
 obtain ⟨kv53, dv54, vv55⟩ := jx
 replace hp := hp.symm; subst hp
 obtain ⟨_, _, hin⟩ := hin
 have sl56 : IsSl kv53 := SlAt.isSl (own_slAt (Mem.chunk hin 1 rfl).inv)
 have hle57 := SlAt.le' (own_slAt (Mem.chunk hin 1 rfl).inv)
 have sl58 : IsSl dv54 := SlAt.isSl (own_slAt (Mem.chunk hin 2 rfl).inv)
 have hle59 := SlAt.le' (own_slAt (Mem.chunk hin 2 rfl).inv)
 have sl60 : IsSl vv55 := SlAt.isSl (own_slAt (Mem.chunk hin 3 rfl).inv)
 have hle61 := SlAt.le' (own_slAt (Mem.chunk hin 3 rfl).inv)
 clear hin
 refine TW.new (obj := .cells #[(vB false), vZ, vZ, vZ] 99) (fun b => .pointer (some ⟨b, 0, none⟩)) rfl (by decide) (by decide) rfl (fun w => Step.alloc Try.el99.zero) (fun b62 => ?_)
 refine TW.new (obj := .cells #[(vB false), vZ, vZ, vZ] 99) (fun b => .pointer (some ⟨b, 0, none⟩)) rfl (by decide) (by decide) rfl (fun w => Step.alloc Try.el99.zero) (fun b63 => ?_)
 refine TW.store (v := (Value.agg #[(vB na_.leaf), kv44, dv45, vv46])) (cs := [(vB na_.leaf), kv44, dv45, vv46]) (c' := #[(vB na_.leaf), kv44, dv45, vv46]) 1 rfl rfl (by decide) rfl Try.el99.sized rfl rfl rfl rfl (Nat.le_of_ble_eq_true rfl) (cel_cons rfl (cel_cons (IsSl.cel sl47) (cel_cons (IsSl.cel sl49) (cel_cons (IsSl.cel sl51) cel_nil)))) rfl rfl (sN (sN (sN (sN (sN (sN (sN (sN (sY (sY (sY (sY (sY (sY sE)))))))))))))) (fun r h => h) ?_
 refine TW.store (v := (Value.agg #[(vB nb_.leaf), kv53, dv54, vv55])) (cs := [(vB nb_.leaf), kv53, dv54, vv55]) (c' := #[(vB nb_.leaf), kv53, dv54, vv55]) 0 rfl rfl (by decide) rfl Try.el99.sized rfl rfl rfl rfl (Nat.le_of_ble_eq_true rfl) (cel_cons rfl (cel_cons (IsSl.cel sl56) (cel_cons (IsSl.cel sl58) (cel_cons (IsSl.cel sl60) cel_nil)))) rfl rfl (sN (sN (sN (sN (sN (sN (sN (sN (sY (sY (sY (sY (sY (sY sE)))))))))))))) (fun r h => h) ?_
 refine TW.done (fun w64 M => ?_)
 refine W.seq' ?_
 have hsh65 := SlAt.shp (own_slAt (M.chunk 10 rfl).inv)
 have hsh65c := hsh65
 obtain ⟨_, _, hsh65l, hsh65m⟩ := hsh65c
 have hsh66 := SlAt.shp (own_slAt (M.chunk 12 rfl).inv)
 have hsh66c := hsh66
 obtain ⟨_, _, hsh66l, hsh66m⟩ := hsh66c
 refine W.drawn2 M [0, 1, 2, 3, 4, 5, 6, 7, 8, 9, 12, 13, 14, 15, 16, 17, 18, 19, 20, 21, 10, 11, 24, 22, 23] [25, 26, 27] [11, 23, 25, 27] [10, 22] _ _ (sY (sY (sY (sY (sY (sY (sY (sY (sY (sY (sY (sY (sY (sY sE)))))))))))))) (fun _ h => h) Try.mixed (by kernel_rfl) ?_
 refine tP (Value.pointer (some ⟨b62, 1, none⟩)) rfl (fun w => sP) ?_
 refine tR kv44 rfl (fun A w M => (Step.load1 Try.sc22 rfl ((M.cell 2 rfl 1).trans rfl))) ?_
 refine tP (Value.pointer (some ⟨b13, 1, none⟩)) rfl (fun w => sP) ?_
 refine tR kv3 rfl (fun A w M => (Step.load1 Try.sc22 rfl ((M.cell 9 rfl 1).trans rfl))) ?_
 refine tP (vI ↑i) rfl (fun w => (Step.move rfl)) ?_
 refine tP (vI ↑i) rfl (fun w => (Step.move rfl)) ?_
 refine tP (vI (↑(i + 1))) rfl (fun w => (Step.cast (congrArg (Value.int .i64) (show (↑i + 1 : Int) = ↑(i + 1) by omega)) (Step.add rfl rfl (wrap_i64 (by omega))))) ?_
 refine tP (vSlice 1 i (i + 1) (vCap kv3) kv3) rfl (fun w => (Step.sliceLHP (l := i) (h := i + 1) Try.un22 Try.el9.sized rfl rfl (by omega) rfl (by omega) hsh65 (by omega) (by obtain ⟨_, _, _, _⟩ := hsh65; omega))) ?_
 refine tP (Value.pointer (some ⟨b63, 1, none⟩)) rfl (fun w => sP) ?_
 refine tR kv53 rfl (fun A w M => (Step.load1 Try.sc22 rfl ((M.cell 1 rfl 1).trans rfl))) ?_
 refine tP (Value.pointer (some ⟨b62, 3, none⟩)) rfl (fun w => sP) ?_
 refine tR vv46 rfl (fun A w M => (Step.load1 Try.sc97 rfl ((M.cell 2 rfl 3).trans rfl))) ?_
 refine tP (Value.pointer (some ⟨b13, 3, none⟩)) rfl (fun w => sP) ?_
 refine tR vv5 rfl (fun A w M => (Step.load1 Try.sc97 rfl ((M.cell 9 rfl 3).trans rfl))) ?_
 refine tP (vI ↑i) rfl (fun w => (Step.move rfl)) ?_
 refine tP (vI ↑i) rfl (fun w => (Step.move rfl)) ?_
 refine tP (vI (↑(i + 1))) rfl (fun w => (Step.cast (congrArg (Value.int .i64) (show (↑i + 1 : Int) = ↑(i + 1) by omega)) (Step.add rfl rfl (wrap_i64 (by omega))))) ?_
 refine tP (vSlice 1 i (i + 1) (vCap vv5) vv5) rfl (fun w => (Step.sliceLHP (l := i) (h := i + 1) Try.un97 Try.el3.sized rfl rfl (by omega) rfl (by omega) hsh66 (by omega) (by obtain ⟨_, _, _, _⟩ := hsh66; omega))) ?_
 refine tP (Value.pointer (some ⟨b63, 3, none⟩)) rfl (fun w => sP) ?_
 refine tR vv55 rfl (fun A w M => (Step.load1 Try.sc97 rfl ((M.cell 1 rfl 3).trans rfl))) ?_
 refine TW.new (obj := .cells #[kv44, (vSlice 1 i (i + 1) (vCap kv3) kv3), kv53] 22) (fun b => .slice (some ⟨b, 0, none⟩) 3 3) rfl (by decide) (by decide) rfl (fun w => (by obtain ⟨_, _, _, e⟩ := sl47; subst e; obtain ⟨_, _, _, e⟩ := (vSlice_sl (Shp.isSl hsh65)); rw [e]; obtain ⟨_, _, _, e⟩ := sl56; subst e; exact Step.make (by kernel_rfl))) (fun b95 => ?_)
 let Q : List Chunk := [bk b95 #[kv44, (vSlice 1 i (i + 1) (vCap kv3) kv3), kv53] 22, bk b63 #[(vB nb_.leaf), kv53, dv54, vv55] 99, bk b62 #[(vB na_.leaf), kv44, dv45, vv46] 99, oS kv53 nb_.keys, oH dv54 nb_.kids, oI vv55 nb_.vals, oS kv44 na_.keys, oH dv45 na_.kids, oI vv46 na_.vals, bk b13 #[(vB n.leaf), kv3, dv4, vv5] 99, arenaC 143 145 S ab l, oS kv3 n.keys, oH dv4 n.kids, oI vv5 n.vals, bk b1 #[(vI h.at_), (vI h.turn)] 92]
 refine TW.callX (ι := Value) (fun jx v_ => v_ = jx) (fun jx => oS jx (([na_.keys, (n.keys.drop i).take ((i + 1) - i), nb_.keys] : List (List ByteArray)).flatten) :: Q) (fun jx => [bF tb #[(vP ab), (vI r.at_), (vI r.turn), (vB fu), (vI ln)] 94]) rfl (by decide) rfl (fun jx => (sN (sN (sY (sY (sY (sY (sY (sY (sY (sY (sY (sY (sY (sY (sY (sY sE))))))))))))))))) (fun jx r h => h) (fun A w M => Rets.mono (concat_str (Value.slice (some ⟨b95, 0, none⟩) 3 3) ([na_.keys, (n.keys.drop i).take ((i + 1) - i), nb_.keys] : List (List ByteArray)) (by simp [sumL]; omega) (by simp) (M.enterW0 ⟨((((M.wideC0 1 rfl)).and (((M.wideC0 7 rfl).imp fun _ h => own_slAt h).and (((((M.wideC0 12 rfl).imp fun _ h => own_slAt h)).imp fun _ h => slat_sliceF strE_len (l := i) (h := i + 1) h (by omega) (by omega) (Nat.le_trans (by omega) (SlAt.cap h).1) (Nat.le_refl _)).and ((M.wideC0 4 rfl).imp fun _ h => own_slAt h)))).imp fun _ ⟨hb_, hq0_, hq1_, hq2_⟩ => repS_blk (SlsT 1 strE) (cs := [kv44, (vSlice 1 i (i + 1) (vCap kv3) kv3), kv53]) (xs := [na_.keys, (n.keys.drop i).take ((i + 1) - i), nb_.keys]) hb_ rfl (by decide) (repL_snoc (T := (SlsT 1 strE)) (new := [kv53]) (x := nb_.keys) (repL_snoc (T := (SlsT 1 strE)) (new := [(vSlice 1 i (i + 1) (vCap kv3) kv3)]) (x := (n.keys.drop i).take ((i + 1) - i)) (repL_snoc (T := (SlsT 1 strE)) (new := [kv44]) (x := na_.keys) repL_nil (⟨_, rfl, hq0_⟩ : slRep 1 strE _ _ _)) (⟨_, rfl, hq1_⟩ : slRep 1 strE _ _ _)) (⟨_, rfl, hq2_⟩ : slRep 1 strE _ _ _))), trivial⟩)) (fun v_ w_ ⟨v96, e_, m⟩ => ⟨v96, e_, (M.leaveW0 m).sel [1, 0, 2, 3, 4, 5, 6, 7, 8, 9, 10, 11, 12, 13, 14, 15, 16] rfl (by decide), fun b hb => M.k0F m b hb⟩)) (fun w => CallsF.func Try.en127 rfl) (fun v96 v hp hin => ?_)
 replace hp := hp.symm; subst hp
 obtain ⟨_, _, hin⟩ := hin
 have sl97 : IsSl v96 := SlAt.isSl (own_slAt (Mem.chunk hin 1 rfl).inv)
 have hle98 := SlAt.le' (own_slAt (Mem.chunk hin 1 rfl).inv)
 clear hin
 refine tP (Value.pointer (some ⟨b62, 1, none⟩)) rfl (fun w => sP) ?_
 refine TW.new (obj := .cells #[vv46, (vSlice 1 i (i + 1) (vCap vv5) vv5), vv55] 97) (fun b => .slice (some ⟨b, 0, none⟩) 3 3) rfl (by decide) (by decide) rfl (fun w => (by obtain ⟨_, _, _, e⟩ := sl51; subst e; obtain ⟨_, _, _, e⟩ := (vSlice_sl (Shp.isSl hsh66)); rw [e]; obtain ⟨_, _, _, e⟩ := sl60; subst e; exact Step.make (by kernel_rfl))) (fun b99 => ?_)
 let Q : List Chunk := [bk b99 #[vv46, (vSlice 1 i (i + 1) (vCap vv5) vv5), vv55] 97, oS v96 (([na_.keys, (n.keys.drop i).take ((i + 1) - i), nb_.keys] : List (List ByteArray)).flatten), bk b95 #[kv44, (vSlice 1 i (i + 1) (vCap kv3) kv3), kv53] 22, bk b63 #[(vB nb_.leaf), kv53, dv54, vv55] 99, bk b62 #[(vB na_.leaf), kv44, dv45, vv46] 99, oS kv53 nb_.keys, oH dv54 nb_.kids, oI vv55 nb_.vals, oS kv44 na_.keys, oH dv45 na_.kids, oI vv46 na_.vals, bk b13 #[(vB n.leaf), kv3, dv4, vv5] 99, arenaC 143 145 S ab l, oS kv3 n.keys, oH dv4 n.kids, oI vv5 n.vals, bk b1 #[(vI h.at_), (vI h.turn)] 92]
 refine TW.callX (ι := Value) (fun jx v_ => v_ = jx) (fun jx => oI jx (([na_.vals, (n.vals.drop i).take ((i + 1) - i), nb_.vals] : List (List Int)).flatten) :: Q) (fun jx => [bF tb #[(vP ab), (vI r.at_), (vI r.turn), (vB fu), (vI ln)] 94]) rfl (by decide) rfl (fun jx => (sN (sN (sN (sN (sY (sY (sY (sY (sY (sY (sY (sY (sY (sY (sY (sY (sY (sY sE))))))))))))))))))) (fun jx r h => h) (fun A w M => Rets.mono (concat_int (Value.slice (some ⟨b99, 0, none⟩) 3 3) ([na_.vals, (n.vals.drop i).take ((i + 1) - i), nb_.vals] : List (List Int)) (by simp [sumL]; omega) (by simp) (M.enterW0 ⟨((((M.wideC0 1 rfl)).and (((M.wideC0 11 rfl).imp fun _ h => own_slAt h).and (((((M.wideC0 16 rfl).imp fun _ h => own_slAt h)).imp fun _ h => slat_sliceF intE_len (l := i) (h := i + 1) h (by omega) (by omega) (Nat.le_trans (by omega) (SlAt.cap h).1) (Nat.le_refl _)).and ((M.wideC0 8 rfl).imp fun _ h => own_slAt h)))).imp fun _ ⟨hb_, hq0_, hq1_, hq2_⟩ => repS_blk (SlsT 1 intE) (cs := [vv46, (vSlice 1 i (i + 1) (vCap vv5) vv5), vv55]) (xs := [na_.vals, (n.vals.drop i).take ((i + 1) - i), nb_.vals]) hb_ rfl (by decide) (repL_snoc (T := (SlsT 1 intE)) (new := [vv55]) (x := nb_.vals) (repL_snoc (T := (SlsT 1 intE)) (new := [(vSlice 1 i (i + 1) (vCap vv5) vv5)]) (x := (n.vals.drop i).take ((i + 1) - i)) (repL_snoc (T := (SlsT 1 intE)) (new := [vv46]) (x := na_.vals) repL_nil (⟨_, rfl, hq0_⟩ : slRep 1 intE _ _ _)) (⟨_, rfl, hq1_⟩ : slRep 1 intE _ _ _)) (⟨_, rfl, hq2_⟩ : slRep 1 intE _ _ _))), trivial⟩)) (fun v_ w_ ⟨v100, e_, m⟩ => ⟨v100, e_, (M.leaveW0 m).sel [1, 0, 2, 3, 4, 5, 6, 7, 8, 9, 10, 11, 12, 13, 14, 15, 16, 17, 18] rfl (by decide), fun b hb => M.k0F m b hb⟩)) (fun w => CallsF.func Try.en128 rfl) (fun v100 v hp hin => ?_)
 replace hp := hp.symm; subst hp
 obtain ⟨_, _, hin⟩ := hin
 have sl101 : IsSl v100 := SlAt.isSl (own_slAt (Mem.chunk hin 1 rfl).inv)
 have hle102 := SlAt.le' (own_slAt (Mem.chunk hin 1 rfl).inv)
 clear hin
 refine TW.turn _ _ (sY (sY (sY (sY (sY (sN (sY (sY (sY (sY (sY (sY (sY (sY (sY (sY (sY (sY sE)))))))))))))))))) (fun _ h => h) ?_
 refine TW.store (v := v96) (cs := [v96]) (c' := #[(vB na_.leaf), v96, dv45, vv46]) 5 rfl rfl (by decide) rfl Try.el22.sized rfl rfl (IsSl.list sl97) rfl (Nat.le_of_ble_eq_true rfl) (cel_cons (IsSl.cel sl97) cel_nil) rfl rfl (sY (sY (sY (sY (sY (sN (sY (sY (sY (sY (sY (sY (sY (sY (sY (sY (sY (sY sE)))))))))))))))))) (fun r h => h) ?_
 refine tP (Value.pointer (some ⟨b62, 3, none⟩)) rfl (fun w => sP) ?_
 refine TW.store (v := v100) (cs := [v100]) (c' := #[(vB na_.leaf), v96, dv45, v100]) 5 rfl rfl (by decide) rfl Try.el97.sized rfl rfl (IsSl.list sl101) rfl (Nat.le_of_ble_eq_true rfl) (cel_cons (IsSl.cel sl101) cel_nil) rfl rfl (sY (sY (sY (sY (sY (sN (sY (sY (sY (sY (sY (sY (sY (sY (sY (sY (sY (sY sE)))))))))))))))))) (fun r h => h) ?_
 refine TW.done (fun w105 M => ?_)
 refine W.seq' ?_
 replace M := M.loseI 11
 replace M := M.loseI 9
 replace M := M.loseI 3
 replace M := M.loseI 1
 have hcat_keys : ([na_.keys, (n.keys.drop i).take ((i + 1) - i), nb_.keys] : List (List ByteArray)).flatten = na_.keys ++ ((n.keys.drop i).take 1 ++ nb_.keys) := by simp [Nat.add_sub_cancel_left]
 replace M := M.rechunk 1 (c' := oS v96 (na_.keys ++ ((n.keys.drop i).take 1 ++ nb_.keys))) rfl (by rw [hcat_keys])
 have hcl_keys : (na_.keys ++ ((n.keys.drop i).take 1 ++ nb_.keys)).length = na_.keys.length + (1 + nb_.keys.length) := by simp; try omega
 have hcat_vals : ([na_.vals, (n.vals.drop i).take ((i + 1) - i), nb_.vals] : List (List Int)).flatten = na_.vals ++ ((n.vals.drop i).take 1 ++ nb_.vals) := by simp [Nat.add_sub_cancel_left]
 replace M := M.rechunk 0 (c' := oI v100 (na_.vals ++ ((n.vals.drop i).take 1 ++ nb_.vals))) rfl (by rw [hcat_vals])
 have hcl_vals : (na_.vals ++ ((n.vals.drop i).take 1 ++ nb_.vals)).length = na_.vals.length + (1 + nb_.vals.length) := by simp; try omega
 refine W.region rfl (wP (Value.pointer (some ⟨b62, 2, none⟩)) (wS dv45 rfl (Step.load1 Try.sc96 rfl ((M.cell 3 rfl 2).trans rfl)) (wP (Value.pointer (some ⟨b63, 2, none⟩)) (wS dv54 rfl (Step.load1 Try.sc96 rfl ((M.cell 2 rfl 2).trans rfl)) ?_))))
 refine WL.new (obj := .cells #[dv45, dv54] 96) (fun b => .slice (some ⟨b, 0, none⟩) 2 2) M rfl (fun w => (by obtain ⟨_, _, _, e⟩ := sl49; subst e; obtain ⟨_, _, _, e⟩ := sl58; subst e; exact Step.make (by kernel_rfl))) (fun b106 w107 hb106 M => ?_)
 refine WL.callX rfl (concat_hdl (Value.slice (some ⟨b106, 0, none⟩) 2 2) ([na_.kids, nb_.kids] : List (List Handle)) (by simp [sumL]; omega) (by simp) (M.enterW0 ⟨((((M.wideC0 0 rfl)).and (((M.wideC0 8 rfl).imp fun _ h => own_slAt h).and ((M.wideC0 6 rfl).imp fun _ h => own_slAt h))).imp fun _ ⟨hb_, hq0_, hq1_⟩ => repS_blk (SlsT 2 handleE) (cs := [dv45, dv54]) (xs := [na_.kids, nb_.kids]) hb_ rfl (by decide) (repL_snoc (T := (SlsT 2 handleE)) (new := [dv54]) (x := nb_.kids) (repL_snoc (T := (SlsT 2 handleE)) (new := [dv45]) (x := na_.kids) repL_nil (⟨_, rfl, hq0_⟩ : slRep 2 handleE _ _ _)) (⟨_, rfl, hq1_⟩ : slRep 2 handleE _ _ _))), trivial⟩)) (CallsF.func Try.en129 rfl) ?_
 rintro v108 w109 ⟨_, rfl, m⟩
 replace M := M.leaveW0 m
 clear m
 have sl110 : IsSl v108 := SlAt.isSl (own_slAt (Mem.chunk M 0 rfl).inv)
 have hle111 := SlAt.le' (own_slAt (Mem.chunk M 0 rfl).inv)
 refine wP (Value.pointer (some ⟨b62, 2, none⟩)) ?_
 refine WL.store (v := v108) (cs := [v108]) (c' := #[(vB na_.leaf), v96, v108, v100]) M 5 rfl rfl Try.el96.sized rfl rfl (IsSl.list sl110) rfl (Nat.le_of_ble_eq_true rfl) (cel_cons (IsSl.cel sl110) cel_nil) rfl rfl (fun w112 M => ?_)
 refine WL.nil (W.seq' ?_)
 replace M := M.loseI 9
 replace M := M.loseI 8
 replace M := M.loseI 7
 replace M := M.loseI 6
 replace M := M.loseI 4
 replace M := M.loseI 1
 have hcat_kids : ([na_.kids, nb_.kids] : List (List Handle)).flatten = na_.kids ++ nb_.kids := by simp [Nat.add_sub_cancel_left]
 replace M := M.rechunk 0 (c' := oH v108 (na_.kids ++ nb_.kids)) rfl (by rw [hcat_kids])
 have hcl_kids : (na_.kids ++ nb_.kids).length = na_.kids.length + nb_.kids.length := by simp; try omega
 refine W.drawn M [0, 1, 2, 3, 4, 5, 6, 7] [7] [] _ _ (sY (sY (sY (sY (sY (sN (sY (sY (sY (sY sE)))))))))) (fun _ h => h) Try.mixed (by kernel_rfl) ?_
 refine tP (vP tb) rfl (fun w => (Step.move rfl)) ?_
 refine tP (Value.pointer (some ⟨b13, 2, none⟩)) rfl (fun w => sP) ?_
 refine tR dv4 rfl (fun A w M => (Step.load1 Try.sc96 rfl ((M.cell 5 rfl 2).trans rfl))) ?_
 refine tP (vI ↑i) rfl (fun w => (Step.move rfl)) ?_
 refine tP (vQ dv4 i 2) rfl (fun w => (sX i Try.un96 Try.el92 rfl rfl hb16)) ?_
 refine tR (Value.agg #[(vI x18.at_), (vI x18.turn)]) rfl (fun A w M => (Step.loadEN (k := 0) (cs' := [(vI x18.at_), (vI x18.turn)]) Try.ag92 (flat_ec (own_slAt (M.chunk 7 rfl).inv) hx18 handleE_len) (by decide) rfl rfl rfl)) ?_
 refine tR (Value.agg #[(vB na_.leaf), v96, v108, v100]) rfl (fun A w M => (Step.loadN Try.ag99 rfl (M.blk 4 rfl) (Nat.le_of_ble_eq_true rfl) rfl)) ?_
 let Q : List Chunk := [oH v108 (na_.kids ++ nb_.kids), oI v100 (na_.vals ++ ((n.vals.drop i).take 1 ++ nb_.vals)), oS v96 (na_.keys ++ ((n.keys.drop i).take 1 ++ nb_.keys)), bk b62 #[(vB na_.leaf), v96, v108, v100] 99, bk b13 #[(vB n.leaf), kv3, dv4, vv5] 99, oS kv3 n.keys, oH dv4 n.kids, oI vv5 n.vals, bk b1 #[(vI h.at_), (vI h.turn)] 92]
 refine TW.callX (ι := (Nat → Prop)) (fun jx v_ => v_ = undef) (fun jx => arenaC 143 145 jx ab ((rput l x18 (⟨na_.leaf, na_.keys ++ ((n.keys.drop i).take 1 ++ nb_.keys), na_.kids ++ nb_.kids, na_.vals ++ ((n.vals.drop i).take 1 ++ nb_.vals)⟩ : Nd)).1) :: Q) (fun jx => [bF tb #[(vP ab), (vI r.at_), (vI r.turn), (vB fu), (vI ln)] 94]) rfl (by decide) rfl (fun jx => (sN (sY (sY (sY (sY (sY (sY (sY (sY (sY sE))))))))))) (fun jx r h => h) (fun A w M => have fq := M.frm [arenaC 143 145 S ab l] (fl A :: Q) [6, 0, 1, 2, 3, 4, 5, 7, 8, 9, 10] rfl; Rets.mono (tr_put tb ab r fu ln l S x18 v96 v108 v100 (⟨na_.leaf, na_.keys ++ ((n.keys.drop i).take 1 ++ nb_.keys), na_.kids ++ nb_.kids, na_.vals ++ ((n.vals.drop i).take 1 ++ nb_.vals)⟩ : Nd) (by assumption) (by simp [insL] <;> omega) (by simp [insL] <;> omega) (by simp [insL] <;> omega) (M.eF fq ⟨(M.rF fq 0 rfl), ((M.cF fq 3 rfl).imp fun _ h => own_slAt h), ((M.cF fq 1 rfl).imp fun _ h => own_slAt h), ((M.cF fq 2 rfl).imp fun _ h => own_slAt h), trivial⟩)) (fun v_ w_ ⟨S115, e_, m⟩ => ⟨S115, e_, (M.lF fq m).sel [1, 0, 2, 3, 4, 5, 6, 7, 8, 9, 10] rfl (by decide), fun b hb => M.kF fq m b hb⟩)) (fun w => CallsF.func Try.en84 rfl) (fun S115 v hp hin => ?_)
 replace hp := hp.symm; subst hp
 obtain ⟨_, _, hin⟩ := hin
 clear hin
 refine TW.done (fun w116 M => ?_)
 refine W.seq' ?_
 replace M := M.loseI 4
 replace M := M.loseI 3
 replace M := M.loseI 2
 replace M := M.loseI 1
 obtain ⟨l1_, hl1_⟩ : ∃ q, ((rput l x18 (⟨na_.leaf, na_.keys ++ ((n.keys.drop i).take 1 ++ nb_.keys), na_.kids ++ nb_.kids, na_.vals ++ ((n.vals.drop i).take 1 ++ nb_.vals)⟩ : Nd)).1) = q := ⟨_, rfl⟩
 have hAl1_ : SmallA l1_ := by rw [← hl1_]; first | exact SmallA.put (by assumption) (by first | omega | (simp [insL] <;> omega)) (by first | omega | (simp [insL] <;> omega)) (by first | omega | (simp [insL] <;> omega)) | exact SmallA.free (by assumption)
 replace M := M.rechunk 0 (c' := arenaC 143 145 S115 ab l1_) rfl (by rw [hl1_])
 refine W.drawn M [0, 1, 2, 3, 4, 5, 6, 7, 8, 9, 10, 11] [11] [10] _ _ (sN (sY (sY (sY (sY (sY sE)))))) (fun _ h => h) Try.mixed (by kernel_rfl) ?_
 refine tP (vP tb) rfl (fun w => (Step.move rfl)) ?_
 refine tP (vP tb) rfl (fun w => sP) ?_
 refine tP (vP tb) rfl (fun w => sP) ?_
 refine tR (vP ab) rfl (fun A w M => (Step.load1 Try.sc90 rfl ((cell_blk (M.rep 0 rfl) 0).trans rfl))) ?_
 refine tP (Value.pointer (some ⟨b13, 2, none⟩)) rfl (fun w => sP) ?_
 refine tR dv4 rfl (fun A w M => (Step.load1 Try.sc96 rfl ((M.cell 1 rfl 2).trans rfl))) ?_
 refine tP (vI ↑i) rfl (fun w => (Step.move rfl)) ?_
 refine tP (vI (↑(i + 1))) rfl (fun w => (Step.cast (congrArg (Value.int .i64) (show (↑i + 1 : Int) = ↑(i + 1) by omega)) (Step.add rfl rfl (wrap_i64 (by omega))))) ?_
 refine tP (vQ dv4 (i + 1) 2) rfl (fun w => (sX (i + 1) Try.un96 Try.el92 rfl rfl hb16)) ?_
 refine tR (Value.agg #[(vI x22.at_), (vI x22.turn)]) rfl (fun A w M => (Step.loadEN (k := 0) (cs' := [(vI x22.at_), (vI x22.turn)]) Try.ag92 (flat_ec (own_slAt (M.chunk 3 rfl).inv) hx22 handleE_len) (by decide) rfl rfl rfl)) ?_
 refine TW.new (obj := .cells #[(vI x22.at_), (vI x22.turn)] 92) (fun b => .slice (some ⟨b, 0, none⟩) 1 1) rfl (by decide) (by decide) rfl (fun w => Step.make (by kernel_rfl)) (fun b123 => ?_)
 let Q : List Chunk := [bk b123 #[(vI x22.at_), (vI x22.turn)] 92, bk b13 #[(vB n.leaf), kv3, dv4, vv5] 99, oS kv3 n.keys, oH dv4 n.kids, oI vv5 n.vals, bk b1 #[(vI h.at_), (vI h.turn)] 92]
 refine TW.callX (ι := (Nat → Prop)) (fun jx v_ => v_ = (vI ((rfree l1_ ([x22] : List Handle)).2))) (fun jx => arenaC 143 145 jx ab ((rfree l1_ ([x22] : List Handle)).1) :: Q) (fun jx => [bF tb #[(vP ab), (vI r.at_), (vI r.turn), (vB fu), (vI ln)] 94]) rfl (by decide) rfl (fun jx => (sN (sN (sY (sY (sY (sY (sY sE)))))))) (fun jx r h => h) (fun A w M => have fq := M.frm [arenaC 143 145 S115 ab l1_] (fl A :: Q) [2, 0, 1, 3, 4, 5, 6, 7] rfl; Rets.mono (ar_free ab l1_ S115 (Value.slice (some ⟨b123, 0, none⟩) 1 1) ([x22] : List Handle) (by assumption) (M.eF fq ⟨((M.cF fq 1 rfl).imp fun _ h => SlAt.of_blk (n := 1) (size := 2) h rfl (by decide)), trivial⟩)) (fun v_ w_ ⟨S124, e_, m⟩ => ⟨S124, e_, (M.lF fq m).sel [1, 0, 2, 3, 4, 5, 6, 7] rfl (by decide), fun b hb => M.kF fq m b hb⟩)) (fun w => CallsF.func Try.en50 rfl) (fun S124 v hp hin => ?_)
 replace hp := hp.symm; subst hp
 obtain ⟨_, _, hin⟩ := hin
 clear hin
 refine TW.done (fun w125 M => ?_)
 refine W.seq' ?_
 replace M := M.loseI 1
 obtain ⟨l2_, hl2_⟩ : ∃ q, ((rfree l1_ ([x22] : List Handle)).1) = q := ⟨_, rfl⟩
 have hAl2_ : SmallA l2_ := by rw [← hl2_]; first | exact SmallA.put (by assumption) (by first | omega | (simp [insL] <;> omega)) (by first | omega | (simp [insL] <;> omega)) (by first | omega | (simp [insL] <;> omega)) | exact SmallA.free (by assumption)
 replace M := M.rechunk 0 (c' := arenaC 143 145 S124 ab l2_) rfl (by rw [hl2_])
 refine W.drawn2 M [0, 1, 2, 3, 4, 5, 6, 7, 8, 9, 10, 11, 12, 13, 14, 15, 16, 17, 18, 19] [20, 21, 22, 23, 24] [5, 11, 18, 20, 22, 24] [] _ _ (sY (sY (sN (sN (sN (sY sE)))))) (fun _ h => h) Try.mixed (by kernel_rfl) ?_
 refine tP (Value.pointer (some ⟨b13, 1, none⟩)) rfl (fun w => sP) ?_
 refine tR kv3 rfl (fun A w M => (Step.load1 Try.sc22 rfl ((M.cell 2 rfl 1).trans rfl))) ?_
 refine tP (vI ↑i) rfl (fun w => (Step.move rfl)) ?_
 refine tP (vI ↑i) rfl (fun w => (Step.move rfl)) ?_
 refine tP (vI (↑(i + 1))) rfl (fun w => (Step.cast (congrArg (Value.int .i64) (show (↑i + 1 : Int) = ↑(i + 1) by omega)) (Step.add rfl rfl (wrap_i64 (by omega))))) ?_
 let Q : List Chunk := [arenaC 143 145 S124 ab l2_, bk b13 #[(vB n.leaf), kv3, dv4, vv5] 99, oH dv4 n.kids, oI vv5 n.vals, bk b1 #[(vI h.at_), (vI h.turn)] 92]
 refine TW.callX (ι := Value) (fun jx v_ => v_ = jx) (fun jx => oS jx (n.keys.take (Int.toNat ↑i) ++ n.keys.drop (Int.toNat (↑(i + 1)))) :: Q) (fun jx => [bF tb #[(vP ab), (vI r.at_), (vI r.turn), (vB fu), (vI ln)] 94]) rfl (by decide) rfl (fun jx => (sN (sY (sY (sN (sN (sY sE))))))) (fun jx r h => h) (fun A w M => have fq := M.frm [oS kv3 n.keys] (fl A :: Q) [3, 0, 1, 2, 4, 5, 6] rfl; Rets.mono (delete_str kv3 n.keys ↑i (↑(i + 1)) (by omega) (M.eF fq trivial)) (fun v_ w_ ⟨v144, e_, m⟩ => ⟨v144, e_, (M.lF fq m).sel [1, 0, 2, 3, 4, 5, 6] rfl (by decide), fun b hb => M.kF fq m b hb⟩)) (fun w => CallsF.func Try.en89 rfl) (fun v144 v hp hin => ?_)
 replace hp := hp.symm; subst hp
 obtain ⟨_, _, hin⟩ := hin
 have sl145 : IsSl v144 := SlAt.isSl (own_slAt (Mem.chunk hin 1 rfl).inv)
 have hle146 := SlAt.le' (own_slAt (Mem.chunk hin 1 rfl).inv)
 clear hin
 refine tP (Value.pointer (some ⟨b13, 3, none⟩)) rfl (fun w => sP) ?_
 refine tR vv5 rfl (fun A w M => (Step.load1 Try.sc97 rfl ((M.cell 2 rfl 3).trans rfl))) ?_
 refine tP (vI ↑i) rfl (fun w => (Step.move rfl)) ?_
 refine tP (vI ↑i) rfl (fun w => (Step.move rfl)) ?_
 refine tP (vI (↑(i + 1))) rfl (fun w => (Step.cast (congrArg (Value.int .i64) (show (↑i + 1 : Int) = ↑(i + 1) by omega)) (Step.add rfl rfl (wrap_i64 (by omega))))) ?_
 let Q : List Chunk := [oS v144 (n.keys.take (Int.toNat ↑i) ++ n.keys.drop (Int.toNat (↑(i + 1)))), arenaC 143 145 S124 ab l2_, bk b13 #[(vB n.leaf), kv3, dv4, vv5] 99, oH dv4 n.kids, bk b1 #[(vI h.at_), (vI h.turn)] 92]
 refine TW.callX (ι := Value) (fun jx v_ => v_ = jx) (fun jx => oI jx (n.vals.take (Int.toNat ↑i) ++ n.vals.drop (Int.toNat (↑(i + 1)))) :: Q) (fun jx => [bF tb #[(vP ab), (vI r.at_), (vI r.turn), (vB fu), (vI ln)] 94]) rfl (by decide) rfl (fun jx => (sN (sN (sY (sY (sN (sY sE))))))) (fun jx r h => h) (fun A w M => have fq := M.frm [oI vv5 n.vals] (fl A :: Q) [5, 0, 1, 2, 3, 4, 6] rfl; Rets.mono (delete_int vv5 n.vals ↑i (↑(i + 1)) (by omega) (M.eF fq trivial)) (fun v_ w_ ⟨v147, e_, m⟩ => ⟨v147, e_, (M.lF fq m).sel [1, 0, 2, 3, 4, 5, 6] rfl (by decide), fun b hb => M.kF fq m b hb⟩)) (fun w => CallsF.func Try.en90 rfl) (fun v147 v hp hin => ?_)
 replace hp := hp.symm; subst hp
 obtain ⟨_, _, hin⟩ := hin
 have sl148 : IsSl v147 := SlAt.isSl (own_slAt (Mem.chunk hin 1 rfl).inv)
 have hle149 := SlAt.le' (own_slAt (Mem.chunk hin 1 rfl).inv)
 clear hin
 refine tP (Value.pointer (some ⟨b13, 2, none⟩)) rfl (fun w => sP) ?_
 refine tR dv4 rfl (fun A w M => (Step.load1 Try.sc96 rfl ((M.cell 2 rfl 2).trans rfl))) ?_
 refine tP (vI ↑i) rfl (fun w => (Step.move rfl)) ?_
 refine tP (vI (↑(i + 1))) rfl (fun w => (Step.cast (congrArg (Value.int .i64) (show (↑i + 1 : Int) = ↑(i + 1) by omega)) (Step.add rfl rfl (wrap_i64 (by omega))))) ?_
 refine tP (vI ↑i) rfl (fun w => (Step.move rfl)) ?_
 refine tP (vI (↑(i + 2))) rfl (fun w => (Step.cast (congrArg (Value.int .i64) (show (↑i + 2 : Int) = ↑(i + 2) by omega)) (Step.add rfl rfl (wrap_i64 (by omega))))) ?_
 let Q : List Chunk := [oI v147 (n.vals.take (Int.toNat ↑i) ++ n.vals.drop (Int.toNat (↑(i + 1)))), oS v144 (n.keys.take (Int.toNat ↑i) ++ n.keys.drop (Int.toNat (↑(i + 1)))), arenaC 143 145 S124 ab l2_, bk b13 #[(vB n.leaf), kv3, dv4, vv5] 99, bk b1 #[(vI h.at_), (vI h.turn)] 92]
 refine TW.callX (ι := Value) (fun jx v_ => v_ = jx) (fun jx => oH jx (n.kids.take (Int.toNat (↑(i + 1))) ++ n.kids.drop (Int.toNat (↑(i + 2)))) :: Q) (fun jx => [bF tb #[(vP ab), (vI r.at_), (vI r.turn), (vB fu), (vI ln)] 94]) rfl (by decide) rfl (fun jx => (sN (sN (sN (sY (sY (sY sE))))))) (fun jx r h => h) (fun A w M => have fq := M.frm [oH dv4 n.kids] (fl A :: Q) [5, 0, 1, 2, 3, 4, 6] rfl; Rets.mono (delete_hdl dv4 n.kids (↑(i + 1)) (↑(i + 2)) (by omega) (M.eF fq trivial)) (fun v_ w_ ⟨v150, e_, m⟩ => ⟨v150, e_, (M.lF fq m).sel [1, 0, 2, 3, 4, 5, 6] rfl (by decide), fun b hb => M.kF fq m b hb⟩)) (fun w => CallsF.func Try.en130 rfl) (fun v150 v hp hin => ?_)
 replace hp := hp.symm; subst hp
 obtain ⟨_, _, hin⟩ := hin
 have sl151 : IsSl v150 := SlAt.isSl (own_slAt (Mem.chunk hin 1 rfl).inv)
 have hle152 := SlAt.le' (own_slAt (Mem.chunk hin 1 rfl).inv)
 clear hin
 refine tP (Value.pointer (some ⟨b13, 1, none⟩)) rfl (fun w => sP) ?_
 refine TW.turn _ _ (sY (sY (sY (sY (sN (sY sE)))))) (fun _ h => h) ?_
 refine TW.store (v := v144) (cs := [v144]) (c' := #[(vB n.leaf), v144, dv4, vv5]) 4 rfl rfl (by decide) rfl Try.el22.sized rfl rfl (IsSl.list sl145) rfl (Nat.le_of_ble_eq_true rfl) (cel_cons (IsSl.cel sl145) cel_nil) rfl rfl (sY (sY (sY (sY (sN (sY sE)))))) (fun r h => h) ?_
 refine tP (Value.pointer (some ⟨b13, 3, none⟩)) rfl (fun w => sP) ?_
 refine TW.store (v := v147) (cs := [v147]) (c' := #[(vB n.leaf), v144, dv4, v147]) 4 rfl rfl (by decide) rfl Try.el97.sized rfl rfl (IsSl.list sl148) rfl (Nat.le_of_ble_eq_true rfl) (cel_cons (IsSl.cel sl148) cel_nil) rfl rfl (sY (sY (sY (sY (sN (sY sE)))))) (fun r h => h) ?_
 refine tP (Value.pointer (some ⟨b13, 2, none⟩)) rfl (fun w => sP) ?_
 refine TW.store (v := v150) (cs := [v150]) (c' := #[(vB n.leaf), v144, v150, v147]) 4 rfl rfl (by decide) rfl Try.el96.sized rfl rfl (IsSl.list sl151) rfl (Nat.le_of_ble_eq_true rfl) (cel_cons (IsSl.cel sl151) cel_nil) rfl rfl (sY (sY (sY (sY (sN (sY sE)))))) (fun r h => h) ?_
 refine TW.done (fun w156 M => ?_)
 refine W.region rfl (wM (vP tb) (wS (Value.agg #[(vI h.at_), (vI h.turn)]) rfl (Step.loadN Try.ag92 rfl (M.blk 5 rfl) (Nat.le_of_ble_eq_true rfl) rfl) (wS (Value.agg #[(vB n.leaf), v144, v150, v147]) rfl (Step.loadN Try.ag99 rfl (M.blk 4 rfl) (Nat.le_of_ble_eq_true rfl) rfl) ?_)))
 have fq := M.frm [arenaC 143 145 S124 ab l2_] [oH v150 (n.kids.take (Int.toNat (↑(i + 1))) ++ n.kids.drop (Int.toNat (↑(i + 2)))), oI v147 (n.vals.take (Int.toNat ↑i) ++ n.vals.drop (Int.toNat (↑(i + 1)))), oS v144 (n.keys.take (Int.toNat ↑i) ++ n.keys.drop (Int.toNat (↑(i + 1)))), bk b13 #[(vB n.leaf), v144, v150, v147] 99, bk b1 #[(vI h.at_), (vI h.turn)] 92] [3, 0, 1, 2, 4, 5] rfl
 refine WL.callX rfl (tr_put tb ab r fu ln l2_ S124 h v144 v150 v147 (⟨n.leaf, n.keys.take (Int.toNat ↑i) ++ n.keys.drop (Int.toNat (↑(i + 1))), n.kids.take (Int.toNat (↑(i + 1))) ++ n.kids.drop (Int.toNat (↑(i + 2))), n.vals.take (Int.toNat ↑i) ++ n.vals.drop (Int.toNat (↑(i + 1)))⟩ : Nd) (by assumption) (by simp [insL] <;> omega) (by simp [insL] <;> omega) (by simp [insL] <;> omega) (M.eF fq ⟨(M.rF fq 0 rfl), ((M.cF fq 2 rfl).imp fun _ h => own_slAt h), ((M.cF fq 0 rfl).imp fun _ h => own_slAt h), ((M.cF fq 1 rfl).imp fun _ h => own_slAt h), trivial⟩)) (CallsF.func Try.en84 rfl) ?_
 rintro _ w158 ⟨S157, rfl, m⟩
 replace M := M.lF fq m
 clear m
 refine WL.nil ?_
 refine ⟨.inr rfl, undef, ?_, ?_⟩
 · exact ⟨rfl, Res.none⟩
 have e159 : (joinF l h i) = (rput l2_ h (⟨n.leaf, n.keys.take (Int.toNat ↑i) ++ n.keys.drop (Int.toNat (↑(i + 1))), n.kids.take (Int.toNat (↑(i + 1))) ++ n.kids.drop (Int.toNat (↑(i + 2))), n.vals.take (Int.toNat ↑i) ++ n.vals.drop (Int.toNat (↑(i + 1)))⟩ : Nd)).1 := by
  rw [joinF_eq hn hgd1_ hgd2_ hna_ hnb_]
  subst hl2_
  subst hl1_
  try simp only [drop_rest]
  have h2i_ : ((i : Int) + 2).toNat = i + 2 := by omega
  simp [List.eraseIdx_eq_take_drop_succ, h2i_, hx18, hx22]
 replace M := M.rechunk 0 (c' := arenaC 143 145 S157 ab (joinF l h i)) rfl (congrArg (fun z => arenaC 143 145 S157 ab z) e159.symm)
 refine ⟨S157, ?_, M.close [0] rfl (by decide) trivial⟩
 rfl
end Go.Proofs
set_option maxRecDepth 100000
namespace Go.Proofs
open Go Tp
theorem Try.en118 : Enters Try.prog 118 := fun _ _ => by kernel_rfl
theorem Try.en119 : Enters Try.prog 119 := fun _ _ => by kernel_rfl
theorem Try.en120 : Enters Try.prog 120 := fun _ _ => by kernel_rfl
theorem Try.sc26 : Scal Try.prog 26 := fun _ => by kernel_rfl
theorem tr_rich {G X : Nat → Prop} {w : World} (j : Int) (nb : Nat) (kv : Value) (dv : Value) (vv : Value) (n : Nd) (qb : Nat) (tb ab : Nat) (r : Handle) (fu : Bool) (ln : Int) (l : List RPlace) (S : Nat → Prop)  (hA : SmallA l) (M : Mem G X w [arenaC 143 145 S ab l] [bF nb #[(vB n.leaf), kv, dv, vv] 99, fS kv n.keys, fH dv n.kids, fI vv n.vals, bF qb #[(vP tb)] 26, bF tb #[(vP ab), (vI r.at_), (vI r.turn), (vB fu), (vI ln)] 94] w) : Rets Try.prog 118 #[(vI j), (vP nb), (vP qb)] w fun r w' => r = (vB (richF l n j)) ∧ Mem G X w [arenaC 143 145 S ab l] [] w' := by
 refine Rets.enter 26 _ Try.func118 rfl Try.ntmps118 Try.results118 (by simp) ?_
 have hle1 := SlAt.le' (M.rep 1 rfl)
 have hle2 := SlAt.le' (M.rep 2 rfl)
 have hle3 := SlAt.le' (M.rep 3 rfl)
 have sl4 : IsSl kv := SlAt.isSl (Mem.rep M 1 rfl)
 have sl5 : IsSl dv := SlAt.isSl (Mem.rep M 2 rfl)
 have sl6 : IsSl vv := SlAt.isSl (Mem.rep M 3 rfl)
 refine wR (wA (vB false) (WL.nil (W.seq' ?_)))
 rcases Bool.eq_false_or_eq_true (decide ((j : Int) ≥ (0 : Int))) with h7 | h7
 ·
  have h7p := of_decide_eq_true h7
  rcases Bool.eq_false_or_eq_true (decide ((j : Int) < (↑n.kids.length : Int))) with h8 | h8
  ·
   have h8p := of_decide_eq_true h8
   obtain ⟨cap10, hb9⟩ := SlAt.base (M.rep 2 rfl) (by omega)
   obtain ⟨x11, hx11⟩ := elem_of_lt (xs := n.kids) (i := j.toNat) (by omega)
   have hgd1_ : n.kids.getD j.toNat hdZero = x11 := by rw [List.getD_eq_getElem?_getD, hx11]; rfl
   refine W.drawn M [0, 1, 2, 3, 4, 5, 6, 7, 8, 9, 10, 11, 12, 13, 14, 15, 16, 17, 18, 19, 20, 21] [16] [] _ _ (sY sE) (fun _ h => h) Try.mixed (by kernel_rfl) ?_
   refine tP (vI j) rfl (fun w => (Step.move rfl)) ?_
   refine tP (vB true) rfl (fun w => (Step.cast (congrArg Value.bool h7) sP)) ?_
   refine tP (vB true) rfl (fun w => (Step.move rfl)) ?_
   refine tP (vI j) rfl (fun w => (Step.move rfl)) ?_
   refine tP (Value.pointer (some ⟨nb, 2, none⟩)) rfl (fun w => sP) ?_
   refine tR dv rfl (fun A w M => (Step.load1 Try.sc96 rfl ((cell_blk (M.rep 0 rfl) 2).trans rfl))) ?_
   refine tR (vI ↑n.kids.length) rfl (fun A w M => (Step.lenSl Try.un96 rfl (M.rep 2 rfl))) ?_
   refine tP (vB true) rfl (fun w => (Step.cast (congrArg Value.bool h8) sP)) ?_
   refine tP (vB true) rfl (fun w => (Step.pick (t := true) rfl rfl)) ?_
   refine tP (vB true) rfl (fun w => (Step.move rfl)) ?_
   refine tR (vP tb) rfl (fun A w M => (Step.load1 Try.sc26 rfl ((cell_blk (M.rep 4 rfl) 0).trans rfl))) ?_
   refine tP (Value.pointer (some ⟨nb, 2, none⟩)) rfl (fun w => sP) ?_
   refine tR dv rfl (fun A w M => (Step.load1 Try.sc96 rfl ((cell_blk (M.rep 0 rfl) 2).trans rfl))) ?_
   refine tP (vI j) rfl (fun w => (Step.move rfl)) ?_
   refine tP (vQ dv j.toNat 2) rfl (fun w => (sX j.toNat Try.un96 Try.el92 rfl rfl hb9)) ?_
   refine tR (Value.agg #[(vI x11.at_), (vI x11.turn)]) rfl (fun A w M => (Step.loadEN (k := 0) (cs' := [(vI x11.at_), (vI x11.turn)]) Try.ag92 (flat_ec (M.rep 2 rfl) hx11 handleE_len) (by decide) rfl rfl rfl)) ?_
   obtain ⟨na_, hna_⟩ : ∃ n, (rget l x11).1 = n := ⟨_, rfl⟩
   refine TW.callX (ι := Value × Value × Value) (fun jx v_ => v_ = (Value.agg #[(vB na_.leaf), jx.1, jx.2.1, jx.2.2])) (fun jx => [oS jx.1 na_.keys, oH jx.2.1 na_.kids, oI jx.2.2 na_.vals, arenaC 143 145 S ab l]) (fun jx => [bF nb #[(vB n.leaf), kv, dv, vv] 99, fS kv n.keys, fH dv n.kids, fI vv n.vals, bF qb #[(vP tb)] 26, bF tb #[(vP ab), (vI r.at_), (vI r.turn), (vB fu), (vI ln)] 94]) rfl (by decide) rfl (fun jx => (sN (sN (sN (sY sE))))) (fun jx r h => h) (fun A w M => have fq := M.frm [arenaC 143 145 S ab l] [fl A] [1, 0] rfl; Rets.mono (tr_node tb ab r fu ln l S x11 (by assumption) na_ hna_ (M.eF fq ⟨(M.rF fq 5 rfl), trivial⟩)) (fun v_ w_ ⟨kv18, dv19, vv20, e_, m⟩ => ⟨(kv18, dv19, vv20), e_, (M.lF fq m).sel [4, 1, 2, 3, 0] rfl (by decide), fun b hb => M.kF fq m b hb⟩)) (fun w => CallsF.func Try.en49 rfl) (fun jx v hp hin => ?_)
   obtain ⟨kv18, dv19, vv20⟩ := jx
   replace hp := hp.symm; subst hp
   obtain ⟨_, _, hin⟩ := hin
   have sl21 : IsSl kv18 := SlAt.isSl (own_slAt (Mem.chunk hin 1 rfl).inv)
   have hle22 := SlAt.le' (own_slAt (Mem.chunk hin 1 rfl).inv)
   have hsh23 := (own_slAt (Mem.chunk hin 1 rfl).inv).shp
   have sl24 : IsSl dv19 := SlAt.isSl (own_slAt (Mem.chunk hin 2 rfl).inv)
   have hle25 := SlAt.le' (own_slAt (Mem.chunk hin 2 rfl).inv)
   have hsh26 := (own_slAt (Mem.chunk hin 2 rfl).inv).shp
   have sl27 : IsSl vv20 := SlAt.isSl (own_slAt (Mem.chunk hin 3 rfl).inv)
   have hle28 := SlAt.le' (own_slAt (Mem.chunk hin 3 rfl).inv)
   have hsh29 := (own_slAt (Mem.chunk hin 3 rfl).inv).shp
   clear hin
   refine tP kv18 rfl (fun w => sP) ?_
   refine tP (vI ↑na_.keys.length) rfl (fun w => (Step.lenP Try.un22 rfl hsh23)) ?_
   refine tP (vB (decide ((↑na_.keys.length : Int) > (2 : Int)))) rfl (fun w => sP) ?_
   refine tP (vB (decide ((↑na_.keys.length : Int) > (2 : Int)))) rfl (fun w => (Step.pick (t := true) rfl rfl)) ?_
   refine tP (vB (decide ((↑na_.keys.length : Int) > (2 : Int)))) rfl (fun w => (Step.assign rfl)) ?_
   refine TW.done (fun w30 M => ?_)
   refine W.ret ?_
   refine ⟨.inl rfl, (vB (decide ((↑na_.keys.length : Int) > (2 : Int)))), ?_, ?_⟩
   · exact ⟨rfl, (Res.r1 (show RV _ _ _ (.tmp 4) (vB (decide ((↑na_.keys.length : Int) > (2 : Int)))) from by exact rfl))⟩
   refine ⟨?_, M.close [3] rfl (by decide) trivial⟩
   refine congrArg Value.bool ?_
   unfold richF; rw [hgd1_, hna_]; simp [h7p, h8p, hx11]; try omega
  ·
   have h8p := of_decide_eq_false h8
   refine W.drawn M [0, 1, 2, 3, 4, 5, 6, 7, 8, 9, 10, 11, 12, 13, 14, 15, 16, 17, 18, 19, 20, 21] [16] [] _ _ (sY sE) (fun _ h => h) Try.mixed (by kernel_rfl) ?_
   refine tP (vI j) rfl (fun w => (Step.move rfl)) ?_
   refine tP (vB true) rfl (fun w => (Step.cast (congrArg Value.bool h7) sP)) ?_
   refine tP (vB true) rfl (fun w => (Step.move rfl)) ?_
   refine tP (vI j) rfl (fun w => (Step.move rfl)) ?_
   refine tP (Value.pointer (some ⟨nb, 2, none⟩)) rfl (fun w => sP) ?_
   refine tR dv rfl (fun A w M => (Step.load1 Try.sc96 rfl ((cell_blk (M.rep 0 rfl) 2).trans rfl))) ?_
   refine tR (vI ↑n.kids.length) rfl (fun A w M => (Step.lenSl Try.un96 rfl (M.rep 2 rfl))) ?_
   refine tP (vB false) rfl (fun w => (Step.cast (congrArg Value.bool h8) sP)) ?_
   refine tP (vB false) rfl (fun w => (Step.pick (t := true) rfl rfl)) ?_
   refine tP (vB false) rfl (fun w => (Step.move rfl)) ?_
   refine TW.skip rfl rfl ?_
   refine TW.skip rfl rfl ?_
   refine TW.skip rfl rfl ?_
   refine TW.skip rfl rfl ?_
   refine TW.skip rfl rfl ?_
   refine TW.skip rfl rfl ?_
   refine TW.skip rfl rfl ?_
   refine TW.skip rfl rfl ?_
   refine TW.skip rfl rfl ?_
   refine TW.skip rfl rfl ?_
   refine tP (vB false) rfl (fun w => (Step.pick (t := false) rfl rfl)) ?_
   refine tP (vB false) rfl (fun w => (Step.assign rfl)) ?_
   refine TW.done (fun w31 M => ?_)
   refine W.ret ?_
   refine ⟨.inl rfl, (vB false), ?_, ?_⟩
   · exact ⟨rfl, (Res.r1 (show RV _ _ _ (.tmp 4) (vB false) from by exact rfl))⟩
   refine ⟨?_, M.close [0] rfl (by decide) trivial⟩
   refine congrArg Value.bool ?_
   unfold richF; simp [h7p, h8p]; try omega
 ·
  have h7p := of_decide_eq_false h7
  refine W.drawn M [0, 1, 2, 3, 4, 5, 6, 7, 8, 9, 10, 11, 12, 13, 14, 15, 16, 17, 18, 19, 20, 21] [16] [] _ _ (sY sE) (fun _ h => h) Try.mixed (by kernel_rfl) ?_
  refine tP (vI j) rfl (fun w => (Step.move rfl)) ?_
  refine tP (vB false) rfl (fun w => (Step.cast (congrArg Value.bool h7) sP)) ?_
  refine tP (vB false) rfl (fun w => (Step.move rfl)) ?_
  refine TW.skip rfl rfl ?_
  refine TW.skip rfl rfl ?_
  refine TW.skip rfl rfl ?_
  refine TW.skip rfl rfl ?_
  refine TW.skip rfl rfl ?_
  refine tP (vB false) rfl (fun w => (Step.pick (t := false) rfl rfl)) ?_
  refine tP (vB false) rfl (fun w => (Step.move rfl)) ?_
  refine TW.skip rfl rfl ?_
  refine TW.skip rfl rfl ?_
  refine TW.skip rfl rfl ?_
  refine TW.skip rfl rfl ?_
  refine TW.skip rfl rfl ?_
  refine TW.skip rfl rfl ?_
  refine TW.skip rfl rfl ?_
  refine TW.skip rfl rfl ?_
  refine TW.skip rfl rfl ?_
  refine TW.skip rfl rfl ?_
  refine tP (vB false) rfl (fun w => (Step.pick (t := false) rfl rfl)) ?_
  refine tP (vB false) rfl (fun w => (Step.assign rfl)) ?_
  refine TW.done (fun w32 M => ?_)
  refine W.ret ?_
  refine ⟨.inl rfl, (vB false), ?_, ?_⟩
  · exact ⟨rfl, (Res.r1 (show RV _ _ _ (.tmp 4) (vB false) from by exact rfl))⟩
  refine ⟨?_, M.close [0] rfl (by decide) trivial⟩
  refine congrArg Value.bool ?_
  unfold richF; simp [h7p]; try omega
set_option maxHeartbeats 1000000 in
theorem tr_mend {G X : Nat → Prop} {w : World} (tb ab : Nat) (r : Handle) (fu : Bool) (ln : Int) (l : List RPlace) (S : Nat → Prop) (h : Handle) (i : Nat)  (hO : mendOk l h i) (M : Mem G X w [arenaC 143 145 S ab l] [bF tb #[(vP ab), (vI r.at_), (vI r.turn), (vB fu), (vI ln)] 94] w) : Rets Try.prog 92 #[(vP tb), (Value.agg #[(vI h.at_), (vI h.turn)]), (vI ↑i)] w fun r w' => ∃ (S' : Nat → Prop), r = undef ∧ Mem G X w [arenaC 143 145 S' ab (mendF l h i)] [] w' := by
 refine Rets.enter 53 _ Try.func92 rfl Try.ntmps92 Try.results92 (by simp) ?_
 obtain ⟨n, hn⟩ : ∃ n, (rget l h).1 = n := ⟨_, rfl⟩
 obtain ⟨hA, hty, hik_, hk2_⟩ := mendOk_n hO hn
 obtain ⟨ht1, ht2, ht3⟩ := hty
 refine wR ?_
 refine WL.box (v := (vP tb)) (c := #[(vP tb)]) M rfl rfl rfl (fun b1 w2 hb1 M => ?_)
 refine WL.box (v := (Value.agg #[(vI h.at_), (vI h.turn)])) (c := #[(vI h.at_), (vI h.turn)]) M rfl rfl rfl (fun b3 w4 hb3 M => ?_)
 refine WL.nil (wR (wS (vP tb) rfl (Step.load1 Try.sc26 rfl ((M.cell 1 rfl 0).trans rfl)) (wS (Value.agg #[(vI h.at_), (vI h.turn)]) rfl (Step.loadN Try.ag92 rfl (M.blk 0 rfl) (Nat.le_of_ble_eq_true rfl) rfl) ?_)))
 have fq := M.frm [arenaC 143 145 S ab l] [bk b3 #[(vI h.at_), (vI h.turn)] 92, bk b1 #[(vP tb)] 26] [2, 0, 1] rfl
 refine WL.callX rfl (tr_node tb ab r fu ln l S h (by assumption) n hn (M.eF fq ⟨(M.rF fq 0 rfl), trivial⟩)) (CallsF.func Try.en49 rfl) ?_
 rintro _ w8 ⟨kv5, dv6, vv7, rfl, m⟩
 replace M := M.lF fq m
 clear m
 have sl9 : IsSl kv5 := SlAt.isSl (own_slAt (Mem.chunk M 1 rfl).inv)
 have hle10 := SlAt.le' (own_slAt (Mem.chunk M 1 rfl).inv)
 have sl11 : IsSl dv6 := SlAt.isSl (own_slAt (Mem.chunk M 2 rfl).inv)
 have hle12 := SlAt.le' (own_slAt (Mem.chunk M 2 rfl).inv)
 have sl13 : IsSl vv7 := SlAt.isSl (own_slAt (Mem.chunk M 3 rfl).inv)
 have hle14 := SlAt.le' (own_slAt (Mem.chunk M 3 rfl).inv)
 refine WL.alloc (c := #[(vB false), vZ, vZ, vZ]) M rfl Try.el99.zero rfl (fun b15 w16 hb15 M => ?_)
 refine WL.store (v := (Value.agg #[(vB n.leaf), kv5, dv6, vv7])) (cs := [(vB n.leaf), kv5, dv6, vv7]) (c' := #[(vB n.leaf), kv5, dv6, vv7]) M 0 rfl rfl Try.el99.sized rfl rfl rfl rfl (Nat.le_of_ble_eq_true rfl) (cel_cons rfl (cel_cons (IsSl.cel sl9) (cel_cons (IsSl.cel sl11) (cel_cons (IsSl.cel sl13) cel_nil)))) rfl rfl (fun w17 M => ?_)
 refine WL.nil (W.seq' (W.seq' ?_))
 obtain ⟨cap19, hb18⟩ := SlAt.base (own_slAt (M.chunk 3 rfl).inv) (by omega)
 obtain ⟨x20, hx20⟩ := elem_of_lt (xs := n.kids) (i := i) (by omega)
 have hgd1_ : n.kids.getD i hdZero = x20 := by rw [List.getD_eq_getElem?_getD, hx20]; rfl
 refine W.drawn M [0, 1, 2, 3, 4, 5, 6, 7, 8, 9] [6] [] _ _ (sY (sY (sY (sY (sY (sY (sY sE))))))) (fun _ h => h) Try.mixed (by kernel_rfl) ?_
 refine tR (vP tb) rfl (fun A w M => (Step.load1 Try.sc26 rfl ((M.cell 7 rfl 0).trans rfl))) ?_
 refine tP (Value.pointer (some ⟨b15, 2, none⟩)) rfl (fun w => sP) ?_
 refine tR dv6 rfl (fun A w M => (Step.load1 Try.sc96 rfl ((M.cell 1 rfl 2).trans rfl))) ?_
 refine tP (vI ↑i) rfl (fun w => (Step.move rfl)) ?_
 refine tP (vQ dv6 i 2) rfl (fun w => (sX i Try.un96 Try.el92 rfl rfl hb18)) ?_
 refine tR (Value.agg #[(vI x20.at_), (vI x20.turn)]) rfl (fun A w M => (Step.loadEN (k := 0) (cs' := [(vI x20.at_), (vI x20.turn)]) Try.ag92 (flat_ec (own_slAt (M.chunk 4 rfl).inv) hx20 handleE_len) (by decide) rfl rfl rfl)) ?_
 obtain ⟨na_, hna_⟩ : ∃ n, (rget l x20).1 = n := ⟨_, rfl⟩
 let Q : List Chunk := [bk b15 #[(vB n.leaf), kv5, dv6, vv7] 99, oS kv5 n.keys, oH dv6 n.kids, oI vv7 n.vals, bk b3 #[(vI h.at_), (vI h.turn)] 92, bk b1 #[(vP tb)] 26]
 refine TW.callX (ι := Value × Value × Value) (fun jx v_ => v_ = (Value.agg #[(vB na_.leaf), jx.1, jx.2.1, jx.2.2])) (fun jx => [oS jx.1 na_.keys, oH jx.2.1 na_.kids, oI jx.2.2 na_.vals, bk b15 #[(vB n.leaf), kv5, dv6, vv7] 99, arenaC 143 145 S ab l, oS kv5 n.keys, oH dv6 n.kids, oI vv7 n.vals, bk b3 #[(vI h.at_), (vI h.turn)] 92, bk b1 #[(vP tb)] 26]) (fun jx => [bF tb #[(vP ab), (vI r.at_), (vI r.turn), (vB fu), (vI ln)] 94]) rfl (by decide) rfl (fun jx => (sN (sN (sN (sY (sY (sY (sY (sY (sY (sY sE))))))))))) (fun jx r h => h) (fun A w M => have fq := M.frm [arenaC 143 145 S ab l] (fl A :: Q) [2, 0, 1, 3, 4, 5, 6, 7] rfl; Rets.mono (tr_node tb ab r fu ln l S x20 (by assumption) na_ hna_ (M.eF fq ⟨(M.rF fq 0 rfl), trivial⟩)) (fun v_ w_ ⟨kv27, dv28, vv29, e_, m⟩ => ⟨(kv27, dv28, vv29), e_, (M.lF fq m).sel [4, 1, 2, 3, 5, 0, 6, 7, 8, 9, 10] rfl (by decide), fun b hb => M.kF fq m b hb⟩)) (fun w => CallsF.func Try.en49 rfl) (fun jx v hp hin => ?_)
 obtain ⟨kv27, dv28, vv29⟩ := jx
 replace hp := hp.symm; subst hp
 obtain ⟨_, _, hin⟩ := hin
 have sl30 : IsSl kv27 := SlAt.isSl (own_slAt (Mem.chunk hin 1 rfl).inv)
 have hle31 := SlAt.le' (own_slAt (Mem.chunk hin 1 rfl).inv)
 have hsh32 := (own_slAt (Mem.chunk hin 1 rfl).inv).shp
 have sl33 : IsSl dv28 := SlAt.isSl (own_slAt (Mem.chunk hin 2 rfl).inv)
 have hle34 := SlAt.le' (own_slAt (Mem.chunk hin 2 rfl).inv)
 have hsh35 := (own_slAt (Mem.chunk hin 2 rfl).inv).shp
 have sl36 : IsSl vv29 := SlAt.isSl (own_slAt (Mem.chunk hin 3 rfl).inv)
 have hle37 := SlAt.le' (own_slAt (Mem.chunk hin 3 rfl).inv)
 have hsh38 := (own_slAt (Mem.chunk hin 3 rfl).inv).shp
 clear hin
 refine tP kv27 rfl (fun w => sP) ?_
 refine tP (vI ↑na_.keys.length) rfl (fun w => (Step.lenP Try.un22 rfl hsh32)) ?_
 refine tP (vB (decide ((↑na_.keys.length : Int) ≥ (2 : Int)))) rfl (fun w => sP) ?_
 refine TW.done (fun w39 M => ?_)
 refine W.cond (t := decide ((↑na_.keys.length : Int) ≥ (2 : Int))) rfl (fun h40 => ?_) (fun h40 => ?_)
 ·
  have h40p := of_decide_eq_true h40
  refine W.ret ?_
  refine ⟨.inl rfl, undef, ?_, ?_⟩
  · exact ⟨rfl, Res.none⟩
  have e41 : (mendF l h i) = l := by
   rw [mend_keep hn hgd1_ hna_ (by omega)]
  replace M := M.rechunk 4 (c' := arenaC 143 145 S ab (mendF l h i)) rfl (congrArg (fun z => arenaC 143 145 S ab z) e41.symm)
  refine ⟨S, ?_, M.close [4] rfl (by decide) trivial⟩
  rfl
 ·
  have h40p := of_decide_eq_false h40
  obtain ⟨hp1_, hp2_⟩ := mendOk_pair hO hn hgd1_ hna_ (by omega)
  refine W.skip (wR (wP (Value.func (.func 118) #[] #[(vP b15), (vP b1)]) (wA (Value.func (.func 118) #[] #[(vP b15), (vP b1)]) (WL.nil (W.block ?_)))))
  refine W.seq' ?_
  replace M := M.loseI 2
  replace M := M.loseI 1
  replace M := M.loseI 0
  refine W.region rfl (wM (Value.func (.func 118) #[] #[(vP b15), (vP b1)]) (wM (vI ↑i) (wS (vI ((↑i : Int) - 1)) rfl (Step.sub rfl rfl (wrap_i64 (by omega))) ?_)))
  have fq := M.frm [arenaC 143 145 S ab l] [bk b15 #[(vB n.leaf), kv5, dv6, vv7] 99, oS kv5 n.keys, oH dv6 n.kids, oI vv7 n.vals, bk b3 #[(vI h.at_), (vI h.turn)] 92, bk b1 #[(vP tb)] 26] [1, 0, 2, 3, 4, 5, 6] rfl
  refine WL.callX rfl (tr_rich ((↑i : Int) - 1) b15 kv5 dv6 vv7 n b1 tb ab r fu ln l S (by assumption) (M.eF fq ⟨(M.cF fq 0 rfl), ((M.cF fq 1 rfl).imp fun _ h => own_slAt h), ((M.cF fq 2 rfl).imp fun _ h => own_slAt h), ((M.cF fq 3 rfl).imp fun _ h => own_slAt h), (M.cF fq 5 rfl), (M.rF fq 0 rfl), trivial⟩)) (CallsF.value Try.en118 rfl rfl rfl) ?_
  rintro _ w42 ⟨rfl, m⟩
  replace M := M.lF fq m
  clear m
  refine wA (vB (richF l n ((↑i : Int) - 1))) (WL.nil ?_)
  refine W.cond (t := richF l n ((↑i : Int) - 1)) rfl (fun h43 => ?_) (fun h43 => ?_)
  ·
   obtain ⟨hr1_, hr2_⟩ := rich_low h43
   have hi1_ : 0 < i := by omega
   have hO1_ := hp1_ hi1_
   refine W.region rfl (wS (vP tb) rfl (Step.load1 Try.sc26 rfl ((M.cell 6 rfl 0).trans rfl)) (wS (Value.agg #[(vI h.at_), (vI h.turn)]) rfl (Step.loadN Try.ag92 rfl (M.blk 5 rfl) (Nat.le_of_ble_eq_true rfl) rfl) (wM (vI ↑i) (wS (vI (↑(i - 1))) rfl (Step.cast (congrArg (Value.int .i64) (show ((↑i : Int) - 1 : Int) = ↑(i - 1) by omega)) (Step.sub rfl rfl (wrap_i64 (by omega)))) ?_))))
   have fq := M.frm [arenaC 143 145 S ab l] [bk b15 #[(vB n.leaf), kv5, dv6, vv7] 99, oS kv5 n.keys, oH dv6 n.kids, oI vv7 n.vals, bk b3 #[(vI h.at_), (vI h.turn)] 92, bk b1 #[(vP tb)] 26] [0, 1, 2, 3, 4, 5, 6] rfl
   refine WL.callX rfl (tr_turn tb ab r fu ln l S h (i - 1) false (by assumption) (M.eF fq ⟨(M.rF fq 0 rfl), trivial⟩)) (CallsF.func Try.en119 rfl) ?_
   rintro _ w45 ⟨S44, rfl, m⟩
   replace M := M.lF fq m
   clear m
   refine WL.nil ?_
   refine ⟨.inr rfl, undef, ?_, ?_⟩
   · exact ⟨rfl, Res.none⟩
   have e46 : (mendF l h i) = (turnF l h (i - 1) false) := by
    rw [mend_go hn hgd1_ hna_ (by omega)]
    simp [hx20, h40p, h43] <;> (intro h_; exfalso; omega)
   replace M := M.rechunk 0 (c' := arenaC 143 145 S44 ab (mendF l h i)) rfl (congrArg (fun z => arenaC 143 145 S44 ab z) e46.symm)
   refine ⟨S44, ?_, M.close [0] rfl (by decide) trivial⟩
   rfl
  ·
   refine wR (wM (Value.func (.func 118) #[] #[(vP b15), (vP b1)]) (wM (vI ↑i) (wS (vI (↑i + 1)) rfl (Step.add rfl rfl (wrap_i64 (by omega))) ?_)))
   have fq := M.frm [arenaC 143 145 S ab l] [bk b15 #[(vB n.leaf), kv5, dv6, vv7] 99, oS kv5 n.keys, oH dv6 n.kids, oI vv7 n.vals, bk b3 #[(vI h.at_), (vI h.turn)] 92, bk b1 #[(vP tb)] 26] [0, 1, 2, 3, 4, 5, 6] rfl
   refine WL.callX rfl (tr_rich (↑i + 1) b15 kv5 dv6 vv7 n b1 tb ab r fu ln l S (by assumption) (M.eF fq ⟨(M.cF fq 0 rfl), ((M.cF fq 1 rfl).imp fun _ h => own_slAt h), ((M.cF fq 2 rfl).imp fun _ h => own_slAt h), ((M.cF fq 3 rfl).imp fun _ h => own_slAt h), (M.cF fq 5 rfl), (M.rF fq 0 rfl), trivial⟩)) (CallsF.value Try.en118 rfl rfl rfl) ?_
   rintro _ w47 ⟨rfl, m⟩
   replace M := M.lF fq m
   clear m
   refine wA (vB (richF l n (↑i + 1))) (WL.nil ?_)
   refine W.cond (t := richF l n (↑i + 1)) rfl (fun h48 => ?_) (fun h48 => ?_)
   ·
    obtain ⟨hr1_, hr2_⟩ := rich_low h48
    have hO1_ := hp2_ (by omega)
    replace M := M.loseI 4
    replace M := M.loseI 3
    replace M := M.loseI 2
    replace M := M.loseI 1
    refine W.region rfl (wS (vP tb) rfl (Step.load1 Try.sc26 rfl ((M.cell 2 rfl 0).trans rfl)) (wS (Value.agg #[(vI h.at_), (vI h.turn)]) rfl (Step.loadN Try.ag92 rfl (M.blk 1 rfl) (Nat.le_of_ble_eq_true rfl) rfl) (wM (vI ↑i) ?_)))
    have fq := M.frm [arenaC 143 145 S ab l] [bk b3 #[(vI h.at_), (vI h.turn)] 92, bk b1 #[(vP tb)] 26] [0, 1, 2] rfl
    refine WL.callX rfl (tr_turn tb ab r fu ln l S h i true (by assumption) (M.eF fq ⟨(M.rF fq 0 rfl), trivial⟩)) (CallsF.func Try.en119 rfl) ?_
    rintro _ w50 ⟨S49, rfl, m⟩
    replace M := M.lF fq m
    clear m
    refine WL.nil ?_
    refine ⟨.inr rfl, undef, ?_, ?_⟩
    · exact ⟨rfl, Res.none⟩
    have e51 : (mendF l h i) = (turnF l h i true) := by
     rw [mend_go hn hgd1_ hna_ (by omega)]
     simp [hx20, h40p, h43, h48] <;> (intro h_; exfalso; omega)
    replace M := M.rechunk 0 (c' := arenaC 143 145 S49 ab (mendF l h i)) rfl (congrArg (fun z => arenaC 143 145 S49 ab z) e51.symm)
    refine ⟨S49, ?_, M.close [0] rfl (by decide) trivial⟩
    rfl
   ·
    refine wR (wM (vI ↑i) (wP (vB (decide ((↑i : Int) > (0 : Int)))) (wA (vB (decide ((↑i : Int) > (0 : Int)))) (WL.nil ?_))))
    refine W.cond (t := decide ((↑i : Int) > (0 : Int))) rfl (fun h52 => ?_) (fun h52 => ?_)
    ·
     have h52p := of_decide_eq_true h52
     have hi1_ : 0 < i := by omega
     have hO1_ := hp1_ hi1_
     replace M := M.loseI 4
     replace M := M.loseI 3
     replace M := M.loseI 2
     replace M := M.loseI 1
     refine W.region rfl (wS (vP tb) rfl (Step.load1 Try.sc26 rfl ((M.cell 2 rfl 0).trans rfl)) (wS (Value.agg #[(vI h.at_), (vI h.turn)]) rfl (Step.loadN Try.ag92 rfl (M.blk 1 rfl) (Nat.le_of_ble_eq_true rfl) rfl) (wM (vI ↑i) (wS (vI (↑(i - 1))) rfl (Step.cast (congrArg (Value.int .i64) (show ((↑i : Int) - 1 : Int) = ↑(i - 1) by omega)) (Step.sub rfl rfl (wrap_i64 (by omega)))) ?_))))
     have fq := M.frm [arenaC 143 145 S ab l] [bk b3 #[(vI h.at_), (vI h.turn)] 92, bk b1 #[(vP tb)] 26] [0, 1, 2] rfl
     refine WL.callX rfl (tr_join tb ab r fu ln l S h (i - 1) (by assumption) (M.eF fq ⟨(M.rF fq 0 rfl), trivial⟩)) (CallsF.func Try.en120 rfl) ?_
     rintro _ w54 ⟨S53, rfl, m⟩
     replace M := M.lF fq m
     clear m
     refine WL.nil ?_
     refine ⟨.inr rfl, undef, ?_, ?_⟩
     · exact ⟨rfl, Res.none⟩
     have e55 : (mendF l h i) = (joinF l h (i - 1)) := by
      rw [mend_go hn hgd1_ hna_ (by omega)]
      simp [hx20, h40p, h43, h48, h52p] <;> (intro h_; exfalso; omega)
     replace M := M.rechunk 0 (c' := arenaC 143 145 S53 ab (mendF l h i)) rfl (congrArg (fun z => arenaC 143 145 S53 ab z) e55.symm)
     refine ⟨S53, ?_, M.close [0] rfl (by decide) trivial⟩
     rfl
    ·
     have h52p := of_decide_eq_false h52
     have hO1_ := hp2_ (by omega)
     replace M := M.loseI 4
     replace M := M.loseI 3
     replace M := M.loseI 2
     replace M := M.loseI 1
     refine W.region rfl (wS (vP tb) rfl (Step.load1 Try.sc26 rfl ((M.cell 2 rfl 0).trans rfl)) (wS (Value.agg #[(vI h.at_), (vI h.turn)]) rfl (Step.loadN Try.ag92 rfl (M.blk 1 rfl) (Nat.le_of_ble_eq_true rfl) rfl) (wM (vI ↑i) ?_)))
     have fq := M.frm [arenaC 143 145 S ab l] [bk b3 #[(vI h.at_), (vI h.turn)] 92, bk b1 #[(vP tb)] 26] [0, 1, 2] rfl
     refine WL.callX rfl (tr_join tb ab r fu ln l S h i (by assumption) (M.eF fq ⟨(M.rF fq 0 rfl), trivial⟩)) (CallsF.func Try.en120 rfl) ?_
     rintro _ w57 ⟨S56, rfl, m⟩
     replace M := M.lF fq m
     clear m
     refine WL.nil ?_
     refine ⟨.inr rfl, undef, ?_, ?_⟩
     · exact ⟨rfl, Res.none⟩
     have e58 : (mendF l h i) = (joinF l h i) := by
      rw [mend_go hn hgd1_ hna_ (by omega)]
      simp [hx20, h40p, h43, h48, h52p] <;> (intro h_; exfalso; omega)
     replace M := M.rechunk 0 (c' := arenaC 143 145 S56 ab (mendF l h i)) rfl (congrArg (fun z => arenaC 143 145 S56 ab z) e58.symm)
     refine ⟨S56, ?_, M.close [0] rfl (by decide) trivial⟩
     rfl
end Go.Proofs
set_option maxRecDepth 100000
namespace Go.Proofs
open Go Tp
theorem Try.en48 : Enters Try.prog 48 := fun _ _ => by kernel_rfl
theorem Try.en92 : Enters Try.prog 92 := fun _ _ => by kernel_rfl
set_option maxHeartbeats 1000000 in
theorem tr_remove : ∀ (d : Nat) {G X : Nat → Prop} {w : World} (tb ab : Nat) (r : Handle) (fu : Bool) (ln : Int) (l : List RPlace) (S : Nat → Prop) (h : Handle) (k : ByteArray)  (hO : remOk d l h k) (M : Mem G X w [arenaC 143 145 S ab l] [bF tb #[(vP ab), (vI r.at_), (vI r.turn), (vB fu), (vI ln)] 94] w), Rets Try.prog 48 #[(vP tb), (Value.agg #[(vI h.at_), (vI h.turn)]), (vS k)] w fun r w' => ∃ (S' : Nat → Prop), r = undef ∧ Mem G X w [arenaC 143 145 S' ab (remF d l h k)] [] w' := by
 intro d
 induction d using Nat.strongRecOn
 rename_i d ih
 intro G X w tb ab r fu ln l S h k hO M
 refine Rets.enter 83 _ Try.func48 rfl Try.ntmps48 Try.results48 (by simp) ?_
 obtain ⟨n, hn⟩ : ∃ n, (rget l h).1 = n := ⟨_, rfl⟩
 obtain ⟨hA, hty, hvl, hup⟩ := remOk_node hO hn
 obtain ⟨ht1, ht2, ht3⟩ := hty
 have hbi_ := bsI_le n.keys k
 refine wR ?_
 refine WL.box (v := (Value.agg #[(vI h.at_), (vI h.turn)])) (c := #[(vI h.at_), (vI h.turn)]) M rfl rfl rfl (fun b1 w2 hb1 M => ?_)
 refine WL.nil (wR (wM (vP tb) (wS (Value.agg #[(vI h.at_), (vI h.turn)]) rfl (Step.loadN Try.ag92 rfl (M.blk 0 rfl) (Nat.le_of_ble_eq_true rfl) rfl) ?_)))
 have fq := M.frm [arenaC 143 145 S ab l] [bk b1 #[(vI h.at_), (vI h.turn)] 92] [1, 0] rfl
 refine WL.callX rfl (tr_node tb ab r fu ln l S h (by assumption) n hn (M.eF fq ⟨(M.rF fq 0 rfl), trivial⟩)) (CallsF.func Try.en49 rfl) ?_
 rintro _ w6 ⟨kv3, dv4, vv5, rfl, m⟩
 replace M := M.lF fq m
 clear m
 have sl7 : IsSl kv3 := SlAt.isSl (own_slAt (Mem.chunk M 1 rfl).inv)
 have hle8 := SlAt.le' (own_slAt (Mem.chunk M 1 rfl).inv)
 have sl9 : IsSl dv4 := SlAt.isSl (own_slAt (Mem.chunk M 2 rfl).inv)
 have hle10 := SlAt.le' (own_slAt (Mem.chunk M 2 rfl).inv)
 have sl11 : IsSl vv5 := SlAt.isSl (own_slAt (Mem.chunk M 3 rfl).inv)
 have hle12 := SlAt.le' (own_slAt (Mem.chunk M 3 rfl).inv)
 refine WL.alloc (c := #[(vB false), vZ, vZ, vZ]) M rfl Try.el99.zero rfl (fun b13 w14 hb13 M => ?_)
 refine WL.store (v := (Value.agg #[(vB n.leaf), kv3, dv4, vv5])) (cs := [(vB n.leaf), kv3, dv4, vv5]) (c' := #[(vB n.leaf), kv3, dv4, vv5]) M 0 rfl rfl Try.el99.sized rfl rfl rfl rfl (Nat.le_of_ble_eq_true rfl) (cel_cons rfl (cel_cons (IsSl.cel sl7) (cel_cons (IsSl.cel sl9) (cel_cons (IsSl.cel sl11) cel_nil)))) rfl rfl (fun w15 M => ?_)
 refine WL.nil (wR (wP (Value.pointer (some ⟨b13, 1, none⟩)) (wS kv3 rfl (Step.load1 Try.sc22 rfl ((M.cell 0 rfl 1).trans rfl)) (wM (vS k) ?_))))
 refine WL.callX rfl (bs_str kv3 n.keys k (by omega) (by assumption) (M.enterW0 ⟨((M.wideC0 2 rfl).imp fun _ h => own_slAt h), trivial⟩)) (CallsF.func Try.en83 rfl) ?_
 rintro _ w16 ⟨rfl, m⟩
 replace M := M.leaveW0 m
 clear m
 refine wM (Value.tuple #[(vI (↑(bsI n.keys k))), (vB (bsF n.keys k))]) (wP (vI (↑(bsI n.keys k))) (wP (vB (bsF n.keys k)) (wA (vI (↑(bsI n.keys k))) (wA (vB (bsF n.keys k)) (WL.nil ?_)))))
 refine W.seq' (W.block (wR (wM (vB (bsF n.keys k)) (wM (vB (bsF n.keys k)) ?_))))
 rcases Bool.eq_false_or_eq_true (bsF n.keys k) with h17 | h17
 ·
  have hbl_ := bsF_lt h17
  rw [h17]
  refine wP (vP b13) (wS (vB n.leaf) rfl (Step.load1 Try.sc4 rfl ((M.cell 0 rfl 0).trans rfl)) (wS (vB n.leaf) rfl (Step.pick (t := true) rfl rfl) (wA (vB n.leaf) (WL.nil ?_))))
  refine W.cond (t := n.leaf) rfl (fun h18 => ?_) (fun h18 => ?_)
  ·
   have hlf_ : n.leaf = true := h18
   refine W.seq' ?_
   refine W.drawn2 M [0, 1, 2, 3, 4, 5, 6, 7, 8, 9, 10, 11, 12] [13, 14, 15] [5, 11, 13, 15] [] _ _ (sY (sY (sN (sY (sN (sY sE)))))) (fun _ h => h) Try.mixed (by kernel_rfl) ?_
   refine tP (Value.pointer (some ⟨b13, 1, none⟩)) rfl (fun w => sP) ?_
   refine tR kv3 rfl (fun A w M => (Step.load1 Try.sc22 rfl ((M.cell 1 rfl 1).trans rfl))) ?_
   refine tP (vI (↑(bsI n.keys k))) rfl (fun w => (Step.move rfl)) ?_
   refine tP (vI (↑(bsI n.keys k))) rfl (fun w => (Step.move rfl)) ?_
   refine tP (vI (↑((bsI n.keys k) + 1))) rfl (fun w => (Step.cast (congrArg (Value.int .i64) (show (↑(bsI n.keys k) + 1 : Int) = ↑((bsI n.keys k) + 1) by omega)) (Step.add rfl rfl (wrap_i64 (by omega))))) ?_
   let Q : List Chunk := [bk b13 #[(vB n.leaf), kv3, dv4, vv5] 99, arenaC 143 145 S ab l, oH dv4 n.kids, oI vv5 n.vals, bk b1 #[(vI h.at_), (vI h.turn)] 92]
   refine TW.callX (ι := Value) (fun jx v_ => v_ = jx) (fun jx => oS jx (n.keys.take (Int.toNat (↑(bsI n.keys k))) ++ n.keys.drop (Int.toNat (↑((bsI n.keys k) + 1)))) :: Q) (fun jx => [bF tb #[(vP ab), (vI r.at_), (vI r.turn), (vB fu), (vI ln)] 94]) rfl (by decide) rfl (fun jx => (sN (sY (sY (sY (sN (sY sE))))))) (fun jx r h => h) (fun A w M => have fq := M.frm [oS kv3 n.keys] (fl A :: Q) [3, 0, 1, 2, 4, 5, 6] rfl; Rets.mono (delete_str kv3 n.keys (↑(bsI n.keys k)) (↑((bsI n.keys k) + 1)) (by omega) (M.eF fq trivial)) (fun v_ w_ ⟨v31, e_, m⟩ => ⟨v31, e_, (M.lF fq m).sel [1, 0, 2, 3, 4, 5, 6] rfl (by decide), fun b hb => M.kF fq m b hb⟩)) (fun w => CallsF.func Try.en89 rfl) (fun v31 v hp hin => ?_)
   replace hp := hp.symm; subst hp
   obtain ⟨_, _, hin⟩ := hin
   have sl32 : IsSl v31 := SlAt.isSl (own_slAt (Mem.chunk hin 1 rfl).inv)
   have hle33 := SlAt.le' (own_slAt (Mem.chunk hin 1 rfl).inv)
   clear hin
   refine tP (Value.pointer (some ⟨b13, 3, none⟩)) rfl (fun w => sP) ?_
   refine tR vv5 rfl (fun A w M => (Step.load1 Try.sc97 rfl ((M.cell 1 rfl 3).trans rfl))) ?_
   refine tP (vI (↑(bsI n.keys k))) rfl (fun w => (Step.move rfl)) ?_
   refine tP (vI (↑(bsI n.keys k))) rfl (fun w => (Step.move rfl)) ?_
   refine tP (vI (↑((bsI n.keys k) + 1))) rfl (fun w => (Step.cast (congrArg (Value.int .i64) (show (↑(bsI n.keys k) + 1 : Int) = ↑((bsI n.keys k) + 1) by omega)) (Step.add rfl rfl (wrap_i64 (by omega))))) ?_
   let Q : List Chunk := [oS v31 (n.keys.take (Int.toNat (↑(bsI n.keys k))) ++ n.keys.drop (Int.toNat (↑((bsI n.keys k) + 1)))), bk b13 #[(vB n.leaf), kv3, dv4, vv5] 99, arenaC 143 145 S ab l, oH dv4 n.kids, bk b1 #[(vI h.at_), (vI h.turn)] 92]
   refine TW.callX (ι := Value) (fun jx v_ => v_ = jx) (fun jx => oI jx (n.vals.take (Int.toNat (↑(bsI n.keys k))) ++ n.vals.drop (Int.toNat (↑((bsI n.keys k) + 1)))) :: Q) (fun jx => [bF tb #[(vP ab), (vI r.at_), (vI r.turn), (vB fu), (vI ln)] 94]) rfl (by decide) rfl (fun jx => (sN (sN (sY (sY (sY (sY sE))))))) (fun jx r h => h) (fun A w M => have fq := M.frm [oI vv5 n.vals] (fl A :: Q) [5, 0, 1, 2, 3, 4, 6] rfl; Rets.mono (delete_int vv5 n.vals (↑(bsI n.keys k)) (↑((bsI n.keys k) + 1)) (by omega) (M.eF fq trivial)) (fun v_ w_ ⟨v34, e_, m⟩ => ⟨v34, e_, (M.lF fq m).sel [1, 0, 2, 3, 4, 5, 6] rfl (by decide), fun b hb => M.kF fq m b hb⟩)) (fun w => CallsF.func Try.en90 rfl) (fun v34 v hp hin => ?_)
   replace hp := hp.symm; subst hp
   obtain ⟨_, _, hin⟩ := hin
   have sl35 : IsSl v34 := SlAt.isSl (own_slAt (Mem.chunk hin 1 rfl).inv)
   have hle36 := SlAt.le' (own_slAt (Mem.chunk hin 1 rfl).inv)
   clear hin
   refine tP (Value.pointer (some ⟨b13, 1, none⟩)) rfl (fun w => sP) ?_
   refine TW.turn _ _ (sY (sY (sN (sY (sY (sY sE)))))) (fun _ h => h) ?_
   refine TW.store (v := v31) (cs := [v31]) (c' := #[(vB n.leaf), v31, dv4, vv5]) 2 rfl rfl (by decide) rfl Try.el22.sized rfl rfl (IsSl.list sl32) rfl (Nat.le_of_ble_eq_true rfl) (cel_cons (IsSl.cel sl32) cel_nil) rfl rfl (sY (sY (sN (sY (sY (sY sE)))))) (fun r h => h) ?_
   refine tP (Value.pointer (some ⟨b13, 3, none⟩)) rfl (fun w => sP) ?_
   refine TW.store (v := v34) (cs := [v34]) (c' := #[(vB n.leaf), v31, dv4, v34]) 2 rfl rfl (by decide) rfl Try.el97.sized rfl rfl (IsSl.list sl35) rfl (Nat.le_of_ble_eq_true rfl) (cel_cons (IsSl.cel sl35) cel_nil) rfl rfl (sY (sY (sN (sY (sY (sY sE)))))) (fun r h => h) ?_
   refine TW.done (fun w39 M => ?_)
   refine wR (wM (vP tb) (wS (Value.agg #[(vI h.at_), (vI h.turn)]) rfl (Step.loadN Try.ag92 rfl (M.blk 5 rfl) (Nat.le_of_ble_eq_true rfl) rfl) (wS (Value.agg #[(vB n.leaf), v31, dv4, v34]) rfl (Step.loadN Try.ag99 rfl (M.blk 2 rfl) (Nat.le_of_ble_eq_true rfl) rfl) ?_)))
   have fq := M.frm [arenaC 143 145 S ab l] [oI v34 (n.vals.take (Int.toNat (↑(bsI n.keys k))) ++ n.vals.drop (Int.toNat (↑((bsI n.keys k) + 1)))), oS v31 (n.keys.take (Int.toNat (↑(bsI n.keys k))) ++ n.keys.drop (Int.toNat (↑((bsI n.keys k) + 1)))), bk b13 #[(vB n.leaf), v31, dv4, v34] 99, oH dv4 n.kids, bk b1 #[(vI h.at_), (vI h.turn)] 92] [3, 0, 1, 2, 4, 5] rfl
   refine WL.callX rfl (tr_put tb ab r fu ln l S h v31 dv4 v34 (⟨n.leaf, n.keys.take (Int.toNat (↑(bsI n.keys k))) ++ n.keys.drop (Int.toNat (↑((bsI n.keys k) + 1))), n.kids, n.vals.take (Int.toNat (↑(bsI n.keys k))) ++ n.vals.drop (Int.toNat (↑((bsI n.keys k) + 1)))⟩ : Nd) (by assumption) (by simp [insL] <;> omega) (by simp [insL] <;> omega) (by simp [insL] <;> omega) (M.eF fq ⟨(M.rF fq 0 rfl), ((M.cF fq 1 rfl).imp fun _ h => own_slAt h), ((M.cF fq 3 rfl).imp fun _ h => own_slAt h), ((M.cF fq 0 rfl).imp fun _ h => own_slAt h), trivial⟩)) (CallsF.func Try.en84 rfl) ?_
   rintro _ w41 ⟨S40, rfl, m⟩
   replace M := M.lF fq m
   clear m
   refine WL.nil ?_
   refine W.ret ?_
   refine ⟨.inl rfl, undef, ?_, ?_⟩
   · exact ⟨rfl, Res.none⟩
   have e42 : (remF d l h k) = (rput l h (⟨n.leaf, n.keys.take (Int.toNat (↑(bsI n.keys k))) ++ n.keys.drop (Int.toNat (↑((bsI n.keys k) + 1))), n.kids, n.vals.take (Int.toNat (↑(bsI n.keys k))) ++ n.vals.drop (Int.toNat (↑((bsI n.keys k) + 1)))⟩ : Nd)).1 := by
    rw [remF_leaf hn h17 hlf_]
    simp [List.eraseIdx_eq_take_drop_succ]
   replace M := M.rechunk 0 (c' := arenaC 143 145 S40 ab (remF d l h k)) rfl (congrArg (fun z => arenaC 143 145 S40 ab z) e42.symm)
   refine ⟨S40, ?_, M.close [0] rfl (by decide) trivial⟩
   rfl
  ·
   have hlf_ : n.leaf = false := h18
   obtain ⟨e, rfl, hkl_, hO2⟩ := remOk_hit hO hn h17 hlf_
   refine wR (wM (vB true) (wA (vB true) (WL.nil ?_)))
   refine W.cond (t := true) rfl (fun _ => ?_) (fun h => by cases h)
   refine wR (wM (vP tb) (wP (Value.pointer (some ⟨b13, 2, none⟩)) (wS dv4 rfl (Step.load1 Try.sc96 rfl ((M.cell 0 rfl 2).trans rfl)) (wM (vI (↑(bsI n.keys k))) ?_))))
   obtain ⟨cap44, hb43⟩ := SlAt.base (own_slAt (M.chunk 3 rfl).inv) (by omega)
   obtain ⟨x45, hx45⟩ := elem_of_lt (xs := n.kids) (i := bsI n.keys k) (by omega)
   have hgd_ : n.kids.getD (bsI n.keys k) hdZero = x45 := by rw [List.getD_eq_getElem?_getD, hx45]; rfl
   obtain ⟨hLo, hO3, hM⟩ := hO2 _ hgd_
   refine wS (vQ dv4 (bsI n.keys k) 2) rfl (sX (bsI n.keys k) Try.un96 Try.el92 rfl rfl hb43) (wS (Value.agg #[(vI x45.at_), (vI x45.turn)]) rfl (Step.loadEN (k := 0) (cs' := [(vI x45.at_), (vI x45.turn)]) Try.ag92 (flat_ec (own_slAt (M.chunk 3 rfl).inv) hx45 handleE_len) (by decide) rfl rfl rfl) ?_)
   have fq := M.frm [arenaC 143 145 S ab l] [bk b13 #[(vB n.leaf), kv3, dv4, vv5] 99, oS kv3 n.keys, oH dv4 n.kids, oI vv5 n.vals, bk b1 #[(vI h.at_), (vI h.turn)] 92] [1, 0, 2, 3, 4, 5] rfl
   refine WL.callX rfl (tr_last e tb ab r fu ln l S x45 (by assumption) (by assumption) (M.eF fq ⟨(M.rF fq 0 rfl), trivial⟩)) (CallsF.func Try.en91 rfl) ?_
   rintro _ w46 ⟨rfl, m⟩
   replace M := M.lF fq m
   clear m
   refine WL.alloc (c := #[(vS sZ), (vI 0)]) M rfl Try.el41.zero rfl (fun b47 w48 hb47 M => ?_)
   refine WL.store (v := (Value.agg #[(vS ((lastF e l x45).key)), (vI ((lastF e l x45).val))])) (cs := [(vS ((lastF e l x45).key)), (vI ((lastF e l x45).val))]) (c' := #[(vS ((lastF e l x45).key)), (vI ((lastF e l x45).val))]) M 0 rfl rfl Try.el41.sized rfl rfl rfl rfl (Nat.le_of_ble_eq_true rfl) (cel_cons rfl (cel_cons rfl cel_nil)) rfl rfl (fun w49 M => ?_)
   refine WL.nil (W.seq' ?_)
   obtain ⟨cap51, hb50⟩ := SlAt.base (own_slAt (M.chunk 3 rfl).inv) (by omega)
   obtain ⟨x52, hx52⟩ := elem_of_lt (xs := n.keys) (i := bsI n.keys k) (by omega)
   obtain ⟨pre53, post54, hcs55, hpre56, hback57⟩ := flat_open strE_len hx52
   replace M := M.rechunk 3 (c' := own 9 1 kv3 n.keys.length (pre53 ++ ([(vS x52)] ++ post54))) rfl (by show own 9 1 kv3 n.keys.length (n.keys.flatMap strE) = _; rw [hcs55]; rfl)
   obtain ⟨cap59, hb58⟩ := SlAt.base (own_slAt (M.chunk 5 rfl).inv) (by omega)
   obtain ⟨x60, hx60⟩ := elem_of_lt (xs := n.vals) (i := bsI n.keys k) (by omega)
   obtain ⟨pre61, post62, hcs63, hpre64, hback65⟩ := flat_open intE_len hx60
   replace M := M.rechunk 5 (c' := own 3 1 vv5 n.vals.length (pre61 ++ ([(vI x60)] ++ post62))) rfl (by show own 3 1 vv5 n.vals.length (n.vals.flatMap intE) = _; rw [hcs63]; rfl)
   refine W.drawn M [0, 1, 2, 3, 4, 5, 6, 7, 8, 9, 10, 11, 12, 13] [11, 13] [] _ _ (sY (sY (sY (sN (sY (sN (sY sE))))))) (fun _ h => h) Try.mixed (by kernel_rfl) ?_
   refine tP (Value.pointer (some ⟨b13, 1, none⟩)) rfl (fun w => sP) ?_
   refine tR kv3 rfl (fun A w M => (Step.load1 Try.sc22 rfl ((M.cell 3 rfl 1).trans rfl))) ?_
   refine tP (vI (↑(bsI n.keys k))) rfl (fun w => (Step.move rfl)) ?_
   refine tP (Value.pointer (some ⟨b13, 3, none⟩)) rfl (fun w => sP) ?_
   refine tR vv5 rfl (fun A w M => (Step.load1 Try.sc97 rfl ((M.cell 3 rfl 3).trans rfl))) ?_
   refine tP (vI (↑(bsI n.keys k))) rfl (fun w => (Step.move rfl)) ?_
   refine tP (vP b47) rfl (fun w => sP) ?_
   refine tR (vS ((lastF e l x45).key)) rfl (fun A w M => (Step.load1 Try.sc9 rfl ((M.cell 1 rfl 0).trans rfl))) ?_
   refine tP (Value.pointer (some ⟨b47, 1, none⟩)) rfl (fun w => sP) ?_
   refine tR (vI ((lastF e l x45).val)) rfl (fun A w M => (Step.load1 Try.sc3 rfl ((M.cell 1 rfl 1).trans rfl))) ?_
   refine tP (vQ kv3 (bsI n.keys k) 1) rfl (fun w => (sX (bsI n.keys k) Try.un22 Try.el9 rfl rfl hb50)) ?_
   refine TW.act (c' := own 9 1 kv3 n.keys.length (pre53 ++ ([(vS ((lastF e l x45).key))] ++ post54))) 3 rfl rfl (by decide) rfl (sY (sY (sY (sN (sY (sN (sY sE))))))) (fun r h => h) (fun A w M => M.storeAt (cells := [(vS x52)]) (cells' := [(vS ((lastF e l x45).key))]) (new := [(vS ((lastF e l x45).key))]) (k := 0) 4 rfl hpre56 Try.el9.sized rfl rfl rfl (cel_cons rfl cel_nil) (by first | omega | (simp only [List.length_set, List.length_append, List.length_cons, List.length_nil]; omega)) (Nat.le_of_ble_eq_true rfl) rfl rfl) ?_
   refine tP (vQ vv5 (bsI n.keys k) 1) rfl (fun w => (sX (bsI n.keys k) Try.un97 Try.el3 rfl rfl hb58)) ?_
   refine TW.act (c' := own 3 1 vv5 n.vals.length (pre61 ++ ([(vI ((lastF e l x45).val))] ++ post62))) 5 rfl rfl (by decide) rfl (sY (sY (sY (sN (sY (sN (sY sE))))))) (fun r h => h) (fun A w M => M.storeAt (cells := [(vI x60)]) (cells' := [(vI ((lastF e l x45).val))]) (new := [(vI ((lastF e l x45).val))]) (k := 0) 6 rfl hpre64 Try.el3.sized rfl rfl rfl (cel_cons rfl cel_nil) (by first | omega | (simp only [List.length_set, List.length_append, List.length_cons, List.length_nil]; omega)) (Nat.le_of_ble_eq_true rfl) rfl rfl) ?_
   refine TW.done (fun w66 M => ?_)
   refine wR (wM (vP tb) (wS (Value.agg #[(vI h.at_), (vI h.turn)]) rfl (Step.loadN Try.ag92 rfl (M.blk 6 rfl) (Nat.le_of_ble_eq_true rfl) rfl) (wS (Value.agg #[(vB n.leaf), kv3, dv4, vv5]) rfl (Step.loadN Try.ag99 rfl (M.blk 2 rfl) (Nat.le_of_ble_eq_true rfl) rfl) ?_)))
   replace M := M.rechunk 3 (c' := own 9 1 kv3 (n.keys.length) ((n.keys.set (bsI n.keys k) ((lastF e l x45).key)).flatMap strE)) rfl (by rw [← hback57]; rfl)
   replace M := M.rechunk 3 (c' := oS kv3 (n.keys.set (bsI n.keys k) ((lastF e l x45).key))) rfl (by show _ = own 9 1 kv3 ((n.keys.set (bsI n.keys k) ((lastF e l x45).key)).length) ((n.keys.set (bsI n.keys k) ((lastF e l x45).key)).flatMap strE); rw [List.length_set])
   replace M := M.rechunk 5 (c' := own 3 1 vv5 (n.vals.length) ((n.vals.set (bsI n.keys k) ((lastF e l x45).val)).flatMap intE)) rfl (by rw [← hback65]; rfl)
   replace M := M.rechunk 5 (c' := oI vv5 (n.vals.set (bsI n.keys k) ((lastF e l x45).val))) rfl (by show _ = own 3 1 vv5 ((n.vals.set (bsI n.keys k) ((lastF e l x45).val)).length) ((n.vals.set (bsI n.keys k) ((lastF e l x45).val)).flatMap intE); rw [List.length_set])
   have fq := M.frm [arenaC 143 145 S ab l] [bk b47 #[(vS ((lastF e l x45).key)), (vI ((lastF e l x45).val))] 41, bk b13 #[(vB n.leaf), kv3, dv4, vv5] 99, oS kv3 (n.keys.set (bsI n.keys k) ((lastF e l x45).key)), oH dv4 n.kids, oI vv5 (n.vals.set (bsI n.keys k) ((lastF e l x45).val)), bk b1 #[(vI h.at_), (vI h.turn)] 92] [1, 0, 2, 3, 4, 5, 6] rfl
   refine WL.callX rfl (tr_put tb ab r fu ln l S h kv3 dv4 vv5 (⟨n.leaf, n.keys.set (bsI n.keys k) ((lastF e l x45).key), n.kids, n.vals.set (bsI n.keys k) ((lastF e l x45).val)⟩ : Nd) (by assumption) (by simp [insL] <;> omega) (by simp [insL] <;> omega) (by simp [insL] <;> omega) (M.eF fq ⟨(M.rF fq 0 rfl), ((M.cF fq 2 rfl).imp fun _ h => own_slAt h), ((M.cF fq 3 rfl).imp fun _ h => own_slAt h), ((M.cF fq 4 rfl).imp fun _ h => own_slAt h), trivial⟩)) (CallsF.func Try.en84 rfl) ?_
   rintro _ w68 ⟨S67, rfl, m⟩
   replace M := M.lF fq m
   clear m
   refine WL.nil ?_
   obtain ⟨l1_, hl1_⟩ : ∃ q, ((rput l h (⟨n.leaf, n.keys.set (bsI n.keys k) ((lastF e l x45).key), n.kids, n.vals.set (bsI n.keys k) ((lastF e l x45).val)⟩ : Nd)).1) = q := ⟨_, rfl⟩
   have hAl1_ : SmallA l1_ := by rw [← hl1_]; first | exact SmallA.put (by assumption) (by first | omega | (simp [insL] <;> omega)) (by first | omega | (simp [insL] <;> omega)) (by first | omega | (simp [insL] <;> omega)) | exact SmallA.free (by assumption)
   replace M := M.rechunk 0 (c' := arenaC 143 145 S67 ab l1_) rfl (by rw [hl1_])
   rw [hl1_] at hO3 hM
   refine W.region rfl (wP (vP b47) (wS (vS ((lastF e l x45).key)) rfl (Step.load1 Try.sc9 rfl ((M.cell 1 rfl 0).trans rfl)) (wA (vS ((lastF e l x45).key)) (WL.nil (W.seq' ?_)))))
   replace M := M.loseI 1
   refine W.region rfl (wM (vP tb) (wP (Value.pointer (some ⟨b13, 2, none⟩)) (wS dv4 rfl (Step.load1 Try.sc96 rfl ((M.cell 1 rfl 2).trans rfl)) (wM (vI (↑(bsI n.keys k))) (wS (vQ dv4 (bsI n.keys k) 2) rfl (sX (bsI n.keys k) Try.un96 Try.el92 rfl rfl hb43) ?_)))))
   refine wS (Value.agg #[(vI x45.at_), (vI x45.turn)]) rfl (Step.loadEN (k := 0) (cs' := [(vI x45.at_), (vI x45.turn)]) Try.ag92 (flat_ec (own_slAt (M.chunk 3 rfl).inv) hx45 handleE_len) (by decide) rfl rfl rfl) (wM (vS ((lastF e l x45).key)) ?_)
   have fq := M.frm [arenaC 143 145 S67 ab l1_] [bk b13 #[(vB n.leaf), kv3, dv4, vv5] 99, oS kv3 (n.keys.set (bsI n.keys k) ((lastF e l x45).key)), oH dv4 n.kids, oI vv5 (n.vals.set (bsI n.keys k) ((lastF e l x45).val)), bk b1 #[(vI h.at_), (vI h.turn)] 92] [0, 1, 2, 3, 4, 5] rfl
   refine WL.callX rfl (ih e (by omega) tb ab r fu ln l1_ S67 x45 ((lastF e l x45).key) (by assumption) (M.eF fq ⟨(M.rF fq 0 rfl), trivial⟩)) (CallsF.func Try.en48 rfl) ?_
   rintro _ w70 ⟨S69, rfl, m⟩
   replace M := M.lF fq m
   clear m
   refine WL.nil ?_
   replace M := M.loseI 4
   replace M := M.loseI 3
   replace M := M.loseI 2
   replace M := M.loseI 1
   refine W.region rfl (wM (vP tb) (wS (Value.agg #[(vI h.at_), (vI h.turn)]) rfl (Step.loadN Try.ag92 rfl (M.blk 1 rfl) (Nat.le_of_ble_eq_true rfl) rfl) (wM (vI (↑(bsI n.keys k))) ?_)))
   have fq := M.frm [arenaC 143 145 S69 ab (remF e l1_ x45 ((lastF e l x45).key))] [bk b1 #[(vI h.at_), (vI h.turn)] 92] [0, 1] rfl
   refine WL.callX rfl (tr_mend tb ab r fu ln (remF e l1_ x45 ((lastF e l x45).key)) S69 h (bsI n.keys k) (by assumption) (M.eF fq ⟨(M.rF fq 0 rfl), trivial⟩)) (CallsF.func Try.en92 rfl) ?_
   rintro _ w72 ⟨S71, rfl, m⟩
   replace M := M.lF fq m
   clear m
   refine WL.nil ?_
   refine ⟨.inr rfl, undef, ?_, ?_⟩
   · exact ⟨rfl, Res.none⟩
   have e73 : (remF (e + 1) l h k) = (mendF (remF e l1_ x45 ((lastF e l x45).key)) h (bsI n.keys k)) := by
    rw [remF_hit hn h17 hlf_ hgd_]
    rw [hl1_]
   replace M := M.rechunk 0 (c' := arenaC 143 145 S71 ab (remF (e + 1) l h k)) rfl (congrArg (fun z => arenaC 143 145 S71 ab z) e73.symm)
   refine ⟨S71, ?_, M.close [0] rfl (by decide) trivial⟩
   rfl
 ·
  obtain ⟨e, rfl, hkl_, hO2⟩ := remOk_miss hO hn h17
  rw [h17]
  refine WL.pass rfl ?_
  refine WL.pass rfl ?_
  refine wS (vB false) rfl (Step.pick (t := false) rfl rfl) (wA (vB false) (WL.nil ?_))
  refine W.cond (t := false) rfl (fun h => by cases h) (fun _ => ?_)
  refine wR (wM (vB false) (wA (vB false) (WL.nil ?_)))
  refine W.cond (t := false) rfl (fun h => by cases h) (fun _ => ?_)
  refine W.skip (wR (wM (vP tb) (wP (Value.pointer (some ⟨b13, 2, none⟩)) (wS dv4 rfl (Step.load1 Try.sc96 rfl ((M.cell 0 rfl 2).trans rfl)) (wM (vI (↑(bsI n.keys k))) ?_)))))
  obtain ⟨cap75, hb74⟩ := SlAt.base (own_slAt (M.chunk 3 rfl).inv) (by omega)
  obtain ⟨x76, hx76⟩ := elem_of_lt (xs := n.kids) (i := bsI n.keys k) (by omega)
  have hgd_ : n.kids.getD (bsI n.keys k) hdZero = x76 := by rw [List.getD_eq_getElem?_getD, hx76]; rfl
  obtain ⟨hO3, hM⟩ := hO2 _ hgd_
  refine wS (vQ dv4 (bsI n.keys k) 2) rfl (sX (bsI n.keys k) Try.un96 Try.el92 rfl rfl hb74) (wS (Value.agg #[(vI x76.at_), (vI x76.turn)]) rfl (Step.loadEN (k := 0) (cs' := [(vI x76.at_), (vI x76.turn)]) Try.ag92 (flat_ec (own_slAt (M.chunk 3 rfl).inv) hx76 handleE_len) (by decide) rfl rfl rfl) (wM (vS k) ?_))
  have fq := M.frm [arenaC 143 145 S ab l] [bk b13 #[(vB n.leaf), kv3, dv4, vv5] 99, oS kv3 n.keys, oH dv4 n.kids, oI vv5 n.vals, bk b1 #[(vI h.at_), (vI h.turn)] 92] [1, 0, 2, 3, 4, 5] rfl
  refine WL.callX rfl (ih e (by omega) tb ab r fu ln l S x76 k (by assumption) (M.eF fq ⟨(M.rF fq 0 rfl), trivial⟩)) (CallsF.func Try.en48 rfl) ?_
  rintro _ w78 ⟨S77, rfl, m⟩
  replace M := M.lF fq m
  clear m
  refine WL.nil ?_
  replace M := M.loseI 4
  replace M := M.loseI 3
  replace M := M.loseI 2
  replace M := M.loseI 1
  refine W.region rfl (wM (vP tb) (wS (Value.agg #[(vI h.at_), (vI h.turn)]) rfl (Step.loadN Try.ag92 rfl (M.blk 1 rfl) (Nat.le_of_ble_eq_true rfl) rfl) (wM (vI (↑(bsI n.keys k))) ?_)))
  have fq := M.frm [arenaC 143 145 S77 ab (remF e l x76 k)] [bk b1 #[(vI h.at_), (vI h.turn)] 92] [0, 1] rfl
  refine WL.callX rfl (tr_mend tb ab r fu ln (remF e l x76 k) S77 h (bsI n.keys k) (by assumption) (M.eF fq ⟨(M.rF fq 0 rfl), trivial⟩)) (CallsF.func Try.en92 rfl) ?_
  rintro _ w80 ⟨S79, rfl, m⟩
  replace M := M.lF fq m
  clear m
  refine WL.nil ?_
  refine ⟨.inr rfl, undef, ?_, ?_⟩
  · exact ⟨rfl, Res.none⟩
  have e81 : (remF (e + 1) l h k) = (mendF (remF e l x76 k) h (bsI n.keys k)) := by
   rw [remF_miss hn h17 hgd_]
  replace M := M.rechunk 0 (c' := arenaC 143 145 S79 ab (remF (e + 1) l h k)) rfl (congrArg (fun z => arenaC 143 145 S79 ab z) e81.symm)
  refine ⟨S79, ?_, M.close [0] rfl (by decide) trivial⟩
  rfl
end Go.Proofs
set_option maxRecDepth 100000
namespace Go.Proofs
open Go Tp
theorem Try.en61 : Enters Try.prog 61 := fun _ _ => by kernel_rfl
theorem tab_new {G : Nat → Prop} {w : World}    (M : Mem G (fun _ => False) w [] [] w) : Rets Try.prog 30 #[] w fun r w' => ∃ (tb' : Nat) (ab' : Nat) (S' : Nat → Prop), r = (vP tb') ∧ Mem G (fun _ => False) w [bk tb' #[(vP ab'), (vI 0), (vI 0), (vB false), (vI 0)] 94, arenaC 143 145 S' ab' ([] : List RPlace)] [] w' := by
 refine Rets.enter 4 _ Try.func30 rfl Try.ntmps30 Try.results30 (by simp) ?_
 refine wR (wA vN (WL.nil (wR ?_)))
 refine WL.callX rfl (ar_new  (M.enterW0 trivial)) (CallsF.func Try.en61 rfl) ?_
 rintro _ w3 ⟨ab1, S2, rfl, m⟩
 replace M := M.leaveW0 m
 clear m
 refine wP (Value.agg #[(vP ab1), (vI 0), (vI 0), (vB false), (vI 0)]) ?_
 refine WL.box (v := (Value.agg #[(vP ab1), (vI 0), (vI 0), (vB false), (vI 0)])) (c := #[(vP ab1), (vI 0), (vI 0), (vB false), (vI 0)]) M rfl rfl rfl (fun b4 w5 hb4 M => ?_)
 refine wA (vP b4) (WL.nil ?_)
 refine W.ret ?_
 refine ⟨.inl rfl, (vP b4), ?_, ?_⟩
 · exact ⟨rfl, (Res.r1 (show RV _ _ _ (.tmp 0) (vP b4) from by exact rfl))⟩
 refine ⟨b4, ab1, S2, ?_, M.close [0, 1] rfl (by decide) trivial⟩
 rfl
theorem tab_len0 {G : Nat → Prop} {w : World}    (M : Mem G (fun _ => False) w [] [] w) : Rets Try.prog 42 #[vN] w fun r w' => r = (vI 0) ∧ Mem G (fun _ => False) w [] [] w' := by
 refine Rets.enter 9 _ Try.func42 rfl Try.ntmps42 Try.results42 (by simp) ?_
 refine wR (wA (vI 0) (WL.nil (W.seq' (wR (wM vN ?_)))))
 refine wP (vB true) (WL.nil ?_)
 refine W.cond (t := true) rfl (fun _ => ?_) (fun h => by cases h)
 refine wR (wA (vI 0) (WL.nil ?_))
 refine W.ret ?_
 refine ⟨.inl rfl, (vI 0), ?_, ?_⟩
 · exact ⟨rfl, (Res.r1 (show RV _ _ _ (.tmp 2) (vI 0) from by exact rfl))⟩
 refine ⟨?_, M.close [] rfl (by decide) trivial⟩
 rfl
theorem tab_len {G X : Nat → Prop} {w : World} (tb ab : Nat) (rt : Handle) (fu : Bool) (ln : Int) (l : List RPlace) (S : Nat → Prop)   (M : Mem G X w [bk tb #[(vP ab), (vI rt.at_), (vI rt.turn), (vB fu), (vI ln)] 94, arenaC 143 145 S ab l] [] w) : Rets Try.prog 42 #[(vP tb)] w fun r w' => r = (vI ln) ∧ Mem G X w [bk tb #[(vP ab), (vI rt.at_), (vI rt.turn), (vB fu), (vI ln)] 94, arenaC 143 145 S ab l] [] w' := by
 refine Rets.enter 9 _ Try.func42 rfl Try.ntmps42 Try.results42 (by simp) ?_
 refine wR (wA (vI 0) (WL.nil (W.seq' (wR (wM (vP tb) ?_)))))
 refine wP (vB false) (WL.nil ?_)
 refine W.cond (t := false) rfl (fun h => by cases h) (fun _ => ?_)
 refine W.skip (wR (wM (vP tb) (wP (vP tb) (wP (Value.pointer (some ⟨tb, 4, none⟩)) (wS (vI ln) rfl (Step.load1 Try.sc3 rfl ((M.cell 0 rfl 4).trans rfl)) ?_)))))
 refine wA (vI ln) (WL.nil ?_)
 refine W.ret ?_
 refine ⟨.inl rfl, (vI ln), ?_, ?_⟩
 · exact ⟨rfl, (Res.r1 (show RV _ _ _ (.tmp 2) (vI ln) from by exact rfl))⟩
 refine ⟨?_, M.close [0, 1] rfl (by decide) trivial⟩
 rfl
theorem tab_put0 {G : Nat → Prop} {w : World} (k : ByteArray) (v : Int)   (M : Mem G (fun _ => False) w [] [] w) : Rets Try.prog 18 #[vN, (vS k), (vI v)] w fun r w' => r = (Value.tuple #[(vI 0), (vB false)]) ∧ Mem G (fun _ => False) w [] [] w' := by
 refine Rets.enter 84 _ Try.func18 rfl Try.ntmps18 Try.results18 (by simp) ?_
 refine wR (wA (vI 0) (wA (vB false) (WL.nil (W.seq' (wR ?_)))))
 refine wM vN (wP (vB true) (WL.nil ?_))
 refine W.cond (t := true) rfl (fun _ => ?_) (fun h => by cases h)
 refine wR (wA (vI 0) (wA (vB false) (WL.nil ?_)))
 refine W.ret ?_
 refine ⟨.inl rfl, (Value.tuple #[(vI 0), (vB false)]), ?_, ?_⟩
 · exact ⟨rfl, (Res.r2 (show RV _ _ _ (.tmp 6) (vI 0) from by exact rfl) (show RV _ _ _ (.tmp 7) (vB false) from by exact rfl))⟩
 refine ⟨?_, M.close [] rfl (by decide) trivial⟩
 rfl
end Go.Proofs
set_option maxRecDepth 100000
namespace Go.Proofs
open Go Tp
theorem Try.el4 : Elem Try.prog 4 (vB false) 1 1 := Elem.mk (by kernel_rfl)
set_option maxHeartbeats 1000000 in
theorem tab_put {G X : Nat → Prop} {w : World} (tb ab : Nat) (rt : Handle) (fu : Bool) (ln : Int) (l : List RPlace) (S : Nat → Prop) (k : ByteArray) (v : Int)  (hA : SmallA l) (d : Nat) (hO : insOk d (put0 l rt fu).1 (put0 l rt fu).2 (⟨k, v⟩ : THit)) (hS : SmallA (insF d (put0 l rt fu).1 (put0 l rt fu).2 (⟨k, v⟩ : THit)).1) (hln : 0 ≤ ln ∧ ln ≤ 1000000) (M : Mem G X w [bk tb #[(vP ab), (vI rt.at_), (vI rt.turn), (vB fu), (vI ln)] 94, arenaC 143 145 S ab l] [] w) : Rets Try.prog 18 #[(vP tb), (vS k), (vI v)] w fun r w' => ∃ (S' : Nat → Prop), r = (Value.tuple #[(vI ((putT d l rt fu ln (⟨k, v⟩ : THit)).2.2.1)), (vB ((putT d l rt fu ln (⟨k, v⟩ : THit)).2.2.2))]) ∧ Mem G X w [bk tb #[(vP ab), (vI (((putT d l rt fu ln (⟨k, v⟩ : THit)).1.2).at_)), (vI (((putT d l rt fu ln (⟨k, v⟩ : THit)).1.2).turn)), (vB true), (vI ((putT d l rt fu ln (⟨k, v⟩ : THit)).2.1))] 94, arenaC 143 145 S' ab ((putT d l rt fu ln (⟨k, v⟩ : THit)).1.1)] [] w' := by
 refine Rets.enter 84 _ Try.func18 rfl Try.ntmps18 Try.results18 (by simp) ?_
 refine wR (wA (vI 0) (wA (vB false) (WL.nil (W.seq' (wR ?_)))))
 refine wM (vP tb) (wP (vB false) (WL.nil ?_))
 refine W.cond (t := false) rfl (fun h => by cases h) (fun _ => ?_)
 refine W.skip (W.seq' (wR (wM (vP tb) (wP (vP tb) (wP (Value.pointer (some ⟨tb, 3, none⟩)) ?_)))))
 refine wS (vB fu) rfl (Step.load1 Try.sc4 rfl ((M.cell 0 rfl 3).trans rfl)) (wP (vB !fu) (WL.nil ?_))
 refine W.cond (t := !fu) rfl (fun h1 => ?_) (fun h1 => ?_)
 ·
  refine W.region rfl (wM (vP tb) (wM (vP tb) (wM (vP tb) (wP (vP tb) (wP (vP tb) ?_)))))
  refine wS (vP ab) rfl (Step.load1 Try.sc90 rfl ((M.cell 0 rfl 0).trans rfl)) (wP (Value.agg #[(vB true), vZ, vZ, vZ]) ?_)
  have fq := M.frm [arenaC 143 145 S ab l] [bk tb #[(vP ab), (vI rt.at_), (vI rt.turn), (vB fu), (vI ln)] 94] [1, 0] rfl
  refine WL.callX rfl (ar_make ab l S vZ vZ vZ (⟨true, ([] : List ByteArray), ([] : List Handle), ([] : List Int)⟩ : Nd) (by assumption) (by simp [insL] <;> omega) (by simp [insL] <;> omega) (by simp [insL] <;> omega) (M.eF fq ⟨(Sh.pure fun w => SlAt.nil 1 w), (Sh.pure fun w => SlAt.nil 2 w), (Sh.pure fun w => SlAt.nil 1 w), trivial⟩)) (CallsF.func Try.en46 rfl) ?_
  rintro _ w3 ⟨S2, rfl, m⟩
  replace M := M.lF fq m
  clear m
  refine wP (vP tb) (wP (Value.pointer (some ⟨tb, 1, none⟩)) ?_)
  refine WL.store (v := (Value.agg #[(vI (((rmake l (⟨true, ([] : List ByteArray), ([] : List Handle), ([] : List Int)⟩ : Nd)).2).at_)), (vI (((rmake l (⟨true, ([] : List ByteArray), ([] : List Handle), ([] : List Int)⟩ : Nd)).2).turn))])) (cs := [(vI (((rmake l (⟨true, ([] : List ByteArray), ([] : List Handle), ([] : List Int)⟩ : Nd)).2).at_)), (vI (((rmake l (⟨true, ([] : List ByteArray), ([] : List Handle), ([] : List Int)⟩ : Nd)).2).turn))]) (c' := #[(vP ab), (vI (((rmake l (⟨true, ([] : List ByteArray), ([] : List Handle), ([] : List Int)⟩ : Nd)).2).at_)), (vI (((rmake l (⟨true, ([] : List ByteArray), ([] : List Handle), ([] : List Int)⟩ : Nd)).2).turn)), (vB fu), (vI ln)]) M 1 rfl rfl Try.el92.sized rfl rfl rfl rfl (Nat.le_of_ble_eq_true rfl) (cel_cons rfl (cel_cons rfl cel_nil)) rfl rfl (fun w4 M => ?_)
  refine wP (vP tb) (wP (Value.pointer (some ⟨tb, 3, none⟩)) ?_)
  refine WL.store (v := (vB true)) (cs := [(vB true)]) (c' := #[(vP ab), (vI (((rmake l (⟨true, ([] : List ByteArray), ([] : List Handle), ([] : List Int)⟩ : Nd)).2).at_)), (vI (((rmake l (⟨true, ([] : List ByteArray), ([] : List Handle), ([] : List Int)⟩ : Nd)).2).turn)), (vB true), (vI ln)]) M 1 rfl rfl Try.el4.sized rfl rfl rfl rfl (Nat.le_of_ble_eq_true rfl) (cel_cons rfl cel_nil) rfl rfl (fun w5 M => ?_)
  refine WL.nil (W.seq' ?_)
  replace M := M.rechunk 1 (c' := bk tb #[(vP ab), (vI ((put0 l rt fu).2.at_)), (vI ((put0 l rt fu).2.turn)), (vB true), (vI ln)] 94) rfl (by simp [put0, (by simpa using h1)])
  replace M := M.rechunk 0 (c' := arenaC 143 145 S2 ab ((put0 l rt fu).1)) rfl (by simp [put0, (by simpa using h1)])
  have hA0_ : SmallA (put0 l rt fu).1 := (insOk_node hO rfl).small
  refine W.region rfl (wM (vP tb) (wM (vP tb) (wP (vP tb) (wP (Value.pointer (some ⟨tb, 1, none⟩)) (wS (Value.agg #[(vI ((put0 l rt fu).2.at_)), (vI ((put0 l rt fu).2.turn))]) rfl (Step.loadN Try.ag92 rfl (M.blk 1 rfl) (Nat.le_of_ble_eq_true rfl) rfl) ?_)))))
  refine wM (vS k) (wM (vI v) (wP (Value.agg #[(vS k), (vI v)]) ?_))
  have fq := M.frm [arenaC 143 145 S2 ab ((put0 l rt fu).1)] [bk tb #[(vP ab), (vI ((put0 l rt fu).2.at_)), (vI ((put0 l rt fu).2.turn)), (vB true), (vI ln)] 94] [0, 1] rfl
  refine WL.callX rfl (tr_insert d tb ab ((put0 l rt fu).2) true ln ((put0 l rt fu).1) S2 ((put0 l rt fu).2) (⟨k, v⟩ : THit) (by assumption) (M.eF fq ⟨(M.cF fq 0 rfl), trivial⟩)) (CallsF.func Try.en47 rfl) ?_
  rintro _ w8 ⟨u6, S7, rfl, m⟩
  replace M := M.lF fq m
  clear m
  refine wM (Value.tuple #[(vI ((insF d ((put0 l rt fu).1) ((put0 l rt fu).2) (⟨k, v⟩ : THit)).2.1.1)), (vB ((insF d ((put0 l rt fu).1) ((put0 l rt fu).2) (⟨k, v⟩ : THit)).2.1.2)), u6]) (wP (vI ((insF d ((put0 l rt fu).1) ((put0 l rt fu).2) (⟨k, v⟩ : THit)).2.1.1)) (wP (vB ((insF d ((put0 l rt fu).1) ((put0 l rt fu).2) (⟨k, v⟩ : THit)).2.1.2)) (wP u6 (wA (vI ((insF d ((put0 l rt fu).1) ((put0 l rt fu).2) (⟨k, v⟩ : THit)).2.1.1)) (wA (vB ((insF d ((put0 l rt fu).1) ((put0 l rt fu).2) (⟨k, v⟩ : THit)).2.1.2)) ?_)))))
  refine wA u6 (WL.nil (W.seq' (W.seq' ?_)))
  rcases ho_ : (insF d ((put0 l rt fu).1) ((put0 l rt fu).2) (⟨k, v⟩ : THit)).2.2 with _ | u_
  ·
   rw [ho_] at M
   obtain rfl := M.upNone 1 rfl
   replace M := M.sel (L' := [arenaC 143 145 S7 ab ((insF d ((put0 l rt fu).1) ((put0 l rt fu).2) (⟨k, v⟩ : THit)).1), bk tb #[(vP ab), (vI ((put0 l rt fu).2.at_)), (vI ((put0 l rt fu).2.turn)), (vB true), (vI ln)] 94]) [0, 2] rfl (by decide)
   refine W.region rfl (wM vN (wP (vB false) (WL.nil ?_)))
   refine W.cond (t := false) rfl (fun h => by cases h) (fun _ => ?_)
   refine W.skip (W.seq' (wR (wM (vB ((insF d ((put0 l rt fu).1) ((put0 l rt fu).2) (⟨k, v⟩ : THit)).2.1.2)) (wP (vB (!((insF d ((put0 l rt fu).1) ((put0 l rt fu).2) (⟨k, v⟩ : THit)).2.1.2))) (WL.nil ?_)))))
   refine W.cond (t := !((insF d ((put0 l rt fu).1) ((put0 l rt fu).2) (⟨k, v⟩ : THit)).2.1.2)) rfl (fun h10 => ?_) (fun h10 => ?_)
   ·
    refine W.region rfl (wM (vP tb) (wP (vP tb) (wP (Value.pointer (some ⟨tb, 4, none⟩)) (wS (vI ln) rfl (Step.load1 Try.sc3 rfl ((M.cell 1 rfl 4).trans rfl)) (wS (vI (ln + 1)) rfl (Step.add rfl rfl (wrap_i64 (by omega))) ?_)))))
    refine wP (vP tb) (wP (Value.pointer (some ⟨tb, 4, none⟩)) ?_)
    refine WL.store (v := (vI (ln + 1))) (cs := [(vI (ln + 1))]) (c' := #[(vP ab), (vI ((put0 l rt fu).2.at_)), (vI ((put0 l rt fu).2.turn)), (vB true), (vI (ln + 1))]) M 1 rfl rfl Try.el3.sized rfl rfl rfl rfl (Nat.le_of_ble_eq_true rfl) (cel_cons rfl cel_nil) rfl rfl (fun w11 M => ?_)
    refine WL.nil (wR (wM (vI ((insF d ((put0 l rt fu).1) ((put0 l rt fu).2) (⟨k, v⟩ : THit)).2.1.1)) (wS (vB false) rfl (Step.cast (congrArg Value.bool (show ((insF d ((put0 l rt fu).1) ((put0 l rt fu).2) (⟨k, v⟩ : THit)).2.1.2) = false by simpa using h10)) (Step.move rfl)) (wA (vI ((insF d ((put0 l rt fu).1) ((put0 l rt fu).2) (⟨k, v⟩ : THit)).2.1.1)) (wA (vB false) ?_)))))
    refine WL.nil ?_
    refine W.ret ?_
    refine ⟨.inl rfl, (Value.tuple #[(vI ((insF d ((put0 l rt fu).1) ((put0 l rt fu).2) (⟨k, v⟩ : THit)).2.1.1)), (vB false)]), ?_, ?_⟩
    · exact ⟨rfl, (Res.r2 (show RV _ _ _ (.tmp 6) (vI ((insF d ((put0 l rt fu).1) ((put0 l rt fu).2) (⟨k, v⟩ : THit)).2.1.1)) from by exact rfl) (show RV _ _ _ (.tmp 7) (vB false) from by exact rfl))⟩
    have e12 : (bk tb #[(vP ab), (vI (((putT d l rt fu ln (⟨k, v⟩ : THit)).1.2).at_)), (vI (((putT d l rt fu ln (⟨k, v⟩ : THit)).1.2).turn)), (vB true), (vI ((putT d l rt fu ln (⟨k, v⟩ : THit)).2.1))] 94 : Chunk) = (bk tb #[(vP ab), (vI ((put0 l rt fu).2.at_)), (vI ((put0 l rt fu).2.turn)), (vB true), (vI (ln + 1))] 94 : Chunk) := by
     have hth_ : (insF d (put0 l rt fu).1 (put0 l rt fu).2 (⟨k, v⟩ : THit)).2.1.2 = false := by simpa using h10
     unfold putT putU; simp only [ho_]
     try simp [hth_]
    replace M := M.rechunk 1 (c' := bk tb #[(vP ab), (vI (((putT d l rt fu ln (⟨k, v⟩ : THit)).1.2).at_)), (vI (((putT d l rt fu ln (⟨k, v⟩ : THit)).1.2).turn)), (vB true), (vI ((putT d l rt fu ln (⟨k, v⟩ : THit)).2.1))] 94) rfl e12.symm
    have e13 : (putT d l rt fu ln (⟨k, v⟩ : THit)).1.1 = (insF d ((put0 l rt fu).1) ((put0 l rt fu).2) (⟨k, v⟩ : THit)).1 := by
     have hth_ : (insF d (put0 l rt fu).1 (put0 l rt fu).2 (⟨k, v⟩ : THit)).2.1.2 = false := by simpa using h10
     unfold putT putU; simp only [ho_]
     try simp [hth_]
    replace M := M.rechunk 0 (c' := arenaC 143 145 S7 ab ((putT d l rt fu ln (⟨k, v⟩ : THit)).1.1)) rfl (congrArg (fun z => arenaC 143 145 S7 ab z) e13.symm)
    refine ⟨S7, ?_, M.close [1, 0] rfl (by decide) trivial⟩
    have hth_ : (insF d (put0 l rt fu).1 (put0 l rt fu).2 (⟨k, v⟩ : THit)).2.1.2 = false := by simpa using h10
    unfold putT putU; simp only [ho_]
    try simp [hth_]
   ·
    refine W.skip (wR (wM (vI ((insF d ((put0 l rt fu).1) ((put0 l rt fu).2) (⟨k, v⟩ : THit)).2.1.1)) (wS (vB true) rfl (Step.cast (congrArg Value.bool (show ((insF d ((put0 l rt fu).1) ((put0 l rt fu).2) (⟨k, v⟩ : THit)).2.1.2) = true by simpa using h10)) (Step.move rfl)) (wA (vI ((insF d ((put0 l rt fu).1) ((put0 l rt fu).2) (⟨k, v⟩ : THit)).2.1.1)) (wA (vB true) ?_)))))
    refine WL.nil ?_
    refine W.ret ?_
    refine ⟨.inl rfl, (Value.tuple #[(vI ((insF d ((put0 l rt fu).1) ((put0 l rt fu).2) (⟨k, v⟩ : THit)).2.1.1)), (vB true)]), ?_, ?_⟩
    · exact ⟨rfl, (Res.r2 (show RV _ _ _ (.tmp 6) (vI ((insF d ((put0 l rt fu).1) ((put0 l rt fu).2) (⟨k, v⟩ : THit)).2.1.1)) from by exact rfl) (show RV _ _ _ (.tmp 7) (vB true) from by exact rfl))⟩
    have e14 : (bk tb #[(vP ab), (vI (((putT d l rt fu ln (⟨k, v⟩ : THit)).1.2).at_)), (vI (((putT d l rt fu ln (⟨k, v⟩ : THit)).1.2).turn)), (vB true), (vI ((putT d l rt fu ln (⟨k, v⟩ : THit)).2.1))] 94 : Chunk) = (bk tb #[(vP ab), (vI ((put0 l rt fu).2.at_)), (vI ((put0 l rt fu).2.turn)), (vB true), (vI ln)] 94 : Chunk) := by
     have hth_ : (insF d (put0 l rt fu).1 (put0 l rt fu).2 (⟨k, v⟩ : THit)).2.1.2 = true := by simpa using h10
     unfold putT putU; simp only [ho_]
     try simp [hth_]
    replace M := M.rechunk 1 (c' := bk tb #[(vP ab), (vI (((putT d l rt fu ln (⟨k, v⟩ : THit)).1.2).at_)), (vI (((putT d l rt fu ln (⟨k, v⟩ : THit)).1.2).turn)), (vB true), (vI ((putT d l rt fu ln (⟨k, v⟩ : THit)).2.1))] 94) rfl e14.symm
    have e15 : (putT d l rt fu ln (⟨k, v⟩ : THit)).1.1 = (insF d ((put0 l rt fu).1) ((put0 l rt fu).2) (⟨k, v⟩ : THit)).1 := by
     have hth_ : (insF d (put0 l rt fu).1 (put0 l rt fu).2 (⟨k, v⟩ : THit)).2.1.2 = true := by simpa using h10
     unfold putT putU; simp only [ho_]
     try simp [hth_]
    replace M := M.rechunk 0 (c' := arenaC 143 145 S7 ab ((putT d l rt fu ln (⟨k, v⟩ : THit)).1.1)) rfl (congrArg (fun z => arenaC 143 145 S7 ab z) e15.symm)
    refine ⟨S7, ?_, M.close [1, 0] rfl (by decide) trivial⟩
    have hth_ : (insF d (put0 l rt fu).1 (put0 l rt fu).2 (⟨k, v⟩ : THit)).2.1.2 = true := by simpa using h10
    unfold putT putU; simp only [ho_]
    try simp [hth_]
  ·
   rw [ho_] at M
   obtain ⟨b9, rfl, M⟩ := M.upSome 1 rfl
   refine W.region rfl (wM (vP b9) (wP (vB true) (WL.nil ?_)))
   refine W.cond (t := true) rfl (fun _ => ?_) (fun h => by cases h)
   refine W.drawn2 M [0, 1, 2, 3, 4, 5, 6, 7, 8, 9, 11, 12, 13, 14, 15, 17, 18, 19, 20, 21, 22, 23, 24, 10, 16, 25, 26, 27] [28, 29, 30] [27, 30] [10, 16, 25] _ _ (sN (sY (sY sE))) (fun _ h => h) Try.mixed (by kernel_rfl) ?_
   refine tP (vP tb) rfl (fun w => (Step.move rfl)) ?_
   refine tP (vP tb) rfl (fun w => (Step.move rfl)) ?_
   refine tP (vP tb) rfl (fun w => sP) ?_
   refine tP (vP tb) rfl (fun w => sP) ?_
   refine tR (vP ab) rfl (fun A w M => (Step.load1 Try.sc90 rfl ((M.cell 2 rfl 0).trans rfl))) ?_
   refine tP (vP b9) rfl (fun w => (Step.move rfl)) ?_
   refine tP (vP b9) rfl (fun w => sP) ?_
   refine tP (vP b9) rfl (fun w => sP) ?_
   refine tP (vP b9) rfl (fun w => sP) ?_
   refine tR (vS u_.1.key) rfl (fun A w M => (Step.load1 Try.sc9 rfl ((M.cell 1 rfl 0).trans rfl))) ?_
   refine tP (vP b9) rfl (fun w => (Step.move rfl)) ?_
   refine tP (vP b9) rfl (fun w => sP) ?_
   refine tP (vP b9) rfl (fun w => sP) ?_
   refine tP (Value.pointer (some ⟨b9, 1, none⟩)) rfl (fun w => sP) ?_
   refine tR (vI u_.1.val) rfl (fun A w M => (Step.load1 Try.sc3 rfl ((M.cell 1 rfl 1).trans rfl))) ?_
   refine tP (vP tb) rfl (fun w => (Step.move rfl)) ?_
   refine tP (vP tb) rfl (fun w => sP) ?_
   refine tP (Value.pointer (some ⟨tb, 1, none⟩)) rfl (fun w => sP) ?_
   refine tR (Value.agg #[(vI ((put0 l rt fu).2.at_)), (vI ((put0 l rt fu).2.turn))]) rfl (fun A w M => (Step.loadN Try.ag92 rfl (M.blk 2 rfl) (Nat.le_of_ble_eq_true rfl) rfl)) ?_
   refine tP (vP b9) rfl (fun w => (Step.move rfl)) ?_
   refine tP (vP b9) rfl (fun w => sP) ?_
   refine tP (Value.pointer (some ⟨b9, 2, none⟩)) rfl (fun w => sP) ?_
   refine tR (Value.agg #[(vI u_.2.at_), (vI u_.2.turn)]) rfl (fun A w M => (Step.loadN Try.ag92 rfl (M.blk 1 rfl) (Nat.le_of_ble_eq_true rfl) rfl)) ?_
   refine TW.new (obj := .cells #[(vS u_.1.key)] 9) (fun b => .slice (some ⟨b, 0, none⟩) 1 1) rfl (by decide) (by decide) rfl (fun w => Step.make (by kernel_rfl)) (fun b46 => ?_)
   refine TW.new (obj := .cells #[(vI u_.1.val)] 3) (fun b => .slice (some ⟨b, 0, none⟩) 1 1) rfl (by decide) (by decide) rfl (fun w => Step.make (by kernel_rfl)) (fun b47 => ?_)
   refine TW.new (obj := .cells #[(vI ((put0 l rt fu).2.at_)), (vI ((put0 l rt fu).2.turn)), (vI u_.2.at_), (vI u_.2.turn)] 92) (fun b => .slice (some ⟨b, 0, none⟩) 2 2) rfl (by decide) (by decide) rfl (fun w => Step.make (by kernel_rfl)) (fun b48 => ?_)
   refine tP (Value.agg #[(vB false), (Value.slice (some ⟨b46, 0, none⟩) 1 1), (Value.slice (some ⟨b48, 0, none⟩) 2 2), (Value.slice (some ⟨b47, 0, none⟩) 1 1)]) rfl (fun w => sP) ?_
   let Q : List Chunk := [bk b48 #[(vI ((put0 l rt fu).2.at_)), (vI ((put0 l rt fu).2.turn)), (vI u_.2.at_), (vI u_.2.turn)] 92, bk b47 #[(vI u_.1.val)] 3, bk b46 #[(vS u_.1.key)] 9, bk b9 #[(vS u_.1.key), (vI u_.1.val), (vI u_.2.at_), (vI u_.2.turn)] 104, bk tb #[(vP ab), (vI ((put0 l rt fu).2.at_)), (vI ((put0 l rt fu).2.turn)), (vB true), (vI ln)] 94]
   refine TW.callX (ι := (Nat → Prop)) (fun jx v_ => v_ = (Value.agg #[(vI (((rmake ((insF d ((put0 l rt fu).1) ((put0 l rt fu).2) (⟨k, v⟩ : THit)).1) (⟨false, ([u_.1.key] : List ByteArray), ([(put0 l rt fu).2, u_.2] : List Handle), ([u_.1.val] : List Int)⟩ : Nd)).2).at_)), (vI (((rmake ((insF d ((put0 l rt fu).1) ((put0 l rt fu).2) (⟨k, v⟩ : THit)).1) (⟨false, ([u_.1.key] : List ByteArray), ([(put0 l rt fu).2, u_.2] : List Handle), ([u_.1.val] : List Int)⟩ : Nd)).2).turn))])) (fun jx => arenaC 143 145 jx ab ((rmake ((insF d ((put0 l rt fu).1) ((put0 l rt fu).2) (⟨k, v⟩ : THit)).1) (⟨false, ([u_.1.key] : List ByteArray), ([(put0 l rt fu).2, u_.2] : List Handle), ([u_.1.val] : List Int)⟩ : Nd)).1) :: Q) (fun jx => []) rfl (by decide) rfl (fun jx => (sN (sN (sN (sN (sY (sY sE))))))) (fun jx r h => h) (fun A w M => have fq := M.frm [arenaC 143 145 S7 ab ((insF d ((put0 l rt fu).1) ((put0 l rt fu).2) (⟨k, v⟩ : THit)).1)] (fl A :: Q) [4, 0, 1, 2, 3, 5, 6] rfl; Rets.mono (ar_make ab ((insF d ((put0 l rt fu).1) ((put0 l rt fu).2) (⟨k, v⟩ : THit)).1) S7 (Value.slice (some ⟨b46, 0, none⟩) 1 1) (Value.slice (some ⟨b48, 0, none⟩) 2 2) (Value.slice (some ⟨b47, 0, none⟩) 1 1) (⟨false, ([u_.1.key] : List ByteArray), ([(put0 l rt fu).2, u_.2] : List Handle), ([u_.1.val] : List Int)⟩ : Nd) (by first | assumption | exact smallA_of rfl) (by simp [insL] <;> omega) (by simp [insL] <;> omega) (by simp [insL] <;> omega) (M.eF fq ⟨((M.cF fq 3 rfl).imp fun _ h => SlAt.of_blk (n := 1) (size := 1) h rfl (by decide)), ((M.cF fq 1 rfl).imp fun _ h => SlAt.of_blk (n := 2) (size := 2) h rfl (by decide)), ((M.cF fq 2 rfl).imp fun _ h => SlAt.of_blk (n := 1) (size := 1) h rfl (by decide)), trivial⟩)) (fun v_ w_ ⟨S49, e_, m⟩ => ⟨S49, e_, (M.lF fq m).sel [1, 0, 2, 3, 4, 5, 6] rfl (by decide), fun b hb => M.kF fq m b hb⟩)) (fun w => CallsF.func Try.en46 rfl) (fun S49 v hp hin => ?_)
   replace hp := hp.symm; subst hp
   obtain ⟨_, _, hin⟩ := hin
   clear hin
   refine TW.turn _ _ (sY (sY (sY (sY (sY (sN sE)))))) (fun _ h => h) ?_
   refine tP (vP tb) rfl (fun w => sP) ?_
   refine tP (Value.pointer (some ⟨tb, 1, none⟩)) rfl (fun w => sP) ?_
   refine TW.store (v := (Value.agg #[(vI (((rmake ((insF d ((put0 l rt fu).1) ((put0 l rt fu).2) (⟨k, v⟩ : THit)).1) (⟨false, ([u_.1.key] : List ByteArray), ([(put0 l rt fu).2, u_.2] : List Handle), ([u_.1.val] : List Int)⟩ : Nd)).2).at_)), (vI (((rmake ((insF d ((put0 l rt fu).1) ((put0 l rt fu).2) (⟨k, v⟩ : THit)).1) (⟨false, ([u_.1.key] : List ByteArray), ([(put0 l rt fu).2, u_.2] : List Handle), ([u_.1.val] : List Int)⟩ : Nd)).2).turn))])) (cs := [(vI (((rmake ((insF d ((put0 l rt fu).1) ((put0 l rt fu).2) (⟨k, v⟩ : THit)).1) (⟨false, ([u_.1.key] : List ByteArray), ([(put0 l rt fu).2, u_.2] : List Handle), ([u_.1.val] : List Int)⟩ : Nd)).2).at_)), (vI (((rmake ((insF d ((put0 l rt fu).1) ((put0 l rt fu).2) (⟨k, v⟩ : THit)).1) (⟨false, ([u_.1.key] : List ByteArray), ([(put0 l rt fu).2, u_.2] : List Handle), ([u_.1.val] : List Int)⟩ : Nd)).2).turn))]) (c' := #[(vP ab), (vI (((rmake ((insF d ((put0 l rt fu).1) ((put0 l rt fu).2) (⟨k, v⟩ : THit)).1) (⟨false, ([u_.1.key] : List ByteArray), ([(put0 l rt fu).2, u_.2] : List Handle), ([u_.1.val] : List Int)⟩ : Nd)).2).at_)), (vI (((rmake ((insF d ((put0 l rt fu).1) ((put0 l rt fu).2) (⟨k, v⟩ : THit)).1) (⟨false, ([u_.1.key] : List ByteArray), ([(put0 l rt fu).2, u_.2] : List Handle), ([u_.1.val] : List Int)⟩ : Nd)).2).turn)), (vB true), (vI ln)]) 5 rfl rfl (by decide) rfl Try.el92.sized rfl rfl rfl rfl (Nat.le_of_ble_eq_true rfl) (cel_cons rfl (cel_cons rfl cel_nil)) rfl rfl (sY (sY (sY (sY (sY (sN sE)))))) (fun r h => h) ?_
   refine TW.done (fun w51 M => ?_)
   refine W.seq' (wR (wM (vB ((insF d ((put0 l rt fu).1) ((put0 l rt fu).2) (⟨k, v⟩ : THit)).2.1.2)) (wP (vB (!((insF d ((put0 l rt fu).1) ((put0 l rt fu).2) (⟨k, v⟩ : THit)).2.1.2))) (WL.nil ?_))))
   refine W.cond (t := !((insF d ((put0 l rt fu).1) ((put0 l rt fu).2) (⟨k, v⟩ : THit)).2.1.2)) rfl (fun h52 => ?_) (fun h52 => ?_)
   ·
    refine W.region rfl (wM (vP tb) (wP (vP tb) (wP (Value.pointer (some ⟨tb, 4, none⟩)) (wS (vI ln) rfl (Step.load1 Try.sc3 rfl ((M.cell 5 rfl 4).trans rfl)) (wS (vI (ln + 1)) rfl (Step.add rfl rfl (wrap_i64 (by omega))) ?_)))))
    refine wP (vP tb) (wP (Value.pointer (some ⟨tb, 4, none⟩)) ?_)
    refine WL.store (v := (vI (ln + 1))) (cs := [(vI (ln + 1))]) (c' := #[(vP ab), (vI (((rmake ((insF d ((put0 l rt fu).1) ((put0 l rt fu).2) (⟨k, v⟩ : THit)).1) (⟨false, ([u_.1.key] : List ByteArray), ([(put0 l rt fu).2, u_.2] : List Handle), ([u_.1.val] : List Int)⟩ : Nd)).2).at_)), (vI (((rmake ((insF d ((put0 l rt fu).1) ((put0 l rt fu).2) (⟨k, v⟩ : THit)).1) (⟨false, ([u_.1.key] : List ByteArray), ([(put0 l rt fu).2, u_.2] : List Handle), ([u_.1.val] : List Int)⟩ : Nd)).2).turn)), (vB true), (vI (ln + 1))]) M 5 rfl rfl Try.el3.sized rfl rfl rfl rfl (Nat.le_of_ble_eq_true rfl) (cel_cons rfl cel_nil) rfl rfl (fun w53 M => ?_)
    refine WL.nil (wR (wM (vI ((insF d ((put0 l rt fu).1) ((put0 l rt fu).2) (⟨k, v⟩ : THit)).2.1.1)) (wS (vB false) rfl (Step.cast (congrArg Value.bool (show ((insF d ((put0 l rt fu).1) ((put0 l rt fu).2) (⟨k, v⟩ : THit)).2.1.2) = false by simpa using h52)) (Step.move rfl)) (wA (vI ((insF d ((put0 l rt fu).1) ((put0 l rt fu).2) (⟨k, v⟩ : THit)).2.1.1)) (wA (vB false) ?_)))))
    refine WL.nil ?_
    refine W.ret ?_
    refine ⟨.inl rfl, (Value.tuple #[(vI ((insF d ((put0 l rt fu).1) ((put0 l rt fu).2) (⟨k, v⟩ : THit)).2.1.1)), (vB false)]), ?_, ?_⟩
    · exact ⟨rfl, (Res.r2 (show RV _ _ _ (.tmp 6) (vI ((insF d ((put0 l rt fu).1) ((put0 l rt fu).2) (⟨k, v⟩ : THit)).2.1.1)) from by exact rfl) (show RV _ _ _ (.tmp 7) (vB false) from by exact rfl))⟩
    have e54 : (bk tb #[(vP ab), (vI (((putT d l rt fu ln (⟨k, v⟩ : THit)).1.2).at_)), (vI (((putT d l rt fu ln (⟨k, v⟩ : THit)).1.2).turn)), (vB true), (vI ((putT d l rt fu ln (⟨k, v⟩ : THit)).2.1))] 94 : Chunk) = (bk tb #[(vP ab), (vI (((rmake ((insF d ((put0 l rt fu).1) ((put0 l rt fu).2) (⟨k, v⟩ : THit)).1) (⟨false, ([u_.1.key] : List ByteArray), ([(put0 l rt fu).2, u_.2] : List Handle), ([u_.1.val] : List Int)⟩ : Nd)).2).at_)), (vI (((rmake ((insF d ((put0 l rt fu).1) ((put0 l rt fu).2) (⟨k, v⟩ : THit)).1) (⟨false, ([u_.1.key] : List ByteArray), ([(put0 l rt fu).2, u_.2] : List Handle), ([u_.1.val] : List Int)⟩ : Nd)).2).turn)), (vB true), (vI (ln + 1))] 94 : Chunk) := by
     have hth_ : (insF d (put0 l rt fu).1 (put0 l rt fu).2 (⟨k, v⟩ : THit)).2.1.2 = false := by simpa using h52
     unfold putT putU; simp only [ho_]
     try simp [hth_]
    replace M := M.rechunk 5 (c' := bk tb #[(vP ab), (vI (((putT d l rt fu ln (⟨k, v⟩ : THit)).1.2).at_)), (vI (((putT d l rt fu ln (⟨k, v⟩ : THit)).1.2).turn)), (vB true), (vI ((putT d l rt fu ln (⟨k, v⟩ : THit)).2.1))] 94) rfl e54.symm
    have e55 : (putT d l rt fu ln (⟨k, v⟩ : THit)).1.1 = (rmake ((insF d ((put0 l rt fu).1) ((put0 l rt fu).2) (⟨k, v⟩ : THit)).1) (⟨false, ([u_.1.key] : List ByteArray), ([(put0 l rt fu).2, u_.2] : List Handle), ([u_.1.val] : List Int)⟩ : Nd)).1 := by
     have hth_ : (insF d (put0 l rt fu).1 (put0 l rt fu).2 (⟨k, v⟩ : THit)).2.1.2 = false := by simpa using h52
     unfold putT putU; simp only [ho_]
     try simp [hth_]
    replace M := M.rechunk 0 (c' := arenaC 143 145 S49 ab ((putT d l rt fu ln (⟨k, v⟩ : THit)).1.1)) rfl (congrArg (fun z => arenaC 143 145 S49 ab z) e55.symm)
    refine ⟨S49, ?_, M.close [5, 0] rfl (by decide) trivial⟩
    have hth_ : (insF d (put0 l rt fu).1 (put0 l rt fu).2 (⟨k, v⟩ : THit)).2.1.2 = false := by simpa using h52
    unfold putT putU; simp only [ho_]
    try simp [hth_]
   ·
    refine W.skip (wR (wM (vI ((insF d ((put0 l rt fu).1) ((put0 l rt fu).2) (⟨k, v⟩ : THit)).2.1.1)) (wS (vB true) rfl (Step.cast (congrArg Value.bool (show ((insF d ((put0 l rt fu).1) ((put0 l rt fu).2) (⟨k, v⟩ : THit)).2.1.2) = true by simpa using h52)) (Step.move rfl)) (wA (vI ((insF d ((put0 l rt fu).1) ((put0 l rt fu).2) (⟨k, v⟩ : THit)).2.1.1)) (wA (vB true) ?_)))))
    refine WL.nil ?_
    refine W.ret ?_
    refine ⟨.inl rfl, (Value.tuple #[(vI ((insF d ((put0 l rt fu).1) ((put0 l rt fu).2) (⟨k, v⟩ : THit)).2.1.1)), (vB true)]), ?_, ?_⟩
    · exact ⟨rfl, (Res.r2 (show RV _ _ _ (.tmp 6) (vI ((insF d ((put0 l rt fu).1) ((put0 l rt fu).2) (⟨k, v⟩ : THit)).2.1.1)) from by exact rfl) (show RV _ _ _ (.tmp 7) (vB true) from by exact rfl))⟩
    have e56 : (bk tb #[(vP ab), (vI (((putT d l rt fu ln (⟨k, v⟩ : THit)).1.2).at_)), (vI (((putT d l rt fu ln (⟨k, v⟩ : THit)).1.2).turn)), (vB true), (vI ((putT d l rt fu ln (⟨k, v⟩ : THit)).2.1))] 94 : Chunk) = (bk tb #[(vP ab), (vI (((rmake ((insF d ((put0 l rt fu).1) ((put0 l rt fu).2) (⟨k, v⟩ : THit)).1) (⟨false, ([u_.1.key] : List ByteArray), ([(put0 l rt fu).2, u_.2] : List Handle), ([u_.1.val] : List Int)⟩ : Nd)).2).at_)), (vI (((rmake ((insF d ((put0 l rt fu).1) ((put0 l rt fu).2) (⟨k, v⟩ : THit)).1) (⟨false, ([u_.1.key] : List ByteArray), ([(put0 l rt fu).2, u_.2] : List Handle), ([u_.1.val] : List Int)⟩ : Nd)).2).turn)), (vB true), (vI ln)] 94 : Chunk) := by
     have hth_ : (insF d (put0 l rt fu).1 (put0 l rt fu).2 (⟨k, v⟩ : THit)).2.1.2 = true := by simpa using h52
     unfold putT putU; simp only [ho_]
     try simp [hth_]
    replace M := M.rechunk 5 (c' := bk tb #[(vP ab), (vI (((putT d l rt fu ln (⟨k, v⟩ : THit)).1.2).at_)), (vI (((putT d l rt fu ln (⟨k, v⟩ : THit)).1.2).turn)), (vB true), (vI ((putT d l rt fu ln (⟨k, v⟩ : THit)).2.1))] 94) rfl e56.symm
    have e57 : (putT d l rt fu ln (⟨k, v⟩ : THit)).1.1 = (rmake ((insF d ((put0 l rt fu).1) ((put0 l rt fu).2) (⟨k, v⟩ : THit)).1) (⟨false, ([u_.1.key] : List ByteArray), ([(put0 l rt fu).2, u_.2] : List Handle), ([u_.1.val] : List Int)⟩ : Nd)).1 := by
     have hth_ : (insF d (put0 l rt fu).1 (put0 l rt fu).2 (⟨k, v⟩ : THit)).2.1.2 = true := by simpa using h52
     unfold putT putU; simp only [ho_]
     try simp [hth_]
    replace M := M.rechunk 0 (c' := arenaC 143 145 S49 ab ((putT d l rt fu ln (⟨k, v⟩ : THit)).1.1)) rfl (congrArg (fun z => arenaC 143 145 S49 ab z) e57.symm)
    refine ⟨S49, ?_, M.close [5, 0] rfl (by decide) trivial⟩
    have hth_ : (insF d (put0 l rt fu).1 (put0 l rt fu).2 (⟨k, v⟩ : THit)).2.1.2 = true := by simpa using h52
    unfold putT putU; simp only [ho_]
    try simp [hth_]
 ·
  refine W.skip (W.seq' ?_)
  replace M := M.rechunk 0 (c' := bk tb #[(vP ab), (vI ((put0 l rt fu).2.at_)), (vI ((put0 l rt fu).2.turn)), (vB true), (vI ln)] 94) rfl (by simp [put0, (by simpa using h1)])
  replace M := M.rechunk 1 (c' := arenaC 143 145 S ab ((put0 l rt fu).1)) rfl (by simp [put0, (by simpa using h1)])
  have hA0_ : SmallA (put0 l rt fu).1 := (insOk_node hO rfl).small
  refine W.region rfl (wM (vP tb) (wM (vP tb) (wP (vP tb) (wP (Value.pointer (some ⟨tb, 1, none⟩)) (wS (Value.agg #[(vI ((put0 l rt fu).2.at_)), (vI ((put0 l rt fu).2.turn))]) rfl (Step.loadN Try.ag92 rfl (M.blk 0 rfl) (Nat.le_of_ble_eq_true rfl) rfl) ?_)))))
  refine wM (vS k) (wM (vI v) (wP (Value.agg #[(vS k), (vI v)]) ?_))
  have fq := M.frm [arenaC 143 145 S ab ((put0 l rt fu).1)] [bk tb #[(vP ab), (vI ((put0 l rt fu).2.at_)), (vI ((put0 l rt fu).2.turn)), (vB true), (vI ln)] 94] [1, 0] rfl
  refine WL.callX rfl (tr_insert d tb ab ((put0 l rt fu).2) true ln ((put0 l rt fu).1) S ((put0 l rt fu).2) (⟨k, v⟩ : THit) (by assumption) (M.eF fq ⟨(M.cF fq 0 rfl), trivial⟩)) (CallsF.func Try.en47 rfl) ?_
  rintro _ w60 ⟨u58, S59, rfl, m⟩
  replace M := M.lF fq m
  clear m
  refine wM (Value.tuple #[(vI ((insF d ((put0 l rt fu).1) ((put0 l rt fu).2) (⟨k, v⟩ : THit)).2.1.1)), (vB ((insF d ((put0 l rt fu).1) ((put0 l rt fu).2) (⟨k, v⟩ : THit)).2.1.2)), u58]) (wP (vI ((insF d ((put0 l rt fu).1) ((put0 l rt fu).2) (⟨k, v⟩ : THit)).2.1.1)) (wP (vB ((insF d ((put0 l rt fu).1) ((put0 l rt fu).2) (⟨k, v⟩ : THit)).2.1.2)) (wP u58 (wA (vI ((insF d ((put0 l rt fu).1) ((put0 l rt fu).2) (⟨k, v⟩ : THit)).2.1.1)) (wA (vB ((insF d ((put0 l rt fu).1) ((put0 l rt fu).2) (⟨k, v⟩ : THit)).2.1.2)) ?_)))))
  refine wA u58 (WL.nil (W.seq' (W.seq' ?_)))
  rcases ho_ : (insF d ((put0 l rt fu).1) ((put0 l rt fu).2) (⟨k, v⟩ : THit)).2.2 with _ | u_
  ·
   rw [ho_] at M
   obtain rfl := M.upNone 1 rfl
   replace M := M.sel (L' := [arenaC 143 145 S59 ab ((insF d ((put0 l rt fu).1) ((put0 l rt fu).2) (⟨k, v⟩ : THit)).1), bk tb #[(vP ab), (vI ((put0 l rt fu).2.at_)), (vI ((put0 l rt fu).2.turn)), (vB true), (vI ln)] 94]) [0, 2] rfl (by decide)
   refine W.region rfl (wM vN (wP (vB false) (WL.nil ?_)))
   refine W.cond (t := false) rfl (fun h => by cases h) (fun _ => ?_)
   refine W.skip (W.seq' (wR (wM (vB ((insF d ((put0 l rt fu).1) ((put0 l rt fu).2) (⟨k, v⟩ : THit)).2.1.2)) (wP (vB (!((insF d ((put0 l rt fu).1) ((put0 l rt fu).2) (⟨k, v⟩ : THit)).2.1.2))) (WL.nil ?_)))))
   refine W.cond (t := !((insF d ((put0 l rt fu).1) ((put0 l rt fu).2) (⟨k, v⟩ : THit)).2.1.2)) rfl (fun h62 => ?_) (fun h62 => ?_)
   ·
    refine W.region rfl (wM (vP tb) (wP (vP tb) (wP (Value.pointer (some ⟨tb, 4, none⟩)) (wS (vI ln) rfl (Step.load1 Try.sc3 rfl ((M.cell 1 rfl 4).trans rfl)) (wS (vI (ln + 1)) rfl (Step.add rfl rfl (wrap_i64 (by omega))) ?_)))))
    refine wP (vP tb) (wP (Value.pointer (some ⟨tb, 4, none⟩)) ?_)
    refine WL.store (v := (vI (ln + 1))) (cs := [(vI (ln + 1))]) (c' := #[(vP ab), (vI ((put0 l rt fu).2.at_)), (vI ((put0 l rt fu).2.turn)), (vB true), (vI (ln + 1))]) M 1 rfl rfl Try.el3.sized rfl rfl rfl rfl (Nat.le_of_ble_eq_true rfl) (cel_cons rfl cel_nil) rfl rfl (fun w63 M => ?_)
    refine WL.nil (wR (wM (vI ((insF d ((put0 l rt fu).1) ((put0 l rt fu).2) (⟨k, v⟩ : THit)).2.1.1)) (wS (vB false) rfl (Step.cast (congrArg Value.bool (show ((insF d ((put0 l rt fu).1) ((put0 l rt fu).2) (⟨k, v⟩ : THit)).2.1.2) = false by simpa using h62)) (Step.move rfl)) (wA (vI ((insF d ((put0 l rt fu).1) ((put0 l rt fu).2) (⟨k, v⟩ : THit)).2.1.1)) (wA (vB false) ?_)))))
    refine WL.nil ?_
    refine W.ret ?_
    refine ⟨.inl rfl, (Value.tuple #[(vI ((insF d ((put0 l rt fu).1) ((put0 l rt fu).2) (⟨k, v⟩ : THit)).2.1.1)), (vB false)]), ?_, ?_⟩
    · exact ⟨rfl, (Res.r2 (show RV _ _ _ (.tmp 6) (vI ((insF d ((put0 l rt fu).1) ((put0 l rt fu).2) (⟨k, v⟩ : THit)).2.1.1)) from by exact rfl) (show RV _ _ _ (.tmp 7) (vB false) from by exact rfl))⟩
    have e64 : (bk tb #[(vP ab), (vI (((putT d l rt fu ln (⟨k, v⟩ : THit)).1.2).at_)), (vI (((putT d l rt fu ln (⟨k, v⟩ : THit)).1.2).turn)), (vB true), (vI ((putT d l rt fu ln (⟨k, v⟩ : THit)).2.1))] 94 : Chunk) = (bk tb #[(vP ab), (vI ((put0 l rt fu).2.at_)), (vI ((put0 l rt fu).2.turn)), (vB true), (vI (ln + 1))] 94 : Chunk) := by
     have hth_ : (insF d (put0 l rt fu).1 (put0 l rt fu).2 (⟨k, v⟩ : THit)).2.1.2 = false := by simpa using h62
     unfold putT putU; simp only [ho_]
     try simp [hth_]
    replace M := M.rechunk 1 (c' := bk tb #[(vP ab), (vI (((putT d l rt fu ln (⟨k, v⟩ : THit)).1.2).at_)), (vI (((putT d l rt fu ln (⟨k, v⟩ : THit)).1.2).turn)), (vB true), (vI ((putT d l rt fu ln (⟨k, v⟩ : THit)).2.1))] 94) rfl e64.symm
    have e65 : (putT d l rt fu ln (⟨k, v⟩ : THit)).1.1 = (insF d ((put0 l rt fu).1) ((put0 l rt fu).2) (⟨k, v⟩ : THit)).1 := by
     have hth_ : (insF d (put0 l rt fu).1 (put0 l rt fu).2 (⟨k, v⟩ : THit)).2.1.2 = false := by simpa using h62
     unfold putT putU; simp only [ho_]
     try simp [hth_]
    replace M := M.rechunk 0 (c' := arenaC 143 145 S59 ab ((putT d l rt fu ln (⟨k, v⟩ : THit)).1.1)) rfl (congrArg (fun z => arenaC 143 145 S59 ab z) e65.symm)
    refine ⟨S59, ?_, M.close [1, 0] rfl (by decide) trivial⟩
    have hth_ : (insF d (put0 l rt fu).1 (put0 l rt fu).2 (⟨k, v⟩ : THit)).2.1.2 = false := by simpa using h62
    unfold putT putU; simp only [ho_]
    try simp [hth_]
   ·
    refine W.skip (wR (wM (vI ((insF d ((put0 l rt fu).1) ((put0 l rt fu).2) (⟨k, v⟩ : THit)).2.1.1)) (wS (vB true) rfl (Step.cast (congrArg Value.bool (show ((insF d ((put0 l rt fu).1) ((put0 l rt fu).2) (⟨k, v⟩ : THit)).2.1.2) = true by simpa using h62)) (Step.move rfl)) (wA (vI ((insF d ((put0 l rt fu).1) ((put0 l rt fu).2) (⟨k, v⟩ : THit)).2.1.1)) (wA (vB true) ?_)))))
    refine WL.nil ?_
    refine W.ret ?_
    refine ⟨.inl rfl, (Value.tuple #[(vI ((insF d ((put0 l rt fu).1) ((put0 l rt fu).2) (⟨k, v⟩ : THit)).2.1.1)), (vB true)]), ?_, ?_⟩
    · exact ⟨rfl, (Res.r2 (show RV _ _ _ (.tmp 6) (vI ((insF d ((put0 l rt fu).1) ((put0 l rt fu).2) (⟨k, v⟩ : THit)).2.1.1)) from by exact rfl) (show RV _ _ _ (.tmp 7) (vB true) from by exact rfl))⟩
    have e66 : (bk tb #[(vP ab), (vI (((putT d l rt fu ln (⟨k, v⟩ : THit)).1.2).at_)), (vI (((putT d l rt fu ln (⟨k, v⟩ : THit)).1.2).turn)), (vB true), (vI ((putT d l rt fu ln (⟨k, v⟩ : THit)).2.1))] 94 : Chunk) = (bk tb #[(vP ab), (vI ((put0 l rt fu).2.at_)), (vI ((put0 l rt fu).2.turn)), (vB true), (vI ln)] 94 : Chunk) := by
     have hth_ : (insF d (put0 l rt fu).1 (put0 l rt fu).2 (⟨k, v⟩ : THit)).2.1.2 = true := by simpa using h62
     unfold putT putU; simp only [ho_]
     try simp [hth_]
    replace M := M.rechunk 1 (c' := bk tb #[(vP ab), (vI (((putT d l rt fu ln (⟨k, v⟩ : THit)).1.2).at_)), (vI (((putT d l rt fu ln (⟨k, v⟩ : THit)).1.2).turn)), (vB true), (vI ((putT d l rt fu ln (⟨k, v⟩ : THit)).2.1))] 94) rfl e66.symm
    have e67 : (putT d l rt fu ln (⟨k, v⟩ : THit)).1.1 = (insF d ((put0 l rt fu).1) ((put0 l rt fu).2) (⟨k, v⟩ : THit)).1 := by
     have hth_ : (insF d (put0 l rt fu).1 (put0 l rt fu).2 (⟨k, v⟩ : THit)).2.1.2 = true := by simpa using h62
     unfold putT putU; simp only [ho_]
     try simp [hth_]
    replace M := M.rechunk 0 (c' := arenaC 143 145 S59 ab ((putT d l rt fu ln (⟨k, v⟩ : THit)).1.1)) rfl (congrArg (fun z => arenaC 143 145 S59 ab z) e67.symm)
    refine ⟨S59, ?_, M.close [1, 0] rfl (by decide) trivial⟩
    have hth_ : (insF d (put0 l rt fu).1 (put0 l rt fu).2 (⟨k, v⟩ : THit)).2.1.2 = true := by simpa using h62
    unfold putT putU; simp only [ho_]
    try simp [hth_]
  ·
   rw [ho_] at M
   obtain ⟨b61, rfl, M⟩ := M.upSome 1 rfl
   refine W.region rfl (wM (vP b61) (wP (vB true) (WL.nil ?_)))
   refine W.cond (t := true) rfl (fun _ => ?_) (fun h => by cases h)
   refine W.drawn2 M [0, 1, 2, 3, 4, 5, 6, 7, 8, 9, 11, 12, 13, 14, 15, 17, 18, 19, 20, 21, 22, 23, 24, 10, 16, 25, 26, 27] [28, 29, 30] [27, 30] [10, 16, 25] _ _ (sN (sY (sY sE))) (fun _ h => h) Try.mixed (by kernel_rfl) ?_
   refine tP (vP tb) rfl (fun w => (Step.move rfl)) ?_
   refine tP (vP tb) rfl (fun w => (Step.move rfl)) ?_
   refine tP (vP tb) rfl (fun w => sP) ?_
   refine tP (vP tb) rfl (fun w => sP) ?_
   refine tR (vP ab) rfl (fun A w M => (Step.load1 Try.sc90 rfl ((M.cell 2 rfl 0).trans rfl))) ?_
   refine tP (vP b61) rfl (fun w => (Step.move rfl)) ?_
   refine tP (vP b61) rfl (fun w => sP) ?_
   refine tP (vP b61) rfl (fun w => sP) ?_
   refine tP (vP b61) rfl (fun w => sP) ?_
   refine tR (vS u_.1.key) rfl (fun A w M => (Step.load1 Try.sc9 rfl ((M.cell 1 rfl 0).trans rfl))) ?_
   refine tP (vP b61) rfl (fun w => (Step.move rfl)) ?_
   refine tP (vP b61) rfl (fun w => sP) ?_
   refine tP (vP b61) rfl (fun w => sP) ?_
   refine tP (Value.pointer (some ⟨b61, 1, none⟩)) rfl (fun w => sP) ?_
   refine tR (vI u_.1.val) rfl (fun A w M => (Step.load1 Try.sc3 rfl ((M.cell 1 rfl 1).trans rfl))) ?_
   refine tP (vP tb) rfl (fun w => (Step.move rfl)) ?_
   refine tP (vP tb) rfl (fun w => sP) ?_
   refine tP (Value.pointer (some ⟨tb, 1, none⟩)) rfl (fun w => sP) ?_
   refine tR (Value.agg #[(vI ((put0 l rt fu).2.at_)), (vI ((put0 l rt fu).2.turn))]) rfl (fun A w M => (Step.loadN Try.ag92 rfl (M.blk 2 rfl) (Nat.le_of_ble_eq_true rfl) rfl)) ?_
   refine tP (vP b61) rfl (fun w => (Step.move rfl)) ?_
   refine tP (vP b61) rfl (fun w => sP) ?_
   refine tP (Value.pointer (some ⟨b61, 2, none⟩)) rfl (fun w => sP) ?_
   refine tR (Value.agg #[(vI u_.2.at_), (vI u_.2.turn)]) rfl (fun A w M => (Step.loadN Try.ag92 rfl (M.blk 1 rfl) (Nat.le_of_ble_eq_true rfl) rfl)) ?_
   refine TW.new (obj := .cells #[(vS u_.1.key)] 9) (fun b => .slice (some ⟨b, 0, none⟩) 1 1) rfl (by decide) (by decide) rfl (fun w => Step.make (by kernel_rfl)) (fun b98 => ?_)
   refine TW.new (obj := .cells #[(vI u_.1.val)] 3) (fun b => .slice (some ⟨b, 0, none⟩) 1 1) rfl (by decide) (by decide) rfl (fun w => Step.make (by kernel_rfl)) (fun b99 => ?_)
   refine TW.new (obj := .cells #[(vI ((put0 l rt fu).2.at_)), (vI ((put0 l rt fu).2.turn)), (vI u_.2.at_), (vI u_.2.turn)] 92) (fun b => .slice (some ⟨b, 0, none⟩) 2 2) rfl (by decide) (by decide) rfl (fun w => Step.make (by kernel_rfl)) (fun b100 => ?_)
   refine tP (Value.agg #[(vB false), (Value.slice (some ⟨b98, 0, none⟩) 1 1), (Value.slice (some ⟨b100, 0, none⟩) 2 2), (Value.slice (some ⟨b99, 0, none⟩) 1 1)]) rfl (fun w => sP) ?_
   let Q : List Chunk := [bk b100 #[(vI ((put0 l rt fu).2.at_)), (vI ((put0 l rt fu).2.turn)), (vI u_.2.at_), (vI u_.2.turn)] 92, bk b99 #[(vI u_.1.val)] 3, bk b98 #[(vS u_.1.key)] 9, bk b61 #[(vS u_.1.key), (vI u_.1.val), (vI u_.2.at_), (vI u_.2.turn)] 104, bk tb #[(vP ab), (vI ((put0 l rt fu).2.at_)), (vI ((put0 l rt fu).2.turn)), (vB true), (vI ln)] 94]
   refine TW.callX (ι := (Nat → Prop)) (fun jx v_ => v_ = (Value.agg #[(vI (((rmake ((insF d ((put0 l rt fu).1) ((put0 l rt fu).2) (⟨k, v⟩ : THit)).1) (⟨false, ([u_.1.key] : List ByteArray), ([(put0 l rt fu).2, u_.2] : List Handle), ([u_.1.val] : List Int)⟩ : Nd)).2).at_)), (vI (((rmake ((insF d ((put0 l rt fu).1) ((put0 l rt fu).2) (⟨k, v⟩ : THit)).1) (⟨false, ([u_.1.key] : List ByteArray), ([(put0 l rt fu).2, u_.2] : List Handle), ([u_.1.val] : List Int)⟩ : Nd)).2).turn))])) (fun jx => arenaC 143 145 jx ab ((rmake ((insF d ((put0 l rt fu).1) ((put0 l rt fu).2) (⟨k, v⟩ : THit)).1) (⟨false, ([u_.1.key] : List ByteArray), ([(put0 l rt fu).2, u_.2] : List Handle), ([u_.1.val] : List Int)⟩ : Nd)).1) :: Q) (fun jx => []) rfl (by decide) rfl (fun jx => (sN (sN (sN (sN (sY (sY sE))))))) (fun jx r h => h) (fun A w M => have fq := M.frm [arenaC 143 145 S59 ab ((insF d ((put0 l rt fu).1) ((put0 l rt fu).2) (⟨k, v⟩ : THit)).1)] (fl A :: Q) [4, 0, 1, 2, 3, 5, 6] rfl; Rets.mono (ar_make ab ((insF d ((put0 l rt fu).1) ((put0 l rt fu).2) (⟨k, v⟩ : THit)).1) S59 (Value.slice (some ⟨b98, 0, none⟩) 1 1) (Value.slice (some ⟨b100, 0, none⟩) 2 2) (Value.slice (some ⟨b99, 0, none⟩) 1 1) (⟨false, ([u_.1.key] : List ByteArray), ([(put0 l rt fu).2, u_.2] : List Handle), ([u_.1.val] : List Int)⟩ : Nd) (by first | assumption | exact smallA_of rfl) (by simp [insL] <;> omega) (by simp [insL] <;> omega) (by simp [insL] <;> omega) (M.eF fq ⟨((M.cF fq 3 rfl).imp fun _ h => SlAt.of_blk (n := 1) (size := 1) h rfl (by decide)), ((M.cF fq 1 rfl).imp fun _ h => SlAt.of_blk (n := 2) (size := 2) h rfl (by decide)), ((M.cF fq 2 rfl).imp fun _ h => SlAt.of_blk (n := 1) (size := 1) h rfl (by decide)), trivial⟩)) (fun v_ w_ ⟨S101, e_, m⟩ => ⟨S101, e_, (M.lF fq m).sel [1, 0, 2, 3, 4, 5, 6] rfl (by decide), fun b hb => M.kF fq m b hb⟩)) (fun w => CallsF.func Try.en46 rfl) (fun S101 v hp hin => ?_)
   replace hp := hp.symm; subst hp
   obtain ⟨_, _, hin⟩ := hin
   clear hin
   refine TW.turn _ _ (sY (sY (sY (sY (sY (sN sE)))))) (fun _ h => h) ?_
   refine tP (vP tb) rfl (fun w => sP) ?_
   refine tP (Value.pointer (some ⟨tb, 1, none⟩)) rfl (fun w => sP) ?_
   refine TW.store (v := (Value.agg #[(vI (((rmake ((insF d ((put0 l rt fu).1) ((put0 l rt fu).2) (⟨k, v⟩ : THit)).1) (⟨false, ([u_.1.key] : List ByteArray), ([(put0 l rt fu).2, u_.2] : List Handle), ([u_.1.val] : List Int)⟩ : Nd)).2).at_)), (vI (((rmake ((insF d ((put0 l rt fu).1) ((put0 l rt fu).2) (⟨k, v⟩ : THit)).1) (⟨false, ([u_.1.key] : List ByteArray), ([(put0 l rt fu).2, u_.2] : List Handle), ([u_.1.val] : List Int)⟩ : Nd)).2).turn))])) (cs := [(vI (((rmake ((insF d ((put0 l rt fu).1) ((put0 l rt fu).2) (⟨k, v⟩ : THit)).1) (⟨false, ([u_.1.key] : List ByteArray), ([(put0 l rt fu).2, u_.2] : List Handle), ([u_.1.val] : List Int)⟩ : Nd)).2).at_)), (vI (((rmake ((insF d ((put0 l rt fu).1) ((put0 l rt fu).2) (⟨k, v⟩ : THit)).1) (⟨false, ([u_.1.key] : List ByteArray), ([(put0 l rt fu).2, u_.2] : List Handle), ([u_.1.val] : List Int)⟩ : Nd)).2).turn))]) (c' := #[(vP ab), (vI (((rmake ((insF d ((put0 l rt fu).1) ((put0 l rt fu).2) (⟨k, v⟩ : THit)).1) (⟨false, ([u_.1.key] : List ByteArray), ([(put0 l rt fu).2, u_.2] : List Handle), ([u_.1.val] : List Int)⟩ : Nd)).2).at_)), (vI (((rmake ((insF d ((put0 l rt fu).1) ((put0 l rt fu).2) (⟨k, v⟩ : THit)).1) (⟨false, ([u_.1.key] : List ByteArray), ([(put0 l rt fu).2, u_.2] : List Handle), ([u_.1.val] : List Int)⟩ : Nd)).2).turn)), (vB true), (vI ln)]) 5 rfl rfl (by decide) rfl Try.el92.sized rfl rfl rfl rfl (Nat.le_of_ble_eq_true rfl) (cel_cons rfl (cel_cons rfl cel_nil)) rfl rfl (sY (sY (sY (sY (sY (sN sE)))))) (fun r h => h) ?_
   refine TW.done (fun w103 M => ?_)
   refine W.seq' (wR (wM (vB ((insF d ((put0 l rt fu).1) ((put0 l rt fu).2) (⟨k, v⟩ : THit)).2.1.2)) (wP (vB (!((insF d ((put0 l rt fu).1) ((put0 l rt fu).2) (⟨k, v⟩ : THit)).2.1.2))) (WL.nil ?_))))
   refine W.cond (t := !((insF d ((put0 l rt fu).1) ((put0 l rt fu).2) (⟨k, v⟩ : THit)).2.1.2)) rfl (fun h104 => ?_) (fun h104 => ?_)
   ·
    refine W.region rfl (wM (vP tb) (wP (vP tb) (wP (Value.pointer (some ⟨tb, 4, none⟩)) (wS (vI ln) rfl (Step.load1 Try.sc3 rfl ((M.cell 5 rfl 4).trans rfl)) (wS (vI (ln + 1)) rfl (Step.add rfl rfl (wrap_i64 (by omega))) ?_)))))
    refine wP (vP tb) (wP (Value.pointer (some ⟨tb, 4, none⟩)) ?_)
    refine WL.store (v := (vI (ln + 1))) (cs := [(vI (ln + 1))]) (c' := #[(vP ab), (vI (((rmake ((insF d ((put0 l rt fu).1) ((put0 l rt fu).2) (⟨k, v⟩ : THit)).1) (⟨false, ([u_.1.key] : List ByteArray), ([(put0 l rt fu).2, u_.2] : List Handle), ([u_.1.val] : List Int)⟩ : Nd)).2).at_)), (vI (((rmake ((insF d ((put0 l rt fu).1) ((put0 l rt fu).2) (⟨k, v⟩ : THit)).1) (⟨false, ([u_.1.key] : List ByteArray), ([(put0 l rt fu).2, u_.2] : List Handle), ([u_.1.val] : List Int)⟩ : Nd)).2).turn)), (vB true), (vI (ln + 1))]) M 5 rfl rfl Try.el3.sized rfl rfl rfl rfl (Nat.le_of_ble_eq_true rfl) (cel_cons rfl cel_nil) rfl rfl (fun w105 M => ?_)
    refine WL.nil (wR (wM (vI ((insF d ((put0 l rt fu).1) ((put0 l rt fu).2) (⟨k, v⟩ : THit)).2.1.1)) (wS (vB false) rfl (Step.cast (congrArg Value.bool (show ((insF d ((put0 l rt fu).1) ((put0 l rt fu).2) (⟨k, v⟩ : THit)).2.1.2) = false by simpa using h104)) (Step.move rfl)) (wA (vI ((insF d ((put0 l rt fu).1) ((put0 l rt fu).2) (⟨k, v⟩ : THit)).2.1.1)) (wA (vB false) ?_)))))
    refine WL.nil ?_
    refine W.ret ?_
    refine ⟨.inl rfl, (Value.tuple #[(vI ((insF d ((put0 l rt fu).1) ((put0 l rt fu).2) (⟨k, v⟩ : THit)).2.1.1)), (vB false)]), ?_, ?_⟩
    · exact ⟨rfl, (Res.r2 (show RV _ _ _ (.tmp 6) (vI ((insF d ((put0 l rt fu).1) ((put0 l rt fu).2) (⟨k, v⟩ : THit)).2.1.1)) from by exact rfl) (show RV _ _ _ (.tmp 7) (vB false) from by exact rfl))⟩
    have e106 : (bk tb #[(vP ab), (vI (((putT d l rt fu ln (⟨k, v⟩ : THit)).1.2).at_)), (vI (((putT d l rt fu ln (⟨k, v⟩ : THit)).1.2).turn)), (vB true), (vI ((putT d l rt fu ln (⟨k, v⟩ : THit)).2.1))] 94 : Chunk) = (bk tb #[(vP ab), (vI (((rmake ((insF d ((put0 l rt fu).1) ((put0 l rt fu).2) (⟨k, v⟩ : THit)).1) (⟨false, ([u_.1.key] : List ByteArray), ([(put0 l rt fu).2, u_.2] : List Handle), ([u_.1.val] : List Int)⟩ : Nd)).2).at_)), (vI (((rmake ((insF d ((put0 l rt fu).1) ((put0 l rt fu).2) (⟨k, v⟩ : THit)).1) (⟨false, ([u_.1.key] : List ByteArray), ([(put0 l rt fu).2, u_.2] : List Handle), ([u_.1.val] : List Int)⟩ : Nd)).2).turn)), (vB true), (vI (ln + 1))] 94 : Chunk) := by
     have hth_ : (insF d (put0 l rt fu).1 (put0 l rt fu).2 (⟨k, v⟩ : THit)).2.1.2 = false := by simpa using h104
     unfold putT putU; simp only [ho_]
     try simp [hth_]
    replace M := M.rechunk 5 (c' := bk tb #[(vP ab), (vI (((putT d l rt fu ln (⟨k, v⟩ : THit)).1.2).at_)), (vI (((putT d l rt fu ln (⟨k, v⟩ : THit)).1.2).turn)), (vB true), (vI ((putT d l rt fu ln (⟨k, v⟩ : THit)).2.1))] 94) rfl e106.symm
    have e107 : (putT d l rt fu ln (⟨k, v⟩ : THit)).1.1 = (rmake ((insF d ((put0 l rt fu).1) ((put0 l rt fu).2) (⟨k, v⟩ : THit)).1) (⟨false, ([u_.1.key] : List ByteArray), ([(put0 l rt fu).2, u_.2] : List Handle), ([u_.1.val] : List Int)⟩ : Nd)).1 := by
     have hth_ : (insF d (put0 l rt fu).1 (put0 l rt fu).2 (⟨k, v⟩ : THit)).2.1.2 = false := by simpa using h104
     unfold putT putU; simp only [ho_]
     try simp [hth_]
    replace M := M.rechunk 0 (c' := arenaC 143 145 S101 ab ((putT d l rt fu ln (⟨k, v⟩ : THit)).1.1)) rfl (congrArg (fun z => arenaC 143 145 S101 ab z) e107.symm)
    refine ⟨S101, ?_, M.close [5, 0] rfl (by decide) trivial⟩
    have hth_ : (insF d (put0 l rt fu).1 (put0 l rt fu).2 (⟨k, v⟩ : THit)).2.1.2 = false := by simpa using h104
    unfold putT putU; simp only [ho_]
    try simp [hth_]
   ·
    refine W.skip (wR (wM (vI ((insF d ((put0 l rt fu).1) ((put0 l rt fu).2) (⟨k, v⟩ : THit)).2.1.1)) (wS (vB true) rfl (Step.cast (congrArg Value.bool (show ((insF d ((put0 l rt fu).1) ((put0 l rt fu).2) (⟨k, v⟩ : THit)).2.1.2) = true by simpa using h104)) (Step.move rfl)) (wA (vI ((insF d ((put0 l rt fu).1) ((put0 l rt fu).2) (⟨k, v⟩ : THit)).2.1.1)) (wA (vB true) ?_)))))
    refine WL.nil ?_
    refine W.ret ?_
    refine ⟨.inl rfl, (Value.tuple #[(vI ((insF d ((put0 l rt fu).1) ((put0 l rt fu).2) (⟨k, v⟩ : THit)).2.1.1)), (vB true)]), ?_, ?_⟩
    · exact ⟨rfl, (Res.r2 (show RV _ _ _ (.tmp 6) (vI ((insF d ((put0 l rt fu).1) ((put0 l rt fu).2) (⟨k, v⟩ : THit)).2.1.1)) from by exact rfl) (show RV _ _ _ (.tmp 7) (vB true) from by exact rfl))⟩
    have e108 : (bk tb #[(vP ab), (vI (((putT d l rt fu ln (⟨k, v⟩ : THit)).1.2).at_)), (vI (((putT d l rt fu ln (⟨k, v⟩ : THit)).1.2).turn)), (vB true), (vI ((putT d l rt fu ln (⟨k, v⟩ : THit)).2.1))] 94 : Chunk) = (bk tb #[(vP ab), (vI (((rmake ((insF d ((put0 l rt fu).1) ((put0 l rt fu).2) (⟨k, v⟩ : THit)).1) (⟨false, ([u_.1.key] : List ByteArray), ([(put0 l rt fu).2, u_.2] : List Handle), ([u_.1.val] : List Int)⟩ : Nd)).2).at_)), (vI (((rmake ((insF d ((put0 l rt fu).1) ((put0 l rt fu).2) (⟨k, v⟩ : THit)).1) (⟨false, ([u_.1.key] : List ByteArray), ([(put0 l rt fu).2, u_.2] : List Handle), ([u_.1.val] : List Int)⟩ : Nd)).2).turn)), (vB true), (vI ln)] 94 : Chunk) := by
     have hth_ : (insF d (put0 l rt fu).1 (put0 l rt fu).2 (⟨k, v⟩ : THit)).2.1.2 = true := by simpa using h104
     unfold putT putU; simp only [ho_]
     try simp [hth_]
    replace M := M.rechunk 5 (c' := bk tb #[(vP ab), (vI (((putT d l rt fu ln (⟨k, v⟩ : THit)).1.2).at_)), (vI (((putT d l rt fu ln (⟨k, v⟩ : THit)).1.2).turn)), (vB true), (vI ((putT d l rt fu ln (⟨k, v⟩ : THit)).2.1))] 94) rfl e108.symm
    have e109 : (putT d l rt fu ln (⟨k, v⟩ : THit)).1.1 = (rmake ((insF d ((put0 l rt fu).1) ((put0 l rt fu).2) (⟨k, v⟩ : THit)).1) (⟨false, ([u_.1.key] : List ByteArray), ([(put0 l rt fu).2, u_.2] : List Handle), ([u_.1.val] : List Int)⟩ : Nd)).1 := by
     have hth_ : (insF d (put0 l rt fu).1 (put0 l rt fu).2 (⟨k, v⟩ : THit)).2.1.2 = true := by simpa using h104
     unfold putT putU; simp only [ho_]
     try simp [hth_]
    replace M := M.rechunk 0 (c' := arenaC 143 145 S101 ab ((putT d l rt fu ln (⟨k, v⟩ : THit)).1.1)) rfl (congrArg (fun z => arenaC 143 145 S101 ab z) e109.symm)
    refine ⟨S101, ?_, M.close [5, 0] rfl (by decide) trivial⟩
    have hth_ : (insF d (put0 l rt fu).1 (put0 l rt fu).2 (⟨k, v⟩ : THit)).2.1.2 = true := by simpa using h104
    unfold putT putU; simp only [ho_]
    try simp [hth_]
end Go.Proofs
set_option maxRecDepth 100000
namespace Go.Proofs
open Go Tp
set_option maxHeartbeats 1000000 in
theorem tr_least {G X : Nat → Prop} {w : World} (tb ab : Nat) (rt : Handle) (fu : Bool) (ln : Int) (l : List RPlace) (S : Nat → Prop) (f : Value) (p : ByteArray → Bool)  (hA : SmallA l) (d : Nat) (hLk : fu = true → lookOk d l rt) (M : Mem G X w [arenaC 143 145 S ab l] [bF tb #[(vP ab), (vI rt.at_), (vI rt.turn), (vB fu), (vI ln)] 94, FnS Try.prog f p] w) : Rets Try.prog 79 #[(vP tb), f] w fun r w' => r = (Value.tuple #[(Value.agg #[(vS (((lookT fu d l rt p).1).key)), (vI (((lookT fu d l rt p).1).val))]), (vB ((lookT fu d l rt p).2))]) ∧ Mem G X w [arenaC 143 145 S ab l] [] w' := by
 refine Rets.enter 69 _ Try.func79 rfl Try.ntmps79 Try.results79 (by simp) ?_
 refine wR ?_
 refine WL.alloc (c := #[(vS sZ), (vI 0)]) M rfl Try.el41.zero rfl (fun b1 w2 hb1 M => ?_)
 refine wA (vB false) (WL.nil (W.seq' (wR (wM (vP tb) (wP (vB false) ?_)))))
 refine wM (vB false) (wM (vP tb) (wP (vP tb) (wP (Value.pointer (some ⟨tb, 3, none⟩)) (wS (vB fu) rfl (Step.load1 Try.sc4 rfl ((cell_blk (M.rep 0 rfl) 3).trans rfl)) (wP (vB !fu) ?_)))))
 refine wS (vB !fu) rfl (Step.pick (t := false) rfl rfl) (WL.nil ?_)
 refine W.cond (t := !fu) rfl (fun h3 => ?_) (fun h3 => ?_)
 ·
  refine wR (wP (Value.agg #[(vS sZ), (vI 0)]) ?_)
  refine WL.store (v := (Value.agg #[(vS sZ), (vI 0)])) (cs := [(vS sZ), (vI 0)]) (c' := #[(vS sZ), (vI 0)]) M 0 rfl rfl Try.el41.sized rfl rfl rfl rfl (Nat.le_of_ble_eq_true rfl) (cel_cons rfl (cel_cons rfl cel_nil)) rfl rfl (fun w4 M => ?_)
  refine wA (vB false) (WL.nil ?_)
  refine W.ret ?_
  refine ⟨.inl rfl, (Value.tuple #[(Value.agg #[(vS sZ), (vI 0)]), (vB false)]), ?_, ?_⟩
  · exact ⟨rfl, (Res.r2 (RV.cellN Try.ag41 rfl (M.blk 0 rfl) rfl) (show RV _ _ _ (.tmp 5) (vB false) from by exact rfl))⟩
  refine ⟨?_, M.close [1] rfl (by decide) trivial⟩
  have hfu_ : fu = false := (by simpa using h3)
  simp [lookT, noHit, hfu_]
 ·
  refine W.skip (wR (wM (vP tb) (wP (vP tb) (wP (Value.pointer (some ⟨tb, 1, none⟩)) (wS (Value.agg #[(vI rt.at_), (vI rt.turn)]) rfl (Step.loadN Try.ag92 rfl (M.rep 0 rfl) (Nat.le_of_ble_eq_true rfl) rfl) ?_)))))
  refine WL.alloc (c := #[(vI 0), (vI 0)]) M rfl Try.el92.zero rfl (fun b5 w6 hb5 M => ?_)
  refine WL.store (v := (Value.agg #[(vI rt.at_), (vI rt.turn)])) (cs := [(vI rt.at_), (vI rt.turn)]) (c' := #[(vI rt.at_), (vI rt.turn)]) M 0 rfl rfl Try.el92.sized rfl rfl rfl rfl (Nat.le_of_ble_eq_true rfl) (cel_cons rfl (cel_cons rfl cel_nil)) rfl rfl (fun w7 M => ?_)
  refine WL.nil (W.block ?_)
  replace M := M.sel (L' := [bk b5 #[(vI rt.at_), (vI rt.turn)] 92, bk b1 #[(vS sZ), (vI 0)] 41, arenaC 143 145 S ab l]) [0, 1, 2] rfl (by decide)
  refine W.loop (fun kk ρ w' => ∃ (hb_ : Nat) (h_ : Handle) (d_ : Nat) (b_ : THit × Bool), ((lookOk d_ l h_) ∧ (leastT d_ l h_ p b_ = leastT d l rt p noHit) ∧ kk = d_ + 1) ∧ ρ.has [(0, (vP tb)), (1, f), (4, (vP b1)), (5, (vB b_.2)), (6, (vP hb_))] ∧ Mem G X w [bk hb_ #[(vI h_.at_), (vI h_.turn)] 92, bk b1 #[(vS b_.1.key), (vI b_.1.val)] 41, arenaC 143 145 S ab l] [bF tb #[(vP ab), (vI rt.at_), (vI rt.turn), (vB fu), (vI ln)] 94, FnS Try.prog f p]  w') _ ⟨b5, rt, d, noHit, ⟨(hLk (by simpa using h3)), rfl, rfl⟩, ⟨rfl, rfl, rfl, rfl, rfl, rfl, rfl⟩, M⟩ ?_
  rintro _ ρ9 w8 ⟨hb_, h_, d_, b_, ⟨hi10, hi11, rfl⟩, hρ, M⟩
  obtain ⟨ρ9, rfl⟩ := hρ.know
  clear hρ
  have hLk_ : lookOk d_ l h_ := hi10
  have hEq_ : leastT d_ l h_ p b_ = leastT d l rt p noHit := hi11
  obtain ⟨n, hn⟩ : ∃ n, (rget l h_).1 = n := ⟨_, rfl⟩
  obtain ⟨⟨ht1, ht2, ht3⟩, hvl⟩ := lookOk_node hLk_ hn
  refine W.seq' (W.block (wR (wM (vP tb) (wS (Value.agg #[(vI h_.at_), (vI h_.turn)]) rfl (Step.loadN Try.ag92 rfl (M.blk 0 rfl) (Nat.le_of_ble_eq_true rfl) rfl) ?_))))
  have fq := M.frm [arenaC 143 145 S ab l] [bk hb_ #[(vI h_.at_), (vI h_.turn)] 92, bk b1 #[(vS b_.1.key), (vI b_.1.val)] 41] [2, 0, 1] rfl
  refine WL.callX rfl (tr_node tb ab rt fu ln l S h_ (by assumption) n hn (M.eF fq ⟨(M.rF fq 0 rfl), trivial⟩)) (CallsF.func Try.en49 rfl) ?_
  rintro _ w15 ⟨kv12, dv13, vv14, rfl, m⟩
  replace M := M.lF fq m
  clear m
  have sl16 : IsSl kv12 := SlAt.isSl (own_slAt (Mem.chunk M 1 rfl).inv)
  have hle17 := SlAt.le' (own_slAt (Mem.chunk M 1 rfl).inv)
  have sl18 : IsSl dv13 := SlAt.isSl (own_slAt (Mem.chunk M 2 rfl).inv)
  have hle19 := SlAt.le' (own_slAt (Mem.chunk M 2 rfl).inv)
  have sl20 : IsSl vv14 := SlAt.isSl (own_slAt (Mem.chunk M 3 rfl).inv)
  have hle21 := SlAt.le' (own_slAt (Mem.chunk M 3 rfl).inv)
  refine WL.alloc (c := #[(vB false), vZ, vZ, vZ]) M rfl Try.el99.zero rfl (fun b22 w23 hb22 M => ?_)
  refine WL.store (v := (Value.agg #[(vB n.leaf), kv12, dv13, vv14])) (cs := [(vB n.leaf), kv12, dv13, vv14]) (c' := #[(vB n.leaf), kv12, dv13, vv14]) M 0 rfl rfl Try.el99.sized rfl rfl rfl rfl (Nat.le_of_ble_eq_true rfl) (cel_cons rfl (cel_cons (IsSl.cel sl16) (cel_cons (IsSl.cel sl18) (cel_cons (IsSl.cel sl20) cel_nil)))) rfl rfl (fun w24 M => ?_)
  refine WL.nil (wR (wA (vI 0) (WL.nil (W.seq' (W.block ?_)))))
  refine W.loop (fun kk ρ w' => ∃ (i_ : Nat), ((i_ ≤ n.keys.length) ∧ (∀ j u, j < i_ → n.keys[j]? = some u → p u = false) ∧ kk = n.keys.length - i_) ∧ ρ.has [(0, (vP tb)), (1, f), (4, (vP b1)), (5, (vB b_.2)), (6, (vP hb_)), (7, (vP b22)), (8, (vI ↑i_)), (23, (vP tb)), (24, (Value.agg #[(vI h_.at_), (vI h_.turn)])), (25, (Value.agg #[(vB n.leaf), kv12, dv13, vv14]))] ∧ Mem G X w [bk b22 #[(vB n.leaf), kv12, dv13, vv14] 99, arenaC 143 145 S ab l, oS kv12 n.keys, oH dv13 n.kids, oI vv14 n.vals, bk hb_ #[(vI h_.at_), (vI h_.turn)] 92, bk b1 #[(vS b_.1.key), (vI b_.1.val)] 41] [bF tb #[(vP ab), (vI rt.at_), (vI rt.turn), (vB fu), (vI ln)] 94, FnS Try.prog f p]  w') _ ⟨0, ⟨(Nat.zero_le _), (fun _ _ h => absurd h (Nat.not_lt_zero _)), rfl⟩, ⟨rfl, rfl, rfl, rfl, rfl, rfl, rfl, rfl, rfl, rfl, rfl, rfl⟩, M⟩ ?_
  rintro _ ρ26 w25 ⟨i_, ⟨hi27, hi28, rfl⟩, hρ, M⟩
  obtain ⟨ρ26, rfl⟩ := hρ.know
  clear hρ
  refine W.seq' (wR (wM (vI ↑i_) (wP (Value.pointer (some ⟨b22, 1, none⟩)) (wS kv12 rfl (Step.load1 Try.sc22 rfl ((M.cell 0 rfl 1).trans rfl)) (wS (vI ↑n.keys.length) rfl (Step.lenSl Try.un22 rfl (own_slAt (M.chunk 2 rfl).inv)) ?_)))))
  refine wP (vB (decide ((↑i_ : Int) < (↑n.keys.length : Int)))) (wM (vB (decide ((↑i_ : Int) < (↑n.keys.length : Int)))) ?_)
  rcases Bool.eq_false_or_eq_true (decide ((↑i_ : Int) < (↑n.keys.length : Int))) with h29 | h29
  ·
   have h29p := of_decide_eq_true h29
   rw [h29]
   refine wM f (wP (Value.pointer (some ⟨b22, 1, none⟩)) (wS kv12 rfl (Step.load1 Try.sc22 rfl ((M.cell 0 rfl 1).trans rfl)) (wM (vI ↑i_) ?_)))
   obtain ⟨cap31, hb30⟩ := SlAt.base (own_slAt (M.chunk 2 rfl).inv) (by omega)
   obtain ⟨x32, hx32⟩ := elem_of_lt (xs := n.keys) (i := i_) (by omega)
   refine wS (vQ kv12 i_ 1) rfl (sX i_ Try.un22 Try.el9 rfl rfl hb30) (wS (vS x32) rfl (Step.loadE (k := 0) Try.sc9 (flat_ec (own_slAt (M.chunk 2 rfl).inv) hx32 strE_len) (by decide) rfl rfl) ?_)
   refine WL.callV rfl rfl rfl ((M.rep 1 rfl : FnS _ _ _ _) x32) ?_
   rintro _ w33 ⟨rfl, ho⟩
   replace M := M.old ho
   refine wP (vB (!(p x32))) (wS (vB (!(p x32))) rfl (Step.pick (t := true) rfl rfl) (WL.nil ?_))
   refine W.cond (t := !(p x32)) rfl (fun h34 => ?_) (fun h34 => ?_)
   ·
    refine W.skip (W.block (W.region rfl (wM (vI ↑i_) (wS (vI (↑i_ + 1)) rfl (Step.add rfl rfl (wrap_i64 (by omega))) (wA (vI (↑i_ + 1)) ?_)))))
    refine WL.nil ?_
    exact ⟨_, (by omega), i_ + 1, ⟨(by omega), (below_stepG hi28 hx32 (by simpa using h34)), rfl⟩, ⟨rfl, rfl, rfl, rfl, rfl, rfl, rfl, rfl, rfl, rfl, rfl, rfl⟩, M⟩
   ·
    have hfi_ : n.keys.findIdx p = i_ := find_at hx32 (by simpa using h34) hi28
    have hil_ : i_ < n.keys.length := (List.getElem?_eq_some_iff.1 hx32).1
    refine W.exit ?_
    refine thn_exit ?_
    refine thn_exit ?_
    refine inBlk_hit ?_
    refine W.seq' (wR (wM (vI ↑i_) (wP (Value.pointer (some ⟨b22, 1, none⟩)) (wS kv12 rfl (Step.load1 Try.sc22 rfl ((M.cell 0 rfl 1).trans rfl)) (wS (vI ↑n.keys.length) rfl (Step.lenSl Try.un22 rfl (own_slAt (M.chunk 2 rfl).inv)) ?_)))))
    refine wS (vB true) rfl (Step.cast (congrArg Value.bool h29) sP) (WL.nil ?_)
    refine W.cond (t := true) rfl (fun _ => ?_) (fun h => by cases h)
    obtain ⟨cap36, hb35⟩ := SlAt.base (own_slAt (M.chunk 4 rfl).inv) (by omega)
    obtain ⟨x37, hx37⟩ := elem_of_lt (xs := n.vals) (i := i_) (by omega)
    refine W.drawn M [0, 1, 2, 3, 4, 5, 6, 7, 8, 9, 10, 11, 12] [11] [] _ _ (sY (sY (sY (sY (sY (sY (sN sE))))))) (fun _ h => h) Try.mixed (by kernel_rfl) ?_
    refine tP (Value.pointer (some ⟨b22, 1, none⟩)) rfl (fun w => sP) ?_
    refine tR kv12 rfl (fun A w M => (Step.load1 Try.sc22 rfl ((M.cell 1 rfl 1).trans rfl))) ?_
    refine tP (vI ↑i_) rfl (fun w => (Step.move rfl)) ?_
    refine tP (vQ kv12 i_ 1) rfl (fun w => (sX i_ Try.un22 Try.el9 rfl rfl hb30)) ?_
    refine tR (vS x32) rfl (fun A w M => (Step.loadE (k := 0) Try.sc9 (flat_ec (own_slAt (M.chunk 3 rfl).inv) hx32 strE_len) (by decide) rfl rfl)) ?_
    refine tP (Value.pointer (some ⟨b22, 3, none⟩)) rfl (fun w => sP) ?_
    refine tR vv14 rfl (fun A w M => (Step.load1 Try.sc97 rfl ((M.cell 1 rfl 3).trans rfl))) ?_
    refine tP (vI ↑i_) rfl (fun w => (Step.move rfl)) ?_
    refine tP (vQ vv14 i_ 1) rfl (fun w => (sX i_ Try.un97 Try.el3 rfl rfl hb35)) ?_
    refine tR (vI x37) rfl (fun A w M => (Step.loadE (k := 0) Try.sc3 (flat_ec (own_slAt (M.chunk 5 rfl).inv) hx37 intE_len) (by decide) rfl rfl)) ?_
    refine tP (Value.agg #[(vS x32), (vI x37)]) rfl (fun w => sP) ?_
    refine TW.store (v := (Value.agg #[(vS x32), (vI x37)])) (cs := [(vS x32), (vI x37)]) (c' := #[(vS x32), (vI x37)]) 6 rfl rfl (by decide) rfl Try.el41.sized rfl rfl rfl rfl (Nat.le_of_ble_eq_true rfl) (cel_cons rfl (cel_cons rfl cel_nil)) rfl rfl (sY (sY (sY (sY (sY (sY (sN sE))))))) (fun r h => h) ?_
    refine tP (vB true) rfl (fun w => (Step.assign rfl)) ?_
    refine TW.done (fun w40 M => ?_)
    refine W.seq' (wR (wP (vP b22) (wS (vB n.leaf) rfl (Step.load1 Try.sc4 rfl ((M.cell 0 rfl 0).trans rfl)) (WL.nil ?_))))
    refine W.cond (t := n.leaf) rfl (fun h41 => ?_) (fun h41 => ?_)
    ·
     have hlf_ : n.leaf = true := h41
     refine wR (wS (Value.agg #[(vS x32), (vI x37)]) rfl (Step.loadN Try.ag41 rfl (M.blk 6 rfl) (Nat.le_of_ble_eq_true rfl) rfl) (wM (vB true) ?_))
     refine WL.store (v := (Value.agg #[(vS x32), (vI x37)])) (cs := [(vS x32), (vI x37)]) (c' := #[(vS x32), (vI x37)]) M 6 rfl rfl Try.el41.sized rfl rfl rfl rfl (Nat.le_of_ble_eq_true rfl) (cel_cons rfl (cel_cons rfl cel_nil)) rfl rfl (fun w42 M => ?_)
     refine wA (vB true) (WL.nil ?_)
     refine W.ret ?_
     refine ⟨.inl rfl, (Value.tuple #[(Value.agg #[(vS x32), (vI x37)]), (vB true)]), ?_, ?_⟩
     · exact ⟨rfl, (Res.r2 (RV.cellN Try.ag41 rfl (M.blk 6 rfl) rfl) (show RV _ _ _ (.tmp 5) (vB true) from by exact rfl))⟩
     refine ⟨?_, M.close [1] rfl (by decide) trivial⟩
     unfold lookT; rw [if_pos (by simpa using h3), ← hEq_, leastT_leaf hn hlf_, hfi_, if_pos hil_]; try simp [hitOf, List.getD, h3, h29p, hx32, h34, hx37, h41]
    ·
     have hlf_ : n.leaf = false := h41
     obtain ⟨e, rfl, hkl_, hLk2_⟩ := lookOk_kid hLk_ hn hlf_
     refine W.skip (W.region rfl (wP (Value.pointer (some ⟨b22, 2, none⟩)) (wS dv13 rfl (Step.load1 Try.sc96 rfl ((M.cell 0 rfl 2).trans rfl)) (wM (vI ↑i_) ?_))))
     obtain ⟨cap44, hb43⟩ := SlAt.base (own_slAt (M.chunk 3 rfl).inv) (by omega)
     obtain ⟨x45, hx45⟩ := elem_of_lt (xs := n.kids) (i := i_) (by omega)
     have hgd_ : n.kids.getD i_ hdZero = x45 := by rw [List.getD_eq_getElem?_getD, hx45]; rfl
     refine wS (vQ dv13 i_ 2) rfl (sX i_ Try.un96 Try.el92 rfl rfl hb43) (wS (Value.agg #[(vI x45.at_), (vI x45.turn)]) rfl (Step.loadEN (k := 0) (cs' := [(vI x45.at_), (vI x45.turn)]) Try.ag92 (flat_ec (own_slAt (M.chunk 3 rfl).inv) hx45 handleE_len) (by decide) rfl rfl rfl) ?_)
     refine WL.store (v := (Value.agg #[(vI x45.at_), (vI x45.turn)])) (cs := [(vI x45.at_), (vI x45.turn)]) (c' := #[(vI x45.at_), (vI x45.turn)]) M 5 rfl rfl Try.el92.sized rfl rfl rfl rfl (Nat.le_of_ble_eq_true rfl) (cel_cons rfl (cel_cons rfl cel_nil)) rfl rfl (fun w46 M => ?_)
     refine WL.nil (wR (wS (Value.agg #[(vI x45.at_), (vI x45.turn)]) rfl (Step.loadN Try.ag92 rfl (M.blk 5 rfl) (Nat.le_of_ble_eq_true rfl) rfl) (WL.nil (W.region rfl ?_))))
     refine WL.alloc (c := #[(vI 0), (vI 0)]) M rfl Try.el92.zero rfl (fun b47 w48 hb47 M => ?_)
     refine WL.store (v := (Value.agg #[(vI x45.at_), (vI x45.turn)])) (cs := [(vI x45.at_), (vI x45.turn)]) (c' := #[(vI x45.at_), (vI x45.turn)]) M 0 rfl rfl Try.el92.sized rfl rfl rfl rfl (Nat.le_of_ble_eq_true rfl) (cel_cons rfl (cel_cons rfl cel_nil)) rfl rfl (fun w49 M => ?_)
     refine WL.nil ?_
     replace M := M.sel (L' := [bk b47 #[(vI x45.at_), (vI x45.turn)] 92, bk b1 #[(vS x32), (vI x37)] 41, arenaC 143 145 S ab l]) [0, 7, 2] rfl (by decide)
     exact ⟨_, (by omega), b47, x45, e, ((⟨x32, x37⟩ : THit), true), ⟨(hLk2_ _ (List.mem_of_getElem? hx45)), (by rw [← hEq_, leastT_kid hn hlf_, hfi_, hgd_, if_pos hil_]; try simp [hitOf, List.getD, h3, h29p, hx32, h34, hx37, h41, hx45]), rfl⟩, ⟨rfl, rfl, rfl, rfl, rfl, rfl, rfl⟩, M⟩
  ·
   have h29p := of_decide_eq_false h29
   have hfi_ : n.keys.findIdx p = i_ := (find_end (by omega) hi28).trans (by omega)
   have hil_ : ¬ i_ < n.keys.length := by omega
   rw [h29]
   refine WL.pass rfl ?_
   refine WL.pass rfl ?_
   refine WL.pass rfl ?_
   refine WL.pass rfl ?_
   refine WL.pass rfl ?_
   refine WL.pass rfl ?_
   refine WL.pass rfl ?_
   refine WL.pass rfl ?_
   refine wS (vB false) rfl (Step.pick (t := false) rfl rfl) (WL.nil ?_)
   refine W.cond (t := false) rfl (fun h => by cases h) (fun _ => ?_)
   refine W.exit ?_
   refine thn_exit ?_
   refine thn_exit ?_
   refine inBlk_hit ?_
   refine W.seq' (wR (wM (vI ↑i_) (wP (Value.pointer (some ⟨b22, 1, none⟩)) (wS kv12 rfl (Step.load1 Try.sc22 rfl ((M.cell 0 rfl 1).trans rfl)) (wS (vI ↑n.keys.length) rfl (Step.lenSl Try.un22 rfl (own_slAt (M.chunk 2 rfl).inv)) ?_)))))
   refine wS (vB false) rfl (Step.cast (congrArg Value.bool h29) sP) (WL.nil ?_)
   refine W.cond (t := false) rfl (fun h => by cases h) (fun _ => ?_)
   refine W.skip (W.seq' (wR (wP (vP b22) (wS (vB n.leaf) rfl (Step.load1 Try.sc4 rfl ((M.cell 0 rfl 0).trans rfl)) (WL.nil ?_)))))
   refine W.cond (t := n.leaf) rfl (fun h50 => ?_) (fun h50 => ?_)
   ·
    have hlf_ : n.leaf = true := h50
    refine wR (wS (Value.agg #[(vS b_.1.key), (vI b_.1.val)]) rfl (Step.loadN Try.ag41 rfl (M.blk 6 rfl) (Nat.le_of_ble_eq_true rfl) rfl) (wM (vB b_.2) ?_))
    refine WL.store (v := (Value.agg #[(vS b_.1.key), (vI b_.1.val)])) (cs := [(vS b_.1.key), (vI b_.1.val)]) (c' := #[(vS b_.1.key), (vI b_.1.val)]) M 6 rfl rfl Try.el41.sized rfl rfl rfl rfl (Nat.le_of_ble_eq_true rfl) (cel_cons rfl (cel_cons rfl cel_nil)) rfl rfl (fun w51 M => ?_)
    refine wA (vB b_.2) (WL.nil ?_)
    refine W.ret ?_
    refine ⟨.inl rfl, (Value.tuple #[(Value.agg #[(vS b_.1.key), (vI b_.1.val)]), (vB b_.2)]), ?_, ?_⟩
    · exact ⟨rfl, (Res.r2 (RV.cellN Try.ag41 rfl (M.blk 6 rfl) rfl) (show RV _ _ _ (.tmp 5) (vB b_.2) from by exact rfl))⟩
    refine ⟨?_, M.close [1] rfl (by decide) trivial⟩
    unfold lookT; rw [if_pos (by simpa using h3), ← hEq_, leastT_leaf hn hlf_, hfi_, if_neg hil_]; try simp [hitOf, List.getD, h3, h29p, h50]
   ·
    have hlf_ : n.leaf = false := h50
    obtain ⟨e, rfl, hkl_, hLk2_⟩ := lookOk_kid hLk_ hn hlf_
    refine W.skip (W.region rfl (wP (Value.pointer (some ⟨b22, 2, none⟩)) (wS dv13 rfl (Step.load1 Try.sc96 rfl ((M.cell 0 rfl 2).trans rfl)) (wM (vI ↑i_) ?_))))
    obtain ⟨cap53, hb52⟩ := SlAt.base (own_slAt (M.chunk 3 rfl).inv) (by omega)
    obtain ⟨x54, hx54⟩ := elem_of_lt (xs := n.kids) (i := i_) (by omega)
    have hgd_ : n.kids.getD i_ hdZero = x54 := by rw [List.getD_eq_getElem?_getD, hx54]; rfl
    refine wS (vQ dv13 i_ 2) rfl (sX i_ Try.un96 Try.el92 rfl rfl hb52) (wS (Value.agg #[(vI x54.at_), (vI x54.turn)]) rfl (Step.loadEN (k := 0) (cs' := [(vI x54.at_), (vI x54.turn)]) Try.ag92 (flat_ec (own_slAt (M.chunk 3 rfl).inv) hx54 handleE_len) (by decide) rfl rfl rfl) ?_)
    refine WL.store (v := (Value.agg #[(vI x54.at_), (vI x54.turn)])) (cs := [(vI x54.at_), (vI x54.turn)]) (c' := #[(vI x54.at_), (vI x54.turn)]) M 5 rfl rfl Try.el92.sized rfl rfl rfl rfl (Nat.le_of_ble_eq_true rfl) (cel_cons rfl (cel_cons rfl cel_nil)) rfl rfl (fun w55 M => ?_)
    refine WL.nil (wR (wS (Value.agg #[(vI x54.at_), (vI x54.turn)]) rfl (Step.loadN Try.ag92 rfl (M.blk 5 rfl) (Nat.le_of_ble_eq_true rfl) rfl) (WL.nil (W.region rfl ?_))))
    refine WL.alloc (c := #[(vI 0), (vI 0)]) M rfl Try.el92.zero rfl (fun b56 w57 hb56 M => ?_)
    refine WL.store (v := (Value.agg #[(vI x54.at_), (vI x54.turn)])) (cs := [(vI x54.at_), (vI x54.turn)]) (c' := #[(vI x54.at_), (vI x54.turn)]) M 0 rfl rfl Try.el92.sized rfl rfl rfl rfl (Nat.le_of_ble_eq_true rfl) (cel_cons rfl (cel_cons rfl cel_nil)) rfl rfl (fun w58 M => ?_)
    refine WL.nil ?_
    replace M := M.sel (L' := [bk b56 #[(vI x54.at_), (vI x54.turn)] 92, bk b1 #[(vS b_.1.key), (vI b_.1.val)] 41, arenaC 143 145 S ab l]) [0, 7, 2] rfl (by decide)
    exact ⟨_, (by omega), b56, x54, e, b_, ⟨(hLk2_ _ (List.mem_of_getElem? hx54)), (by rw [← hEq_, leastT_kid hn hlf_, hfi_, hgd_, if_neg hil_]; try simp [hitOf, List.getD, h3, h29p, h50, hx54]), rfl⟩, ⟨rfl, rfl, rfl, rfl, rfl, rfl, rfl⟩, M⟩
end Go.Proofs
set_option maxRecDepth 100000
namespace Go.Proofs
open Go Tp
set_option maxHeartbeats 1000000 in
theorem tr_greatest {G X : Nat → Prop} {w : World} (tb ab : Nat) (rt : Handle) (fu : Bool) (ln : Int) (l : List RPlace) (S : Nat → Prop) (f : Value) (p : ByteArray → Bool)  (hA : SmallA l) (d : Nat) (hLk : fu = true → lookOk d l rt) (M : Mem G X w [arenaC 143 145 S ab l] [bF tb #[(vP ab), (vI rt.at_), (vI rt.turn), (vB fu), (vI ln)] 94, FnS Try.prog f p] w) : Rets Try.prog 97 #[(vP tb), f] w fun r w' => r = (Value.tuple #[(Value.agg #[(vS (((lookG fu d l rt p).1).key)), (vI (((lookG fu d l rt p).1).val))]), (vB ((lookG fu d l rt p).2))]) ∧ Mem G X w [arenaC 143 145 S ab l] [] w' := by
 refine Rets.enter 69 _ Try.func97 rfl Try.ntmps97 Try.results97 (by simp) ?_
 refine wR ?_
 refine WL.alloc (c := #[(vS sZ), (vI 0)]) M rfl Try.el41.zero rfl (fun b1 w2 hb1 M => ?_)
 refine wA (vB false) (WL.nil (W.seq' (wR (wM (vP tb) (wP (vB false) ?_)))))
 refine wM (vB false) (wM (vP tb) (wP (vP tb) (wP (Value.pointer (some ⟨tb, 3, none⟩)) (wS (vB fu) rfl (Step.load1 Try.sc4 rfl ((cell_blk (M.rep 0 rfl) 3).trans rfl)) (wP (vB !fu) ?_)))))
 refine wS (vB !fu) rfl (Step.pick (t := false) rfl rfl) (WL.nil ?_)
 refine W.cond (t := !fu) rfl (fun h3 => ?_) (fun h3 => ?_)
 ·
  refine wR (wP (Value.agg #[(vS sZ), (vI 0)]) ?_)
  refine WL.store (v := (Value.agg #[(vS sZ), (vI 0)])) (cs := [(vS sZ), (vI 0)]) (c' := #[(vS sZ), (vI 0)]) M 0 rfl rfl Try.el41.sized rfl rfl rfl rfl (Nat.le_of_ble_eq_true rfl) (cel_cons rfl (cel_cons rfl cel_nil)) rfl rfl (fun w4 M => ?_)
  refine wA (vB false) (WL.nil ?_)
  refine W.ret ?_
  refine ⟨.inl rfl, (Value.tuple #[(Value.agg #[(vS sZ), (vI 0)]), (vB false)]), ?_, ?_⟩
  · exact ⟨rfl, (Res.r2 (RV.cellN Try.ag41 rfl (M.blk 0 rfl) rfl) (show RV _ _ _ (.tmp 5) (vB false) from by exact rfl))⟩
  refine ⟨?_, M.close [1] rfl (by decide) trivial⟩
  have hfu_ : fu = false := (by simpa using h3)
  simp [lookG, noHit, hfu_]
 ·
  refine W.skip (wR (wM (vP tb) (wP (vP tb) (wP (Value.pointer (some ⟨tb, 1, none⟩)) (wS (Value.agg #[(vI rt.at_), (vI rt.turn)]) rfl (Step.loadN Try.ag92 rfl (M.rep 0 rfl) (Nat.le_of_ble_eq_true rfl) rfl) ?_)))))
  refine WL.alloc (c := #[(vI 0), (vI 0)]) M rfl Try.el92.zero rfl (fun b5 w6 hb5 M => ?_)
  refine WL.store (v := (Value.agg #[(vI rt.at_), (vI rt.turn)])) (cs := [(vI rt.at_), (vI rt.turn)]) (c' := #[(vI rt.at_), (vI rt.turn)]) M 0 rfl rfl Try.el92.sized rfl rfl rfl rfl (Nat.le_of_ble_eq_true rfl) (cel_cons rfl (cel_cons rfl cel_nil)) rfl rfl (fun w7 M => ?_)
  refine WL.nil (W.block ?_)
  replace M := M.sel (L' := [bk b5 #[(vI rt.at_), (vI rt.turn)] 92, bk b1 #[(vS sZ), (vI 0)] 41, arenaC 143 145 S ab l]) [0, 1, 2] rfl (by decide)
  refine W.loop (fun kk ρ w' => ∃ (hb_ : Nat) (h_ : Handle) (d_ : Nat) (b_ : THit × Bool), ((lookOk d_ l h_) ∧ (greatT d_ l h_ p b_ = greatT d l rt p noHit) ∧ kk = d_ + 1) ∧ ρ.has [(0, (vP tb)), (1, f), (4, (vP b1)), (5, (vB b_.2)), (6, (vP hb_))] ∧ Mem G X w [bk hb_ #[(vI h_.at_), (vI h_.turn)] 92, bk b1 #[(vS b_.1.key), (vI b_.1.val)] 41, arenaC 143 145 S ab l] [bF tb #[(vP ab), (vI rt.at_), (vI rt.turn), (vB fu), (vI ln)] 94, FnS Try.prog f p]  w') _ ⟨b5, rt, d, noHit, ⟨(hLk (by simpa using h3)), rfl, rfl⟩, ⟨rfl, rfl, rfl, rfl, rfl, rfl, rfl⟩, M⟩ ?_
  rintro _ ρ9 w8 ⟨hb_, h_, d_, b_, ⟨hi10, hi11, rfl⟩, hρ, M⟩
  obtain ⟨ρ9, rfl⟩ := hρ.know
  clear hρ
  have hLk_ : lookOk d_ l h_ := hi10
  have hEq_ : greatT d_ l h_ p b_ = greatT d l rt p noHit := hi11
  obtain ⟨n, hn⟩ : ∃ n, (rget l h_).1 = n := ⟨_, rfl⟩
  obtain ⟨⟨ht1, ht2, ht3⟩, hvl⟩ := lookOk_node hLk_ hn
  refine W.seq' (W.block (wR (wM (vP tb) (wS (Value.agg #[(vI h_.at_), (vI h_.turn)]) rfl (Step.loadN Try.ag92 rfl (M.blk 0 rfl) (Nat.le_of_ble_eq_true rfl) rfl) ?_))))
  have fq := M.frm [arenaC 143 145 S ab l] [bk hb_ #[(vI h_.at_), (vI h_.turn)] 92, bk b1 #[(vS b_.1.key), (vI b_.1.val)] 41] [2, 0, 1] rfl
  refine WL.callX rfl (tr_node tb ab rt fu ln l S h_ (by assumption) n hn (M.eF fq ⟨(M.rF fq 0 rfl), trivial⟩)) (CallsF.func Try.en49 rfl) ?_
  rintro _ w15 ⟨kv12, dv13, vv14, rfl, m⟩
  replace M := M.lF fq m
  clear m
  have sl16 : IsSl kv12 := SlAt.isSl (own_slAt (Mem.chunk M 1 rfl).inv)
  have hle17 := SlAt.le' (own_slAt (Mem.chunk M 1 rfl).inv)
  have sl18 : IsSl dv13 := SlAt.isSl (own_slAt (Mem.chunk M 2 rfl).inv)
  have hle19 := SlAt.le' (own_slAt (Mem.chunk M 2 rfl).inv)
  have sl20 : IsSl vv14 := SlAt.isSl (own_slAt (Mem.chunk M 3 rfl).inv)
  have hle21 := SlAt.le' (own_slAt (Mem.chunk M 3 rfl).inv)
  refine WL.alloc (c := #[(vB false), vZ, vZ, vZ]) M rfl Try.el99.zero rfl (fun b22 w23 hb22 M => ?_)
  refine WL.store (v := (Value.agg #[(vB n.leaf), kv12, dv13, vv14])) (cs := [(vB n.leaf), kv12, dv13, vv14]) (c' := #[(vB n.leaf), kv12, dv13, vv14]) M 0 rfl rfl Try.el99.sized rfl rfl rfl rfl (Nat.le_of_ble_eq_true rfl) (cel_cons rfl (cel_cons (IsSl.cel sl16) (cel_cons (IsSl.cel sl18) (cel_cons (IsSl.cel sl20) cel_nil)))) rfl rfl (fun w24 M => ?_)
  refine WL.nil (wR (wP (Value.pointer (some ⟨b22, 1, none⟩)) (wS kv12 rfl (Step.load1 Try.sc22 rfl ((M.cell 0 rfl 1).trans rfl)) (wS (vI ↑n.keys.length) rfl (Step.lenSl Try.un22 rfl (own_slAt (M.chunk 2 rfl).inv)) (wA (vI ↑n.keys.length) ?_)))))
  refine WL.nil (W.seq' (W.block ?_))
  refine W.loop (fun kk ρ w' => ∃ (i_ : Nat), ((i_ ≤ n.keys.length) ∧ (∀ j u, i_ ≤ j → n.keys[j]? = some u → p u = false) ∧ kk = i_ + 1) ∧ ρ.has [(0, (vP tb)), (1, f), (4, (vP b1)), (5, (vB b_.2)), (6, (vP hb_)), (7, (vP b22)), (8, (vI ↑i_)), (23, (vP tb)), (24, (Value.agg #[(vI h_.at_), (vI h_.turn)])), (25, (Value.agg #[(vB n.leaf), kv12, dv13, vv14])), (26, (Value.pointer (some ⟨b22, 1, none⟩))), (27, kv12), (28, (vI ↑n.keys.length))] ∧ Mem G X w [bk b22 #[(vB n.leaf), kv12, dv13, vv14] 99, arenaC 143 145 S ab l, oS kv12 n.keys, oH dv13 n.kids, oI vv14 n.vals, bk hb_ #[(vI h_.at_), (vI h_.turn)] 92, bk b1 #[(vS b_.1.key), (vI b_.1.val)] 41] [bF tb #[(vP ab), (vI rt.at_), (vI rt.turn), (vB fu), (vI ln)] 94, FnS Try.prog f p]  w') _ ⟨n.keys.length, ⟨(Nat.le_refl _), (fun j u h hu => absurd (List.getElem?_eq_some_iff.1 hu).1 (by omega)), rfl⟩, ⟨rfl, rfl, rfl, rfl, rfl, rfl, rfl, rfl, rfl, rfl, rfl, rfl, rfl, rfl, rfl⟩, M⟩ ?_
  rintro _ ρ26 w25 ⟨i_, ⟨hi27, hi28, rfl⟩, hρ, M⟩
  obtain ⟨ρ26, rfl⟩ := hρ.know
  clear hρ
  refine W.seq' (wR (wM (vI ↑i_) (wP (vB (decide ((↑i_ : Int) > (0 : Int)))) (wM (vB (decide ((↑i_ : Int) > (0 : Int)))) ?_))))
  rcases Bool.eq_false_or_eq_true (decide ((↑i_ : Int) > (0 : Int))) with h29 | h29
  ·
   have h29p := of_decide_eq_true h29
   rw [h29]
   refine wM f (wP (Value.pointer (some ⟨b22, 1, none⟩)) (wS kv12 rfl (Step.load1 Try.sc22 rfl ((M.cell 0 rfl 1).trans rfl)) (wM (vI ↑i_) (wS (vI (↑(i_ - 1))) rfl (Step.cast (congrArg (Value.int .i64) (show ((↑i_ : Int) - 1 : Int) = ↑(i_ - 1) by omega)) (Step.sub rfl rfl (wrap_i64 (by omega)))) ?_))))
   obtain ⟨cap31, hb30⟩ := SlAt.base (own_slAt (M.chunk 2 rfl).inv) (by omega)
   obtain ⟨x32, hx32⟩ := elem_of_lt (xs := n.keys) (i := i_ - 1) (by omega)
   refine wS (vQ kv12 (i_ - 1) 1) rfl (sX (i_ - 1) Try.un22 Try.el9 rfl rfl hb30) (wS (vS x32) rfl (Step.loadE (k := 0) Try.sc9 (flat_ec (own_slAt (M.chunk 2 rfl).inv) hx32 strE_len) (by decide) rfl rfl) ?_)
   refine WL.callV rfl rfl rfl ((M.rep 1 rfl : FnS _ _ _ _) x32) ?_
   rintro _ w33 ⟨rfl, ho⟩
   replace M := M.old ho
   refine wP (vB (!(p x32))) (wS (vB (!(p x32))) rfl (Step.pick (t := true) rfl rfl) (WL.nil ?_))
   refine W.cond (t := !(p x32)) rfl (fun h34 => ?_) (fun h34 => ?_)
   ·
    refine W.skip (W.block (W.region rfl (wM (vI ↑i_) (wS (vI (↑(i_ - 1))) rfl (Step.cast (congrArg (Value.int .i64) (show ((↑i_ : Int) - 1 : Int) = ↑(i_ - 1) by omega)) (Step.sub rfl rfl (wrap_i64 (by omega)))) (wA (vI (↑(i_ - 1))) ?_)))))
    refine WL.nil ?_
    exact ⟨_, (by omega), i_ - 1, ⟨(by omega), (above_step hi28 hx32 (by simpa using h34)), rfl⟩, ⟨rfl, rfl, rfl, rfl, rfl, rfl, rfl, rfl, rfl, rfl, rfl, rfl, rfl, rfl, rfl⟩, M⟩
   ·
    have hfi_ : endI n.keys p = i_ := endI_eq (by omega) hi28 (fun _ => ⟨_, hx32, by simpa using h34⟩)
    have hil_ : 0 < i_ := by omega
    refine W.exit ?_
    refine thn_exit ?_
    refine thn_exit ?_
    refine inBlk_hit ?_
    refine W.seq' (wR (wM (vI ↑i_) (wS (vB true) rfl (Step.cast (congrArg Value.bool h29) sP) (WL.nil ?_))))
    refine W.cond (t := true) rfl (fun _ => ?_) (fun h => by cases h)
    obtain ⟨cap36, hb35⟩ := SlAt.base (own_slAt (M.chunk 4 rfl).inv) (by omega)
    obtain ⟨x37, hx37⟩ := elem_of_lt (xs := n.vals) (i := i_ - 1) (by omega)
    refine W.drawn M [0, 1, 2, 3, 4, 5, 6, 7, 8, 9, 10, 11, 12, 13, 14] [13] [] _ _ (sY (sY (sY (sY (sY (sY (sN sE))))))) (fun _ h => h) Try.mixed (by kernel_rfl) ?_
    refine tP (Value.pointer (some ⟨b22, 1, none⟩)) rfl (fun w => sP) ?_
    refine tR kv12 rfl (fun A w M => (Step.load1 Try.sc22 rfl ((M.cell 1 rfl 1).trans rfl))) ?_
    refine tP (vI ↑i_) rfl (fun w => (Step.move rfl)) ?_
    refine tP (vI (↑(i_ - 1))) rfl (fun w => (Step.cast (congrArg (Value.int .i64) (show ((↑i_ : Int) - 1 : Int) = ↑(i_ - 1) by omega)) (Step.sub rfl rfl (wrap_i64 (by omega))))) ?_
    refine tP (vQ kv12 (i_ - 1) 1) rfl (fun w => (sX (i_ - 1) Try.un22 Try.el9 rfl rfl hb30)) ?_
    refine tR (vS x32) rfl (fun A w M => (Step.loadE (k := 0) Try.sc9 (flat_ec (own_slAt (M.chunk 3 rfl).inv) hx32 strE_len) (by decide) rfl rfl)) ?_
    refine tP (Value.pointer (some ⟨b22, 3, none⟩)) rfl (fun w => sP) ?_
    refine tR vv14 rfl (fun A w M => (Step.load1 Try.sc97 rfl ((M.cell 1 rfl 3).trans rfl))) ?_
    refine tP (vI ↑i_) rfl (fun w => (Step.move rfl)) ?_
    refine tP (vI (↑(i_ - 1))) rfl (fun w => (Step.cast (congrArg (Value.int .i64) (show ((↑i_ : Int) - 1 : Int) = ↑(i_ - 1) by omega)) (Step.sub rfl rfl (wrap_i64 (by omega))))) ?_
    refine tP (vQ vv14 (i_ - 1) 1) rfl (fun w => (sX (i_ - 1) Try.un97 Try.el3 rfl rfl hb35)) ?_
    refine tR (vI x37) rfl (fun A w M => (Step.loadE (k := 0) Try.sc3 (flat_ec (own_slAt (M.chunk 5 rfl).inv) hx37 intE_len) (by decide) rfl rfl)) ?_
    refine tP (Value.agg #[(vS x32), (vI x37)]) rfl (fun w => sP) ?_
    refine TW.store (v := (Value.agg #[(vS x32), (vI x37)])) (cs := [(vS x32), (vI x37)]) (c' := #[(vS x32), (vI x37)]) 6 rfl rfl (by decide) rfl Try.el41.sized rfl rfl rfl rfl (Nat.le_of_ble_eq_true rfl) (cel_cons rfl (cel_cons rfl cel_nil)) rfl rfl (sY (sY (sY (sY (sY (sY (sN sE))))))) (fun r h => h) ?_
    refine tP (vB true) rfl (fun w => (Step.assign rfl)) ?_
    refine TW.done (fun w40 M => ?_)
    refine W.seq' (wR (wP (vP b22) (wS (vB n.leaf) rfl (Step.load1 Try.sc4 rfl ((M.cell 0 rfl 0).trans rfl)) (WL.nil ?_))))
    refine W.cond (t := n.leaf) rfl (fun h41 => ?_) (fun h41 => ?_)
    ·
     have hlf_ : n.leaf = true := h41
     refine wR (wS (Value.agg #[(vS x32), (vI x37)]) rfl (Step.loadN Try.ag41 rfl (M.blk 6 rfl) (Nat.le_of_ble_eq_true rfl) rfl) (wM (vB true) ?_))
     refine WL.store (v := (Value.agg #[(vS x32), (vI x37)])) (cs := [(vS x32), (vI x37)]) (c' := #[(vS x32), (vI x37)]) M 6 rfl rfl Try.el41.sized rfl rfl rfl rfl (Nat.le_of_ble_eq_true rfl) (cel_cons rfl (cel_cons rfl cel_nil)) rfl rfl (fun w42 M => ?_)
     refine wA (vB true) (WL.nil ?_)
     refine W.ret ?_
     refine ⟨.inl rfl, (Value.tuple #[(Value.agg #[(vS x32), (vI x37)]), (vB true)]), ?_, ?_⟩
     · exact ⟨rfl, (Res.r2 (RV.cellN Try.ag41 rfl (M.blk 6 rfl) rfl) (show RV _ _ _ (.tmp 5) (vB true) from by exact rfl))⟩
     refine ⟨?_, M.close [1] rfl (by decide) trivial⟩
     unfold lookG; rw [if_pos (by simpa using h3), ← hEq_, greatT_leaf hn hlf_, hfi_, if_pos hil_]; try simp [hitOf, List.getD, h3, h29p, hx32, h34, hx37, h41]
    ·
     have hlf_ : n.leaf = false := h41
     obtain ⟨e, rfl, hkl_, hLk2_⟩ := lookOk_kid hLk_ hn hlf_
     refine W.skip (W.region rfl (wP (Value.pointer (some ⟨b22, 2, none⟩)) (wS dv13 rfl (Step.load1 Try.sc96 rfl ((M.cell 0 rfl 2).trans rfl)) (wM (vI ↑i_) ?_))))
     obtain ⟨cap44, hb43⟩ := SlAt.base (own_slAt (M.chunk 3 rfl).inv) (by omega)
     obtain ⟨x45, hx45⟩ := elem_of_lt (xs := n.kids) (i := i_) (by omega)
     have hgd_ : n.kids.getD i_ hdZero = x45 := by rw [List.getD_eq_getElem?_getD, hx45]; rfl
     refine wS (vQ dv13 i_ 2) rfl (sX i_ Try.un96 Try.el92 rfl rfl hb43) (wS (Value.agg #[(vI x45.at_), (vI x45.turn)]) rfl (Step.loadEN (k := 0) (cs' := [(vI x45.at_), (vI x45.turn)]) Try.ag92 (flat_ec (own_slAt (M.chunk 3 rfl).inv) hx45 handleE_len) (by decide) rfl rfl rfl) ?_)
     refine WL.store (v := (Value.agg #[(vI x45.at_), (vI x45.turn)])) (cs := [(vI x45.at_), (vI x45.turn)]) (c' := #[(vI x45.at_), (vI x45.turn)]) M 5 rfl rfl Try.el92.sized rfl rfl rfl rfl (Nat.le_of_ble_eq_true rfl) (cel_cons rfl (cel_cons rfl cel_nil)) rfl rfl (fun w46 M => ?_)
     refine WL.nil (wR (wS (Value.agg #[(vI x45.at_), (vI x45.turn)]) rfl (Step.loadN Try.ag92 rfl (M.blk 5 rfl) (Nat.le_of_ble_eq_true rfl) rfl) (WL.nil (W.region rfl ?_))))
     refine WL.alloc (c := #[(vI 0), (vI 0)]) M rfl Try.el92.zero rfl (fun b47 w48 hb47 M => ?_)
     refine WL.store (v := (Value.agg #[(vI x45.at_), (vI x45.turn)])) (cs := [(vI x45.at_), (vI x45.turn)]) (c' := #[(vI x45.at_), (vI x45.turn)]) M 0 rfl rfl Try.el92.sized rfl rfl rfl rfl (Nat.le_of_ble_eq_true rfl) (cel_cons rfl (cel_cons rfl cel_nil)) rfl rfl (fun w49 M => ?_)
     refine WL.nil ?_
     replace M := M.sel (L' := [bk b47 #[(vI x45.at_), (vI x45.turn)] 92, bk b1 #[(vS x32), (vI x37)] 41, arenaC 143 145 S ab l]) [0, 7, 2] rfl (by decide)
     exact ⟨_, (by omega), b47, x45, e, ((⟨x32, x37⟩ : THit), true), ⟨(hLk2_ _ (List.mem_of_getElem? hx45)), (by rw [← hEq_, greatT_kid hn hlf_, hfi_, hgd_, if_pos hil_]; try simp [hitOf, List.getD, h3, h29p, hx32, h34, hx37, h41, hx45]), rfl⟩, ⟨rfl, rfl, rfl, rfl, rfl, rfl, rfl⟩, M⟩
  ·
   have h29p := of_decide_eq_false h29
   have hfi_ : endI n.keys p = i_ := endI_eq (by omega) hi28 (fun h_ => absurd h_ (by omega))
   have hil_ : ¬ 0 < i_ := by omega
   rw [h29]
   refine WL.pass rfl ?_
   refine WL.pass rfl ?_
   refine WL.pass rfl ?_
   refine WL.pass rfl ?_
   refine WL.pass rfl ?_
   refine WL.pass rfl ?_
   refine WL.pass rfl ?_
   refine WL.pass rfl ?_
   refine WL.pass rfl ?_
   refine wS (vB false) rfl (Step.pick (t := false) rfl rfl) (WL.nil ?_)
   refine W.cond (t := false) rfl (fun h => by cases h) (fun _ => ?_)
   refine W.exit ?_
   refine thn_exit ?_
   refine thn_exit ?_
   refine inBlk_hit ?_
   refine W.seq' (wR (wM (vI ↑i_) (wS (vB false) rfl (Step.cast (congrArg Value.bool h29) sP) (WL.nil ?_))))
   refine W.cond (t := false) rfl (fun h => by cases h) (fun _ => ?_)
   refine W.skip (W.seq' (wR (wP (vP b22) (wS (vB n.leaf) rfl (Step.load1 Try.sc4 rfl ((M.cell 0 rfl 0).trans rfl)) (WL.nil ?_)))))
   refine W.cond (t := n.leaf) rfl (fun h50 => ?_) (fun h50 => ?_)
   ·
    have hlf_ : n.leaf = true := h50
    refine wR (wS (Value.agg #[(vS b_.1.key), (vI b_.1.val)]) rfl (Step.loadN Try.ag41 rfl (M.blk 6 rfl) (Nat.le_of_ble_eq_true rfl) rfl) (wM (vB b_.2) ?_))
    refine WL.store (v := (Value.agg #[(vS b_.1.key), (vI b_.1.val)])) (cs := [(vS b_.1.key), (vI b_.1.val)]) (c' := #[(vS b_.1.key), (vI b_.1.val)]) M 6 rfl rfl Try.el41.sized rfl rfl rfl rfl (Nat.le_of_ble_eq_true rfl) (cel_cons rfl (cel_cons rfl cel_nil)) rfl rfl (fun w51 M => ?_)
    refine wA (vB b_.2) (WL.nil ?_)
    refine W.ret ?_
    refine ⟨.inl rfl, (Value.tuple #[(Value.agg #[(vS b_.1.key), (vI b_.1.val)]), (vB b_.2)]), ?_, ?_⟩
    · exact ⟨rfl, (Res.r2 (RV.cellN Try.ag41 rfl (M.blk 6 rfl) rfl) (show RV _ _ _ (.tmp 5) (vB b_.2) from by exact rfl))⟩
    refine ⟨?_, M.close [1] rfl (by decide) trivial⟩
    unfold lookG; rw [if_pos (by simpa using h3), ← hEq_, greatT_leaf hn hlf_, hfi_, if_neg hil_]; try simp [hitOf, List.getD, h3, h29p, h50]
   ·
    have hlf_ : n.leaf = false := h50
    obtain ⟨e, rfl, hkl_, hLk2_⟩ := lookOk_kid hLk_ hn hlf_
    refine W.skip (W.region rfl (wP (Value.pointer (some ⟨b22, 2, none⟩)) (wS dv13 rfl (Step.load1 Try.sc96 rfl ((M.cell 0 rfl 2).trans rfl)) (wM (vI ↑i_) ?_))))
    obtain ⟨cap53, hb52⟩ := SlAt.base (own_slAt (M.chunk 3 rfl).inv) (by omega)
    obtain ⟨x54, hx54⟩ := elem_of_lt (xs := n.kids) (i := i_) (by omega)
    have hgd_ : n.kids.getD i_ hdZero = x54 := by rw [List.getD_eq_getElem?_getD, hx54]; rfl
    refine wS (vQ dv13 i_ 2) rfl (sX i_ Try.un96 Try.el92 rfl rfl hb52) (wS (Value.agg #[(vI x54.at_), (vI x54.turn)]) rfl (Step.loadEN (k := 0) (cs' := [(vI x54.at_), (vI x54.turn)]) Try.ag92 (flat_ec (own_slAt (M.chunk 3 rfl).inv) hx54 handleE_len) (by decide) rfl rfl rfl) ?_)
    refine WL.store (v := (Value.agg #[(vI x54.at_), (vI x54.turn)])) (cs := [(vI x54.at_), (vI x54.turn)]) (c' := #[(vI x54.at_), (vI x54.turn)]) M 5 rfl rfl Try.el92.sized rfl rfl rfl rfl (Nat.le_of_ble_eq_true rfl) (cel_cons rfl (cel_cons rfl cel_nil)) rfl rfl (fun w55 M => ?_)
    refine WL.nil (wR (wS (Value.agg #[(vI x54.at_), (vI x54.turn)]) rfl (Step.loadN Try.ag92 rfl (M.blk 5 rfl) (Nat.le_of_ble_eq_true rfl) rfl) (WL.nil (W.region rfl ?_))))
    refine WL.alloc (c := #[(vI 0), (vI 0)]) M rfl Try.el92.zero rfl (fun b56 w57 hb56 M => ?_)
    refine WL.store (v := (Value.agg #[(vI x54.at_), (vI x54.turn)])) (cs := [(vI x54.at_), (vI x54.turn)]) (c' := #[(vI x54.at_), (vI x54.turn)]) M 0 rfl rfl Try.el92.sized rfl rfl rfl rfl (Nat.le_of_ble_eq_true rfl) (cel_cons rfl (cel_cons rfl cel_nil)) rfl rfl (fun w58 M => ?_)
    refine WL.nil ?_
    replace M := M.sel (L' := [bk b56 #[(vI x54.at_), (vI x54.turn)] 92, bk b1 #[(vS b_.1.key), (vI b_.1.val)] 41, arenaC 143 145 S ab l]) [0, 7, 2] rfl (by decide)
    exact ⟨_, (by omega), b56, x54, e, b_, ⟨(hLk2_ _ (List.mem_of_getElem? hx54)), (by rw [← hEq_, greatT_kid hn hlf_, hfi_, hgd_, if_neg hil_]; try simp [hitOf, List.getD, h3, h29p, h50, hx54]), rfl⟩, ⟨rfl, rfl, rfl, rfl, rfl, rfl, rfl⟩, M⟩
end Go.Proofs
set_option maxRecDepth 100000
namespace Go.Proofs
open Go Tp
theorem Try.en79 : Enters Try.prog 79 := fun _ _ => by kernel_rfl
theorem Try.en80 : Enters Try.prog 80 := fun _ _ => by kernel_rfl
theorem Try.en97 : Enters Try.prog 97 := fun _ _ => by kernel_rfl
theorem Try.en98 : Enters Try.prog 98 := fun _ _ => by kernel_rfl
theorem tst_from {G : Nat → Prop} {w : World} (x : ByteArray) (kb : Nat) (k : ByteArray)   (M : Mem G (fun _ => False) w [] [bF kb #[(vS k)] 9] w) : Rets Try.prog 80 #[(vS x), (vP kb)] w fun r w' => r = (vB ((fun (x : ByteArray) => !(sLt x k)) x)) ∧ Mem G (fun _ => False) w [] [] w' := by
 refine Rets.enter 7 _ Try.func80 rfl Try.ntmps80 Try.results80 (by simp) ?_
 refine wR (wA (vB false) (WL.nil (wR (wM (vS x) (wS (vS k) rfl (Step.load1 Try.sc9 rfl ((cell_blk (M.rep 0 rfl) 0).trans rfl)) ?_)))))
 refine wP (vB (!(sLt x k))) (wA (vB (!(sLt x k))) (WL.nil ?_))
 refine W.ret ?_
 refine ⟨.inl rfl, (vB (!(sLt x k))), ?_, ?_⟩
 · exact ⟨rfl, (Res.r1 (show RV _ _ _ (.tmp 3) (vB (!(sLt x k))) from by exact rfl))⟩
 refine ⟨?_, M.close [] rfl (by decide) trivial⟩
 refine congrArg Value.bool ?_
 first | rfl | exact sGt _ _ | exact sLe _ _
theorem tst_before {G : Nat → Prop} {w : World} (x : ByteArray) (kb : Nat) (k : ByteArray)   (M : Mem G (fun _ => False) w [] [bF kb #[(vS k)] 9] w) : Rets Try.prog 98 #[(vS x), (vP kb)] w fun r w' => r = (vB ((fun (x : ByteArray) => sLt x k) x)) ∧ Mem G (fun _ => False) w [] [] w' := by
 refine Rets.enter 7 _ Try.func98 rfl Try.ntmps98 Try.results98 (by simp) ?_
 refine wR (wA (vB false) (WL.nil (wR (wM (vS x) (wS (vS k) rfl (Step.load1 Try.sc9 rfl ((cell_blk (M.rep 0 rfl) 0).trans rfl)) ?_)))))
 refine wP (vB (sLt x k)) (wA (vB (sLt x k)) (WL.nil ?_))
 refine W.ret ?_
 refine ⟨.inl rfl, (vB (sLt x k)), ?_, ?_⟩
 · exact ⟨rfl, (Res.r1 (show RV _ _ _ (.tmp 3) (vB (sLt x k)) from by exact rfl))⟩
 refine ⟨?_, M.close [] rfl (by decide) trivial⟩
 refine congrArg Value.bool ?_
 first | rfl | exact sGt _ _ | exact sLe _ _
theorem tr_From {G X : Nat → Prop} {w : World} (tb ab : Nat) (rt : Handle) (fu : Bool) (ln : Int) (l : List RPlace) (S : Nat → Prop) (k : ByteArray)  (hA : SmallA l) (d : Nat) (hLk : fu = true → lookOk d l rt) (M : Mem G X w [arenaC 143 145 S ab l] [bF tb #[(vP ab), (vI rt.at_), (vI rt.turn), (vB fu), (vI ln)] 94] w) : Rets Try.prog 45 #[(vP tb), (vS k)] w fun r w' => r = (Value.tuple #[(Value.agg #[(vS (((lookT fu d l rt (fun (x : ByteArray) => !(sLt x k))).1).key)), (vI (((lookT fu d l rt (fun (x : ByteArray) => !(sLt x k))).1).val))]), (vB ((lookT fu d l rt (fun (x : ByteArray) => !(sLt x k))).2))]) ∧ Mem G X w [arenaC 143 145 S ab l] [] w' := by
 refine Rets.enter 11 _ Try.func45 rfl Try.ntmps45 Try.results45 (by simp) ?_
 refine wR ?_
 refine WL.box (v := (vS k)) (c := #[(vS k)]) M rfl rfl rfl (fun b1 w2 hb1 M => ?_)
 refine WL.alloc (c := #[(vS sZ), (vI 0)]) M rfl Try.el41.zero rfl (fun b3 w4 hb3 M => ?_)
 refine wA (vB false) (WL.nil (wR (wM (vP tb) (wP (Value.func (.func 80) #[] #[(vP b1)]) ?_))))
 have fq := M.frm [arenaC 143 145 S ab l] [bk b3 #[(vS sZ), (vI 0)] 41, bk b1 #[(vS k)] 9] [2, 0, 1] rfl
 refine WL.callX rfl (tr_least tb ab rt fu ln l S (Value.func (.func 80) #[] #[(vP b1)]) (fun (x : ByteArray) => !(sLt x k)) (by assumption) d (by assumption) (M.eF fq ⟨(M.rF fq 0 rfl), ((M.cF fq 1 rfl).imp fun w_ hb_ x_ => RetsV.of_rets Try.en80 rfl (Rets.mono (tst_from x_ b1 k (Mem.law0 ⟨Sh.blk hb_ trivial, trivial⟩)) (fun r_ w2_ h_ => ⟨h_.1, h_.2.mod⟩))), trivial⟩)) (CallsF.func Try.en79 rfl) ?_
 rintro _ w5 ⟨rfl, m⟩
 replace M := M.lF fq m
 clear m
 refine wP (Value.agg #[(vS (((lookT fu d l rt (fun (x : ByteArray) => !(sLt x k))).1).key)), (vI (((lookT fu d l rt (fun (x : ByteArray) => !(sLt x k))).1).val))]) (wP (vB ((lookT fu d l rt (fun (x : ByteArray) => !(sLt x k))).2)) ?_)
 refine WL.store (v := (Value.agg #[(vS (((lookT fu d l rt (fun (x : ByteArray) => !(sLt x k))).1).key)), (vI (((lookT fu d l rt (fun (x : ByteArray) => !(sLt x k))).1).val))])) (cs := [(vS (((lookT fu d l rt (fun (x : ByteArray) => !(sLt x k))).1).key)), (vI (((lookT fu d l rt (fun (x : ByteArray) => !(sLt x k))).1).val))]) (c' := #[(vS (((lookT fu d l rt (fun (x : ByteArray) => !(sLt x k))).1).key)), (vI (((lookT fu d l rt (fun (x : ByteArray) => !(sLt x k))).1).val))]) M 1 rfl rfl Try.el41.sized rfl rfl rfl rfl (Nat.le_of_ble_eq_true rfl) (cel_cons rfl (cel_cons rfl cel_nil)) rfl rfl (fun w6 M => ?_)
 refine wA (vB ((lookT fu d l rt (fun (x : ByteArray) => !(sLt x k))).2)) (WL.nil ?_)
 refine W.ret ?_
 refine ⟨.inl rfl, (Value.tuple #[(Value.agg #[(vS (((lookT fu d l rt (fun (x : ByteArray) => !(sLt x k))).1).key)), (vI (((lookT fu d l rt (fun (x : ByteArray) => !(sLt x k))).1).val))]), (vB ((lookT fu d l rt (fun (x : ByteArray) => !(sLt x k))).2))]), ?_, ?_⟩
 · exact ⟨rfl, (Res.r2 (RV.cellN Try.ag41 rfl (M.blk 1 rfl) rfl) (show RV _ _ _ (.tmp 5) (vB ((lookT fu d l rt (fun (x : ByteArray) => !(sLt x k))).2)) from by exact rfl))⟩
 refine ⟨?_, M.close [0] rfl (by decide) trivial⟩
 rfl
theorem tr_Before {G X : Nat → Prop} {w : World} (tb ab : Nat) (rt : Handle) (fu : Bool) (ln : Int) (l : List RPlace) (S : Nat → Prop) (k : ByteArray)  (hA : SmallA l) (d : Nat) (hLk : fu = true → lookOk d l rt) (M : Mem G X w [arenaC 143 145 S ab l] [bF tb #[(vP ab), (vI rt.at_), (vI rt.turn), (vB fu), (vI ln)] 94] w) : Rets Try.prog 60 #[(vP tb), (vS k)] w fun r w' => r = (Value.tuple #[(Value.agg #[(vS (((lookG fu d l rt (fun (x : ByteArray) => sLt x k)).1).key)), (vI (((lookG fu d l rt (fun (x : ByteArray) => sLt x k)).1).val))]), (vB ((lookG fu d l rt (fun (x : ByteArray) => sLt x k)).2))]) ∧ Mem G X w [arenaC 143 145 S ab l] [] w' := by
 refine Rets.enter 11 _ Try.func60 rfl Try.ntmps60 Try.results60 (by simp) ?_
 refine wR ?_
 refine WL.box (v := (vS k)) (c := #[(vS k)]) M rfl rfl rfl (fun b1 w2 hb1 M => ?_)
 refine WL.alloc (c := #[(vS sZ), (vI 0)]) M rfl Try.el41.zero rfl (fun b3 w4 hb3 M => ?_)
 refine wA (vB false) (WL.nil (wR (wM (vP tb) (wP (Value.func (.func 98) #[] #[(vP b1)]) ?_))))
 have fq := M.frm [arenaC 143 145 S ab l] [bk b3 #[(vS sZ), (vI 0)] 41, bk b1 #[(vS k)] 9] [2, 0, 1] rfl
 refine WL.callX rfl (tr_greatest tb ab rt fu ln l S (Value.func (.func 98) #[] #[(vP b1)]) (fun (x : ByteArray) => sLt x k) (by assumption) d (by assumption) (M.eF fq ⟨(M.rF fq 0 rfl), ((M.cF fq 1 rfl).imp fun w_ hb_ x_ => RetsV.of_rets Try.en98 rfl (Rets.mono (tst_before x_ b1 k (Mem.law0 ⟨Sh.blk hb_ trivial, trivial⟩)) (fun r_ w2_ h_ => ⟨h_.1, h_.2.mod⟩))), trivial⟩)) (CallsF.func Try.en97 rfl) ?_
 rintro _ w5 ⟨rfl, m⟩
 replace M := M.lF fq m
 clear m
 refine wP (Value.agg #[(vS (((lookG fu d l rt (fun (x : ByteArray) => sLt x k)).1).key)), (vI (((lookG fu d l rt (fun (x : ByteArray) => sLt x k)).1).val))]) (wP (vB ((lookG fu d l rt (fun (x : ByteArray) => sLt x k)).2)) ?_)
 refine WL.store (v := (Value.agg #[(vS (((lookG fu d l rt (fun (x : ByteArray) => sLt x k)).1).key)), (vI (((lookG fu d l rt (fun (x : ByteArray) => sLt x k)).1).val))])) (cs := [(vS (((lookG fu d l rt (fun (x : ByteArray) => sLt x k)).1).key)), (vI (((lookG fu d l rt (fun (x : ByteArray) => sLt x k)).1).val))]) (c' := #[(vS (((lookG fu d l rt (fun (x : ByteArray) => sLt x k)).1).key)), (vI (((lookG fu d l rt (fun (x : ByteArray) => sLt x k)).1).val))]) M 1 rfl rfl Try.el41.sized rfl rfl rfl rfl (Nat.le_of_ble_eq_true rfl) (cel_cons rfl (cel_cons rfl cel_nil)) rfl rfl (fun w6 M => ?_)
 refine wA (vB ((lookG fu d l rt (fun (x : ByteArray) => sLt x k)).2)) (WL.nil ?_)
 refine W.ret ?_
 refine ⟨.inl rfl, (Value.tuple #[(Value.agg #[(vS (((lookG fu d l rt (fun (x : ByteArray) => sLt x k)).1).key)), (vI (((lookG fu d l rt (fun (x : ByteArray) => sLt x k)).1).val))]), (vB ((lookG fu d l rt (fun (x : ByteArray) => sLt x k)).2))]), ?_, ?_⟩
 · exact ⟨rfl, (Res.r2 (RV.cellN Try.ag41 rfl (M.blk 1 rfl) rfl) (show RV _ _ _ (.tmp 5) (vB ((lookG fu d l rt (fun (x : ByteArray) => sLt x k)).2)) from by exact rfl))⟩
 refine ⟨?_, M.close [0] rfl (by decide) trivial⟩
 rfl
end Go.Proofs
set_option maxRecDepth 100000
namespace Go.Proofs
open Go Tp
theorem Try.en45 : Enters Try.prog 45 := fun _ _ => by kernel_rfl
theorem tr_Get {G X : Nat → Prop} {w : World} (tb ab : Nat) (rt : Handle) (fu : Bool) (ln : Int) (l : List RPlace) (S : Nat → Prop) (k : ByteArray)  (hA : SmallA l) (d : Nat) (hLk : fu = true → lookOk d l rt) (M : Mem G X w [arenaC 143 145 S ab l] [bF tb #[(vP ab), (vI rt.at_), (vI rt.turn), (vB fu), (vI ln)] 94] w) : Rets Try.prog 17 #[(vP tb), (vS k)] w fun r w' => r = (Value.tuple #[(vI ((getT fu d l rt k).1)), (vB ((getT fu d l rt k).2))]) ∧ Mem G X w [arenaC 143 145 S ab l] [] w' := by
 refine Rets.enter 24 _ Try.func17 rfl Try.ntmps17 Try.results17 (by simp) ?_
 refine wR (wA (vI 0) (wA (vB false) (WL.nil (wR (wM (vP tb) ?_)))))
 refine wM (vS k) ?_
 have fq := M.frm [arenaC 143 145 S ab l] [] [0] rfl
 refine WL.callX rfl (tr_From tb ab rt fu ln l S k (by assumption) d (by assumption) (M.eF fq ⟨(M.rF fq 0 rfl), trivial⟩)) (CallsF.func Try.en45 rfl) ?_
 rintro _ w1 ⟨rfl, m⟩
 replace M := M.lF fq m
 clear m
 refine wM (Value.tuple #[(Value.agg #[(vS (((lookT fu d l rt (fun (x : ByteArray) => !(sLt x k))).1).key)), (vI (((lookT fu d l rt (fun (x : ByteArray) => !(sLt x k))).1).val))]), (vB ((lookT fu d l rt (fun (x : ByteArray) => !(sLt x k))).2))]) (wP (Value.agg #[(vS (((lookT fu d l rt (fun (x : ByteArray) => !(sLt x k))).1).key)), (vI (((lookT fu d l rt (fun (x : ByteArray) => !(sLt x k))).1).val))]) (wP (vB ((lookT fu d l rt (fun (x : ByteArray) => !(sLt x k))).2)) ?_))
 refine WL.alloc (c := #[(vS sZ), (vI 0)]) M rfl Try.el41.zero rfl (fun b2 w3 hb2 M => ?_)
 refine WL.store (v := (Value.agg #[(vS (((lookT fu d l rt (fun (x : ByteArray) => !(sLt x k))).1).key)), (vI (((lookT fu d l rt (fun (x : ByteArray) => !(sLt x k))).1).val))])) (cs := [(vS (((lookT fu d l rt (fun (x : ByteArray) => !(sLt x k))).1).key)), (vI (((lookT fu d l rt (fun (x : ByteArray) => !(sLt x k))).1).val))]) (c' := #[(vS (((lookT fu d l rt (fun (x : ByteArray) => !(sLt x k))).1).key)), (vI (((lookT fu d l rt (fun (x : ByteArray) => !(sLt x k))).1).val))]) M 0 rfl rfl Try.el41.sized rfl rfl rfl rfl (Nat.le_of_ble_eq_true rfl) (cel_cons rfl (cel_cons rfl cel_nil)) rfl rfl (fun w4 M => ?_)
 refine wA (vB ((lookT fu d l rt (fun (x : ByteArray) => !(sLt x k))).2)) (WL.nil (W.seq' (wR (wM (vB ((lookT fu d l rt (fun (x : ByteArray) => !(sLt x k))).2)) (wP (vB (!((lookT fu d l rt (fun (x : ByteArray) => !(sLt x k))).2))) ?_)))))
 refine wM (vB (!((lookT fu d l rt (fun (x : ByteArray) => !(sLt x k))).2))) ?_
 rcases Bool.eq_false_or_eq_true (!((lookT fu d l rt (fun (x : ByteArray) => !(sLt x k))).2)) with h5 | h5
 ·
  rw [h5]
  refine WL.pass rfl ?_
  refine WL.pass rfl ?_
  refine WL.pass rfl ?_
  refine WL.pass rfl ?_
  refine wS (vB true) rfl (Step.pick (t := true) rfl rfl) (WL.nil ?_)
  refine W.cond (t := true) rfl (fun _ => ?_) (fun h => by cases h)
  refine wR (wA (vI 0) (wA (vB false) (WL.nil ?_)))
  refine W.ret ?_
  refine ⟨.inl rfl, (Value.tuple #[(vI 0), (vB false)]), ?_, ?_⟩
  · exact ⟨rfl, (Res.r2 (show RV _ _ _ (.tmp 4) (vI 0) from by exact rfl) (show RV _ _ _ (.tmp 5) (vB false) from by exact rfl))⟩
  refine ⟨?_, M.close [1] rfl (by decide) trivial⟩
  unfold getT
  simp only [sEq_dec] at *
  simp_all
 ·
  rw [h5]
  refine wP (vP b2) (wS (vS (((lookT fu d l rt (fun (x : ByteArray) => !(sLt x k))).1).key)) rfl (Step.load1 Try.sc9 rfl ((M.cell 0 rfl 0).trans rfl)) (wM (vS k) (wP (vB (!((((lookT fu d l rt (fun (x : ByteArray) => !(sLt x k))).1).key).toList == k.toList))) (wS (vB (!((((lookT fu d l rt (fun (x : ByteArray) => !(sLt x k))).1).key).toList == k.toList))) rfl (Step.pick (t := false) rfl rfl) (WL.nil ?_)))))
  refine W.cond (t := !((((lookT fu d l rt (fun (x : ByteArray) => !(sLt x k))).1).key).toList == k.toList)) rfl (fun h6 => ?_) (fun h6 => ?_)
  ·
   refine wR (wA (vI 0) (wA (vB false) (WL.nil ?_)))
   refine W.ret ?_
   refine ⟨.inl rfl, (Value.tuple #[(vI 0), (vB false)]), ?_, ?_⟩
   · exact ⟨rfl, (Res.r2 (show RV _ _ _ (.tmp 4) (vI 0) from by exact rfl) (show RV _ _ _ (.tmp 5) (vB false) from by exact rfl))⟩
   refine ⟨?_, M.close [1] rfl (by decide) trivial⟩
   unfold getT
   simp only [sEq_dec] at *
   simp_all
  ·
   refine W.skip (wR (wP (Value.pointer (some ⟨b2, 1, none⟩)) (wS (vI (((lookT fu d l rt (fun (x : ByteArray) => !(sLt x k))).1).val)) rfl (Step.load1 Try.sc3 rfl ((M.cell 0 rfl 1).trans rfl)) (wA (vI (((lookT fu d l rt (fun (x : ByteArray) => !(sLt x k))).1).val)) (wA (vB true) ?_)))))
   refine WL.nil ?_
   refine W.ret ?_
   refine ⟨.inl rfl, (Value.tuple #[(vI (((lookT fu d l rt (fun (x : ByteArray) => !(sLt x k))).1).val)), (vB true)]), ?_, ?_⟩
   · exact ⟨rfl, (Res.r2 (show RV _ _ _ (.tmp 4) (vI (((lookT fu d l rt (fun (x : ByteArray) => !(sLt x k))).1).val)) from by exact rfl) (show RV _ _ _ (.tmp 5) (vB true) from by exact rfl))⟩
   refine ⟨?_, M.close [1] rfl (by decide) trivial⟩
   unfold getT
   simp only [sEq_dec] at *
   simp_all
end Go.Proofs
set_option maxRecDepth 100000
namespace Go.Proofs
open Go Tp
theorem Try.en17 : Enters Try.prog 17 := fun _ _ => by kernel_rfl
set_option maxHeartbeats 1000000 in
theorem tab_delete {G X : Nat → Prop} {w : World} (tb ab : Nat) (rt : Handle) (fu : Bool) (ln : Int) (l : List RPlace) (S : Nat → Prop) (k : ByteArray)  (hA : SmallA l) (d : Nat) (hLk : fu = true → lookOk d l rt) (hDel : (getT fu d l rt k).2 = true → DelOk d l rt k) (hln : 0 ≤ ln ∧ ln ≤ 1000000) (M : Mem G X w [bk tb #[(vP ab), (vI rt.at_), (vI rt.turn), (vB fu), (vI ln)] 94, arenaC 143 145 S ab l] [] w) : Rets Try.prog 19 #[(vP tb), (vS k)] w fun r w' => ∃ (S' : Nat → Prop), r = (Value.tuple #[(vI ((getT fu d l rt k).1)), (vB ((getT fu d l rt k).2))]) ∧ Mem G X w [bk tb #[(vP ab), (vI (((delR d l rt fu ln k).1.2).at_)), (vI (((delR d l rt fu ln k).1.2).turn)), (vB ((delR d l rt fu ln k).2.1)), (vI ((delR d l rt fu ln k).2.2))] 94, arenaC 143 145 S' ab ((delR d l rt fu ln k).1.1)] [] w' := by
 refine Rets.enter 71 _ Try.func19 rfl Try.ntmps19 Try.results19 (by simp) ?_
 refine wR (wA (vI 0) (wA (vB false) (WL.nil (wR (wM (vP tb) ?_)))))
 refine wM (vS k) ?_
 have fq := M.frm [arenaC 143 145 S ab l] [bk tb #[(vP ab), (vI rt.at_), (vI rt.turn), (vB fu), (vI ln)] 94] [1, 0] rfl
 refine WL.callX rfl (tr_Get tb ab rt fu ln l S k (by assumption) d (by assumption) (M.eF fq ⟨(M.cF fq 0 rfl), trivial⟩)) (CallsF.func Try.en17 rfl) ?_
 rintro _ w1 ⟨rfl, m⟩
 replace M := M.lF fq m
 clear m
 refine wM (Value.tuple #[(vI ((getT fu d l rt k).1)), (vB ((getT fu d l rt k).2))]) (wP (vI ((getT fu d l rt k).1)) (wP (vB ((getT fu d l rt k).2)) (wA (vI ((getT fu d l rt k).1)) (wA (vB ((getT fu d l rt k).2)) (WL.nil ?_)))))
 refine W.seq' (wR (wM (vB ((getT fu d l rt k).2)) (wP (vB (!((getT fu d l rt k).2))) (WL.nil ?_))))
 refine W.cond (t := !((getT fu d l rt k).2)) rfl (fun h2 => ?_) (fun h2 => ?_)
 ·
  have hth_ : (getT fu d l rt k).2 = false := by simpa using h2
  refine wR (wA (vI 0) (wA (vB false) (WL.nil ?_)))
  refine W.ret ?_
  refine ⟨.inl rfl, (Value.tuple #[(vI 0), (vB false)]), ?_, ?_⟩
  · exact ⟨rfl, (Res.r2 (show RV _ _ _ (.tmp 4) (vI 0) from by exact rfl) (show RV _ _ _ (.tmp 5) (vB false) from by exact rfl))⟩
  have hg0_ : (getT fu d l rt k).1 = 0 := getT_no hth_
  have e3 : (bk tb #[(vP ab), (vI (((delR d l rt fu ln k).1.2).at_)), (vI (((delR d l rt fu ln k).1.2).turn)), (vB ((delR d l rt fu ln k).2.1)), (vI ((delR d l rt fu ln k).2.2))] 94 : Chunk) = (bk tb #[(vP ab), (vI rt.at_), (vI rt.turn), (vB fu), (vI ln)] 94 : Chunk) := by
   rw [delR_no hth_]
  replace M := M.rechunk 1 (c' := bk tb #[(vP ab), (vI (((delR d l rt fu ln k).1.2).at_)), (vI (((delR d l rt fu ln k).1.2).turn)), (vB ((delR d l rt fu ln k).2.1)), (vI ((delR d l rt fu ln k).2.2))] 94) rfl e3.symm
  have e4 : (delR d l rt fu ln k).1.1 = l := by
   rw [delR_no hth_]
  replace M := M.rechunk 0 (c' := arenaC 143 145 S ab ((delR d l rt fu ln k).1.1)) rfl (congrArg (fun z => arenaC 143 145 S ab z) e4.symm)
  refine ⟨S, ?_, M.close [1, 0] rfl (by decide) trivial⟩
  simp [hg0_, hth_]
 ·
  have hth_ : (getT fu d l rt k).2 = true := by simpa using h2
  obtain ⟨hO, hS, hKd⟩ := hDel hth_
  refine W.skip (wR (wM (vP tb) (wM (vP tb) (wP (vP tb) (wP (Value.pointer (some ⟨tb, 1, none⟩)) ?_)))))
  refine wS (Value.agg #[(vI rt.at_), (vI rt.turn)]) rfl (Step.loadN Try.ag92 rfl (M.blk 1 rfl) (Nat.le_of_ble_eq_true rfl) rfl) (wM (vS k) ?_)
  have fq := M.frm [arenaC 143 145 S ab l] [bk tb #[(vP ab), (vI rt.at_), (vI rt.turn), (vB fu), (vI ln)] 94] [0, 1] rfl
  refine WL.callX rfl (tr_remove d tb ab rt fu ln l S rt k (by assumption) (M.eF fq ⟨(M.cF fq 0 rfl), trivial⟩)) (CallsF.func Try.en48 rfl) ?_
  rintro _ w6 ⟨S5, rfl, m⟩
  replace M := M.lF fq m
  clear m
  refine WL.nil (W.seq' ?_)
  obtain ⟨l1_, hl1_⟩ : ∃ q, (remF d l rt k) = q := ⟨_, rfl⟩
  rw [hl1_] at hS hKd
  replace M := M.rechunk 0 (c' := arenaC 143 145 S5 ab l1_) rfl (by rw [hl1_])
  refine W.region rfl (wM (vP tb) (wP (vP tb) (wP (Value.pointer (some ⟨tb, 4, none⟩)) (wS (vI ln) rfl (Step.load1 Try.sc3 rfl ((M.cell 1 rfl 4).trans rfl)) (wS (vI ((ln : Int) - 1)) rfl (Step.sub rfl rfl (wrap_i64 (by omega))) ?_)))))
  refine wP (vP tb) (wP (Value.pointer (some ⟨tb, 4, none⟩)) ?_)
  refine WL.store (v := (vI ((ln : Int) - 1))) (cs := [(vI ((ln : Int) - 1))]) (c' := #[(vP ab), (vI rt.at_), (vI rt.turn), (vB fu), (vI ((ln : Int) - 1))]) M 1 rfl rfl Try.el3.sized rfl rfl rfl rfl (Nat.le_of_ble_eq_true rfl) (cel_cons rfl cel_nil) rfl rfl (fun w7 M => ?_)
  refine WL.nil (W.seq' (wR (wM (vP tb) (wM (vP tb) (wP (vP tb) ?_)))))
  refine wP (Value.pointer (some ⟨tb, 1, none⟩)) (wS (Value.agg #[(vI rt.at_), (vI rt.turn)]) rfl (Step.loadN Try.ag92 rfl (M.blk 1 rfl) (Nat.le_of_ble_eq_true rfl) rfl) ?_)
  obtain ⟨n, hn⟩ : ∃ n, (rget l1_ rt).1 = n := ⟨_, rfl⟩
  rw [hn] at hKd
  have fq := M.frm [arenaC 143 145 S5 ab l1_] [bk tb #[(vP ab), (vI rt.at_), (vI rt.turn), (vB fu), (vI ((ln : Int) - 1))] 94] [0, 1] rfl
  refine WL.callX rfl (tr_node tb ab rt fu ((ln : Int) - 1) l1_ S5 rt (by assumption) n hn (M.eF fq ⟨(M.cF fq 0 rfl), trivial⟩)) (CallsF.func Try.en49 rfl) ?_
  rintro _ w11 ⟨kv8, dv9, vv10, rfl, m⟩
  replace M := M.lF fq m
  clear m
  have sl12 : IsSl kv8 := SlAt.isSl (own_slAt (Mem.chunk M 1 rfl).inv)
  have hle13 := SlAt.le' (own_slAt (Mem.chunk M 1 rfl).inv)
  have sl14 : IsSl dv9 := SlAt.isSl (own_slAt (Mem.chunk M 2 rfl).inv)
  have hle15 := SlAt.le' (own_slAt (Mem.chunk M 2 rfl).inv)
  have sl16 : IsSl vv10 := SlAt.isSl (own_slAt (Mem.chunk M 3 rfl).inv)
  have hle17 := SlAt.le' (own_slAt (Mem.chunk M 3 rfl).inv)
  refine WL.alloc (c := #[(vB false), vZ, vZ, vZ]) M rfl Try.el99.zero rfl (fun b18 w19 hb18 M => ?_)
  refine WL.store (v := (Value.agg #[(vB n.leaf), kv8, dv9, vv10])) (cs := [(vB n.leaf), kv8, dv9, vv10]) (c' := #[(vB n.leaf), kv8, dv9, vv10]) M 0 rfl rfl Try.el99.sized rfl rfl rfl rfl (Nat.le_of_ble_eq_true rfl) (cel_cons rfl (cel_cons (IsSl.cel sl12) (cel_cons (IsSl.cel sl14) (cel_cons (IsSl.cel sl16) cel_nil)))) rfl rfl (fun w20 M => ?_)
  refine WL.nil (wR (wP (Value.pointer (some ⟨b18, 1, none⟩)) (wS kv8 rfl (Step.load1 Try.sc22 rfl ((M.cell 0 rfl 1).trans rfl)) (wS (vI ↑n.keys.length) rfl (Step.lenSl Try.un22 rfl (own_slAt (M.chunk 2 rfl).inv)) (wP (vB ((↑n.keys.length : Int) == (0 : Int))) ?_)))))
  refine WL.nil ?_
  refine W.cond (t := (↑n.keys.length : Int) == (0 : Int)) rfl (fun h21 => ?_) (fun h21 => ?_)
  ·
   have h21p : (↑n.keys.length : Int) = (0 : Int) := by simpa using h21
   refine wR (wM (vP tb) (wP (vP tb) (wP (Value.pointer (some ⟨tb, 1, none⟩)) (wS (Value.agg #[(vI rt.at_), (vI rt.turn)]) rfl (Step.loadN Try.ag92 rfl (M.blk 5 rfl) (Nat.le_of_ble_eq_true rfl) rfl) ?_))))
   refine WL.alloc (c := #[(vI 0), (vI 0)]) M rfl Try.el92.zero rfl (fun b22 w23 hb22 M => ?_)
   refine WL.store (v := (Value.agg #[(vI rt.at_), (vI rt.turn)])) (cs := [(vI rt.at_), (vI rt.turn)]) (c' := #[(vI rt.at_), (vI rt.turn)]) M 0 rfl rfl Try.el92.sized rfl rfl rfl rfl (Nat.le_of_ble_eq_true rfl) (cel_cons rfl (cel_cons rfl cel_nil)) rfl rfl (fun w24 M => ?_)
   refine WL.nil (W.seq' (wR (wM (vP tb) (wP (vP b18) (wS (vB n.leaf) rfl (Step.load1 Try.sc4 rfl ((M.cell 1 rfl 0).trans rfl)) ?_)))))
   refine wP (vB !n.leaf) (wP (vP tb) (wP (Value.pointer (some ⟨tb, 3, none⟩)) ?_))
   refine WL.store (v := (vB !n.leaf)) (cs := [(vB !n.leaf)]) (c' := #[(vP ab), (vI rt.at_), (vI rt.turn), (vB !n.leaf), (vI ((ln : Int) - 1))]) M 6 rfl rfl Try.el4.sized rfl rfl rfl rfl (Nat.le_of_ble_eq_true rfl) (cel_cons rfl cel_nil) rfl rfl (fun w25 M => ?_)
   refine WL.nil (wR (wM (vP tb) (wP (vP tb) (wP (Value.pointer (some ⟨tb, 3, none⟩)) (wS (vB !n.leaf) rfl (Step.load1 Try.sc4 rfl ((M.cell 6 rfl 3).trans rfl)) ?_)))))
   refine WL.nil ?_
   refine W.cond (t := !n.leaf) rfl (fun h26 => ?_) (fun h26 => ?_)
   ·
    have hlf_ : n.leaf = false := by simpa using h26
    have hk1_ := hKd hlf_
    refine W.region rfl (wM (vP tb) (wP (Value.pointer (some ⟨b18, 2, none⟩)) (wS dv9 rfl (Step.load1 Try.sc96 rfl ((M.cell 1 rfl 2).trans rfl)) ?_)))
    obtain ⟨cap28, hb27⟩ := SlAt.base (own_slAt (M.chunk 4 rfl).inv) (by omega)
    obtain ⟨x29, hx29⟩ := elem_of_lt (xs := n.kids) (i := 0) (by omega)
    have hgd_ : n.kids.getD 0 hdZero = x29 := by rw [List.getD_eq_getElem?_getD, hx29]; rfl
    refine wS (vQ dv9 0 2) rfl (sX 0 Try.un96 Try.el92 rfl rfl hb27 rfl) (wS (Value.agg #[(vI x29.at_), (vI x29.turn)]) rfl (Step.loadEN (k := 0) (cs' := [(vI x29.at_), (vI x29.turn)]) Try.ag92 (flat_ec (own_slAt (M.chunk 4 rfl).inv) hx29 handleE_len) (by decide) rfl rfl rfl) (wP (vP tb) (wP (Value.pointer (some ⟨tb, 1, none⟩)) ?_)))
    refine WL.store (v := (Value.agg #[(vI x29.at_), (vI x29.turn)])) (cs := [(vI x29.at_), (vI x29.turn)]) (c' := #[(vP ab), (vI x29.at_), (vI x29.turn), (vB !n.leaf), (vI ((ln : Int) - 1))]) M 6 rfl rfl Try.el92.sized rfl rfl rfl rfl (Nat.le_of_ble_eq_true rfl) (cel_cons rfl (cel_cons rfl cel_nil)) rfl rfl (fun w30 M => ?_)
    refine WL.nil ?_
    replace M := M.loseI 5
    replace M := M.loseI 4
    replace M := M.loseI 3
    replace M := M.loseI 1
    refine W.drawn M [0, 1, 2, 3, 4, 5, 6] [6] [5] _ _ (sY (sN (sY sE))) (fun _ h => h) Try.mixed (by kernel_rfl) ?_
    refine tP (vP tb) rfl (fun w => (Step.move rfl)) ?_
    refine tP (vP tb) rfl (fun w => sP) ?_
    refine tP (vP tb) rfl (fun w => sP) ?_
    refine tR (vP ab) rfl (fun A w M => (Step.load1 Try.sc90 rfl ((M.cell 2 rfl 0).trans rfl))) ?_
    refine tR (Value.agg #[(vI rt.at_), (vI rt.turn)]) rfl (fun A w M => (Step.loadN Try.ag92 rfl (M.blk 1 rfl) (Nat.le_of_ble_eq_true rfl) rfl)) ?_
    refine TW.new (obj := .cells #[(vI rt.at_), (vI rt.turn)] 92) (fun b => .slice (some ⟨b, 0, none⟩) 1 1) rfl (by decide) (by decide) rfl (fun w => Step.make (by kernel_rfl)) (fun b37 => ?_)
    let Q : List Chunk := [bk b37 #[(vI rt.at_), (vI rt.turn)] 92, bk b22 #[(vI rt.at_), (vI rt.turn)] 92, bk tb #[(vP ab), (vI x29.at_), (vI x29.turn), (vB !n.leaf), (vI ((ln : Int) - 1))] 94]
    refine TW.callX (ι := (Nat → Prop)) (fun jx v_ => v_ = (vI ((rfree l1_ ([rt] : List Handle)).2))) (fun jx => arenaC 143 145 jx ab ((rfree l1_ ([rt] : List Handle)).1) :: Q) (fun jx => []) rfl (by decide) rfl (fun jx => (sN (sN (sY (sY sE))))) (fun jx r h => h) (fun A w M => have fq := M.frm [arenaC 143 145 S5 ab l1_] (fl A :: Q) [3, 0, 1, 2, 4] rfl; Rets.mono (ar_free ab l1_ S5 (Value.slice (some ⟨b37, 0, none⟩) 1 1) ([rt] : List Handle) (by assumption) (M.eF fq ⟨((M.cF fq 1 rfl).imp fun _ h => SlAt.of_blk (n := 1) (size := 2) h rfl (by decide)), trivial⟩)) (fun v_ w_ ⟨S38, e_, m⟩ => ⟨S38, e_, (M.lF fq m).sel [1, 0, 2, 3, 4] rfl (by decide), fun b hb => M.kF fq m b hb⟩)) (fun w => CallsF.func Try.en50 rfl) (fun S38 v hp hin => ?_)
    replace hp := hp.symm; subst hp
    obtain ⟨_, _, hin⟩ := hin
    clear hin
    refine TW.done (fun w39 M => ?_)
    refine wR (wM (vI ((getT fu d l rt k).1)) (wA (vI ((getT fu d l rt k).1)) (wA (vB true) (WL.nil ?_))))
    refine W.ret ?_
    refine ⟨.inl rfl, (Value.tuple #[(vI ((getT fu d l rt k).1)), (vB true)]), ?_, ?_⟩
    · exact ⟨rfl, (Res.r2 (show RV _ _ _ (.tmp 4) (vI ((getT fu d l rt k).1)) from by exact rfl) (show RV _ _ _ (.tmp 5) (vB true) from by exact rfl))⟩
    have e40 : (bk tb #[(vP ab), (vI (((delR d l rt fu ln k).1.2).at_)), (vI (((delR d l rt fu ln k).1.2).turn)), (vB ((delR d l rt fu ln k).2.1)), (vI ((delR d l rt fu ln k).2.2))] 94 : Chunk) = (bk tb #[(vP ab), (vI x29.at_), (vI x29.turn), (vB !n.leaf), (vI ((ln : Int) - 1))] 94 : Chunk) := by
     rw [delR_kid hth_ hl1_ hn (by omega) hlf_ hgd_]; simp [hlf_]
    replace M := M.rechunk 3 (c' := bk tb #[(vP ab), (vI (((delR d l rt fu ln k).1.2).at_)), (vI (((delR d l rt fu ln k).1.2).turn)), (vB ((delR d l rt fu ln k).2.1)), (vI ((delR d l rt fu ln k).2.2))] 94) rfl e40.symm
    have e41 : (delR d l rt fu ln k).1.1 = (rfree l1_ ([rt] : List Handle)).1 := by
     rw [delR_kid hth_ hl1_ hn (by omega) hlf_ hgd_]
    replace M := M.rechunk 0 (c' := arenaC 143 145 S38 ab ((delR d l rt fu ln k).1.1)) rfl (congrArg (fun z => arenaC 143 145 S38 ab z) e41.symm)
    refine ⟨S38, ?_, M.close [3, 0] rfl (by decide) trivial⟩
    rw [hth_]
   ·
    have hlf_ : n.leaf = true := by simpa using h26
    refine W.skip ?_
    replace M := M.loseI 5
    replace M := M.loseI 4
    replace M := M.loseI 3
    replace M := M.loseI 1
    refine W.drawn M [0, 1, 2, 3, 4, 5, 6] [6] [5] _ _ (sY (sN (sY sE))) (fun _ h => h) Try.mixed (by kernel_rfl) ?_
    refine tP (vP tb) rfl (fun w => (Step.move rfl)) ?_
    refine tP (vP tb) rfl (fun w => sP) ?_
    refine tP (vP tb) rfl (fun w => sP) ?_
    refine tR (vP ab) rfl (fun A w M => (Step.load1 Try.sc90 rfl ((M.cell 2 rfl 0).trans rfl))) ?_
    refine tR (Value.agg #[(vI rt.at_), (vI rt.turn)]) rfl (fun A w M => (Step.loadN Try.ag92 rfl (M.blk 1 rfl) (Nat.le_of_ble_eq_true rfl) rfl)) ?_
    refine TW.new (obj := .cells #[(vI rt.at_), (vI rt.turn)] 92) (fun b => .slice (some ⟨b, 0, none⟩) 1 1) rfl (by decide) (by decide) rfl (fun w => Step.make (by kernel_rfl)) (fun b48 => ?_)
    let Q : List Chunk := [bk b48 #[(vI rt.at_), (vI rt.turn)] 92, bk b22 #[(vI rt.at_), (vI rt.turn)] 92, bk tb #[(vP ab), (vI rt.at_), (vI rt.turn), (vB !n.leaf), (vI ((ln : Int) - 1))] 94]
    refine TW.callX (ι := (Nat → Prop)) (fun jx v_ => v_ = (vI ((rfree l1_ ([rt] : List Handle)).2))) (fun jx => arenaC 143 145 jx ab ((rfree l1_ ([rt] : List Handle)).1) :: Q) (fun jx => []) rfl (by decide) rfl (fun jx => (sN (sN (sY (sY sE))))) (fun jx r h => h) (fun A w M => have fq := M.frm [arenaC 143 145 S5 ab l1_] (fl A :: Q) [3, 0, 1, 2, 4] rfl; Rets.mono (ar_free ab l1_ S5 (Value.slice (some ⟨b48, 0, none⟩) 1 1) ([rt] : List Handle) (by assumption) (M.eF fq ⟨((M.cF fq 1 rfl).imp fun _ h => SlAt.of_blk (n := 1) (size := 2) h rfl (by decide)), trivial⟩)) (fun v_ w_ ⟨S49, e_, m⟩ => ⟨S49, e_, (M.lF fq m).sel [1, 0, 2, 3, 4] rfl (by decide), fun b hb => M.kF fq m b hb⟩)) (fun w => CallsF.func Try.en50 rfl) (fun S49 v hp hin => ?_)
    replace hp := hp.symm; subst hp
    obtain ⟨_, _, hin⟩ := hin
    clear hin
    refine TW.done (fun w50 M => ?_)
    refine wR (wM (vI ((getT fu d l rt k).1)) (wA (vI ((getT fu d l rt k).1)) (wA (vB true) (WL.nil ?_))))
    refine W.ret ?_
    refine ⟨.inl rfl, (Value.tuple #[(vI ((getT fu d l rt k).1)), (vB true)]), ?_, ?_⟩
    · exact ⟨rfl, (Res.r2 (show RV _ _ _ (.tmp 4) (vI ((getT fu d l rt k).1)) from by exact rfl) (show RV _ _ _ (.tmp 5) (vB true) from by exact rfl))⟩
    have e51 : (bk tb #[(vP ab), (vI (((delR d l rt fu ln k).1.2).at_)), (vI (((delR d l rt fu ln k).1.2).turn)), (vB ((delR d l rt fu ln k).2.1)), (vI ((delR d l rt fu ln k).2.2))] 94 : Chunk) = (bk tb #[(vP ab), (vI rt.at_), (vI rt.turn), (vB !n.leaf), (vI ((ln : Int) - 1))] 94 : Chunk) := by
     rw [delR_leaf hth_ hl1_ hn (by omega) hlf_]; simp [hlf_]
    replace M := M.rechunk 3 (c' := bk tb #[(vP ab), (vI (((delR d l rt fu ln k).1.2).at_)), (vI (((delR d l rt fu ln k).1.2).turn)), (vB ((delR d l rt fu ln k).2.1)), (vI ((delR d l rt fu ln k).2.2))] 94) rfl e51.symm
    have e52 : (delR d l rt fu ln k).1.1 = (rfree l1_ ([rt] : List Handle)).1 := by
     rw [delR_leaf hth_ hl1_ hn (by omega) hlf_]
    replace M := M.rechunk 0 (c' := arenaC 143 145 S49 ab ((delR d l rt fu ln k).1.1)) rfl (congrArg (fun z => arenaC 143 145 S49 ab z) e52.symm)
    refine ⟨S49, ?_, M.close [3, 0] rfl (by decide) trivial⟩
    rw [hth_]
  ·
   have h21p : ¬ (↑n.keys.length : Int) = (0 : Int) := by simpa using h21
   refine W.skip (wR (wM (vI ((getT fu d l rt k).1)) (wA (vI ((getT fu d l rt k).1)) (wA (vB true) (WL.nil ?_)))))
   refine W.ret ?_
   refine ⟨.inl rfl, (Value.tuple #[(vI ((getT fu d l rt k).1)), (vB true)]), ?_, ?_⟩
   · exact ⟨rfl, (Res.r2 (show RV _ _ _ (.tmp 4) (vI ((getT fu d l rt k).1)) from by exact rfl) (show RV _ _ _ (.tmp 5) (vB true) from by exact rfl))⟩
   have e53 : (bk tb #[(vP ab), (vI (((delR d l rt fu ln k).1.2).at_)), (vI (((delR d l rt fu ln k).1.2).turn)), (vB ((delR d l rt fu ln k).2.1)), (vI ((delR d l rt fu ln k).2.2))] 94 : Chunk) = (bk tb #[(vP ab), (vI rt.at_), (vI rt.turn), (vB fu), (vI ((ln : Int) - 1))] 94 : Chunk) := by
    rw [delR_keep hth_ hl1_ hn (by omega)]
   replace M := M.rechunk 5 (c' := bk tb #[(vP ab), (vI (((delR d l rt fu ln k).1.2).at_)), (vI (((delR d l rt fu ln k).1.2).turn)), (vB ((delR d l rt fu ln k).2.1)), (vI ((delR d l rt fu ln k).2.2))] 94) rfl e53.symm
   have e54 : (delR d l rt fu ln k).1.1 = l1_ := by
    rw [delR_keep hth_ hl1_ hn (by omega)]
   replace M := M.rechunk 1 (c' := arenaC 143 145 S5 ab ((delR d l rt fu ln k).1.1)) rfl (congrArg (fun z => arenaC 143 145 S5 ab z) e54.symm)
   refine ⟨S5, ?_, M.close [5, 1] rfl (by decide) trivial⟩
   rw [hth_]
end Go.Proofs
set_option maxRecDepth 100000
namespace Go.Proofs
open Go Tp
theorem Try.en101 : Enters Try.prog 101 := fun _ _ => by kernel_rfl
theorem tr_below {ι : Type} (C : Nat → ι → Chunk) (y : Value) (xs : List THit) (rf : World → Prop) (hy : ∀ (k : Nat) (i : ι) (x : THit) (w : World), xs[k]? = some x → Mem (avoid [C k i]) (Foots [C k i]) w [C k i] [rf] w → RetsV Try.prog y #[.agg #[.string x.key, .int .i64 x.val]] w fun r w' => (r = .bool true ∧ ∃ i', Mem (avoid [C k i]) (Foots [C k i]) w [C (k + 1) i'] [] w')) : ∀ (d : Nat) {G X : Nat → Prop} {w : World} (tb ab : Nat) (r : Handle) (fu : Bool) (ln : Int) (l : List RPlace) (S : Nat → Prop) (h : Handle) (k0 : Nat) (q0_ : ι)  (hA : SmallA l) (hO : lookOk d l h) (hAt : atL xs k0 (allT d l h)) (M : Mem G X w [arenaC 143 145 S ab l, C k0 q0_] [bF tb #[(vP ab), (vI r.at_), (vI r.turn), (vB fu), (vI ln)] 94, rf] w), Rets Try.prog 101 #[(vP tb), (Value.agg #[(vI h.at_), (vI h.turn)]), y] w fun r w' => ∃ (q' : ι), r = (vB true) ∧ Mem G X w [arenaC 143 145 S ab l, C (k0 + (allT d l h).length) q'] [] w' := by
 intro d
 induction d using Nat.strongRecOn
 rename_i d ih
 intro G X w tb ab r fu ln l S h k0 q0_ hA hO hAt M
 refine Rets.enter 55 _ Try.func101 rfl Try.ntmps101 Try.results101 (by simp) ?_
 obtain ⟨n, hn⟩ : ∃ n, (rget l h).1 = n := ⟨_, rfl⟩
 obtain ⟨⟨ht1, ht2, ht3⟩, hvl⟩ := lookOk_node hO hn
 have hhl := hitsN_len hvl
 have hAP := hAt
 rw [allT_part hO hn] at hAP
 refine wR ?_
 refine WL.box (v := (Value.agg #[(vI h.at_), (vI h.turn)])) (c := #[(vI h.at_), (vI h.turn)]) M rfl rfl rfl (fun b1 w2 hb1 M => ?_)
 refine wA (vB false) (WL.nil (wR (wM (vP tb) (wS (Value.agg #[(vI h.at_), (vI h.turn)]) rfl (Step.loadN Try.ag92 rfl (M.blk 0 rfl) (Nat.le_of_ble_eq_true rfl) rfl) ?_))))
 have fq := M.frm [arenaC 143 145 S ab l] [bk b1 #[(vI h.at_), (vI h.turn)] 92, C k0 q0_] [1, 0, 2] rfl
 refine WL.callX rfl (tr_node tb ab r fu ln l S h (by assumption) n hn (M.eF fq ⟨(M.rF fq 0 rfl), trivial⟩)) (CallsF.func Try.en49 rfl) ?_
 rintro _ w6 ⟨kv3, dv4, vv5, rfl, m⟩
 replace M := M.lF fq m
 clear m
 have sl7 : IsSl kv3 := SlAt.isSl (own_slAt (Mem.chunk M 1 rfl).inv)
 have hle8 := SlAt.le' (own_slAt (Mem.chunk M 1 rfl).inv)
 have sl9 : IsSl dv4 := SlAt.isSl (own_slAt (Mem.chunk M 2 rfl).inv)
 have hle10 := SlAt.le' (own_slAt (Mem.chunk M 2 rfl).inv)
 have sl11 : IsSl vv5 := SlAt.isSl (own_slAt (Mem.chunk M 3 rfl).inv)
 have hle12 := SlAt.le' (own_slAt (Mem.chunk M 3 rfl).inv)
 refine WL.alloc (c := #[(vB false), vZ, vZ, vZ]) M rfl Try.el99.zero rfl (fun b13 w14 hb13 M => ?_)
 refine WL.store (v := (Value.agg #[(vB n.leaf), kv3, dv4, vv5])) (cs := [(vB n.leaf), kv3, dv4, vv5]) (c' := #[(vB n.leaf), kv3, dv4, vv5]) M 0 rfl rfl Try.el99.sized rfl rfl rfl rfl (Nat.le_of_ble_eq_true rfl) (cel_cons rfl (cel_cons (IsSl.cel sl7) (cel_cons (IsSl.cel sl9) (cel_cons (IsSl.cel sl11) cel_nil)))) rfl rfl (fun w15 M => ?_)
 refine WL.nil (W.seq' (wR (wP (Value.pointer (some ⟨b13, 1, none⟩)) (wS kv3 rfl (Step.load1 Try.sc22 rfl ((M.cell 0 rfl 1).trans rfl)) (wS (vI ↑n.keys.length) rfl (Step.lenSl Try.un22 rfl (own_slAt (M.chunk 2 rfl).inv)) ?_)))))
 refine wS (vI (↑n.keys.length + 1)) rfl (Step.add rfl rfl (wrap_i64 (by omega))) (wM (vI 0) (WL.nil (W.block ?_)))
 replace M := M.loseI 5
 replace M := M.rechunk 5 (c' := C (k0 + (partW (kidsL d l n) (hitsN n) 0).length) q0_) rfl (congrArg (fun z => C z q0_) (rfl))
 replace M := M.sel (L' := [C (k0 + (partW (kidsL d l n) (hitsN n) 0).length) q0_, bk b13 #[(vB n.leaf), kv3, dv4, vv5] 99, arenaC 143 145 S ab l, oS kv3 n.keys, oH dv4 n.kids, oI vv5 n.vals]) [5, 0, 1, 2, 3, 4] rfl (by decide)
 refine W.loop (fun kk ρ w' => ∃ (i_ : Nat) (q_ : ι), ((i_ ≤ n.keys.length + 1) ∧ kk = n.keys.length + 1 - i_) ∧ ρ.has [(0, (vP tb)), (2, y), (7, (vP b13)), (15, (vI (↑n.keys.length + 1))), (16, (vI ↑i_))] ∧ Mem G X w [C (k0 + (partW (kidsL d l n) (hitsN n) i_).length) q_, bk b13 #[(vB n.leaf), kv3, dv4, vv5] 99, arenaC 143 145 S ab l, oS kv3 n.keys, oH dv4 n.kids, oI vv5 n.vals] [bF tb #[(vP ab), (vI r.at_), (vI r.turn), (vB fu), (vI ln)] 94, rf]  w') _ ⟨0, q0_, ⟨(Nat.zero_le _), rfl⟩, ⟨rfl, rfl, rfl, rfl, rfl, rfl, rfl⟩, M⟩ ?_
 rintro _ ρ17 w16 ⟨i_, q_, ⟨hi18, rfl⟩, hρ, M⟩
 obtain ⟨ρ17, rfl⟩ := hρ.know
 clear hρ
 refine wR (wP (vB (decide ((↑i_ : Int) < (↑n.keys.length + 1 : Int)))) (WL.nil (W.seq' ?_)))
 refine W.cond (t := decide ((↑i_ : Int) < (↑n.keys.length + 1 : Int))) rfl (fun h19 => ?_) (fun h19 => ?_)
 ·
  have h19p := of_decide_eq_true h19
  refine W.skip (W.seq' (W.block (wR (wM (vI ↑i_) (wA (vI ↑i_) ?_)))))
  refine WL.nil (W.seq' (wR (wP (vP b13) (wS (vB n.leaf) rfl (Step.load1 Try.sc4 rfl ((M.cell 1 rfl 0).trans rfl)) (wP (vB !n.leaf) ?_)))))
  refine wM (vB !n.leaf) ?_
  rcases Bool.eq_false_or_eq_true (!n.leaf) with h20 | h20
  ·
   have hlf_ : n.leaf = false := by simpa using h20
   obtain ⟨e, he_, hkl_, hLk2_⟩ := lookOk_kid hO hn hlf_
   rw [h20]
   refine wM (vP tb) (wP (Value.pointer (some ⟨b13, 2, none⟩)) (wS dv4 rfl (Step.load1 Try.sc96 rfl ((M.cell 1 rfl 2).trans rfl)) (wM (vI ↑i_) ?_)))
   obtain ⟨cap22, hb21⟩ := SlAt.base (own_slAt (M.chunk 4 rfl).inv) (by omega)
   obtain ⟨x23, hx23⟩ := elem_of_lt (xs := n.kids) (i := i_) (by omega)
   refine wS (vQ dv4 i_ 2) rfl (sX i_ Try.un96 Try.el92 rfl rfl hb21) (wS (Value.agg #[(vI x23.at_), (vI x23.turn)]) rfl (Step.loadEN (k := 0) (cs' := [(vI x23.at_), (vI x23.turn)]) Try.ag92 (flat_ec (own_slAt (M.chunk 4 rfl).inv) hx23 handleE_len) (by decide) rfl rfl rfl) (wM y ?_))
   have fq := M.frm [arenaC 143 145 S ab l, C (k0 + (partW (kidsL d l n) (hitsN n) i_).length) q_] [bk b13 #[(vB n.leaf), kv3, dv4, vv5] 99, oS kv3 n.keys, oH dv4 n.kids, oI vv5 n.vals] [2, 0, 1, 3, 4, 5] rfl
   refine WL.callX rfl (ih e (by omega) tb ab r fu ln l S x23 (k0 + (partW (kidsL d l n) (hitsN n) i_).length) q_ (by assumption) (hLk2_ _ (List.mem_of_getElem? hx23)) (below_kid hAP (by omega) (kidsL_kid (l := l) he_ hlf_ hx23)) (M.eF fq ⟨(M.rF fq 0 rfl), (M.rF fq 1 rfl), trivial⟩)) (CallsF.func Try.en101 rfl) ?_
   rintro _ w25 ⟨q24, rfl, m⟩
   replace M := M.lF fq m
   clear m
   refine wP (vB false) (wS (vB false) rfl (Step.pick (t := true) rfl rfl) (WL.nil ?_))
   refine W.cond (t := false) rfl (fun h => by cases h) (fun _ => ?_)
   refine W.skip (W.seq' ?_)
   rcases Bool.eq_false_or_eq_true (decide ((↑i_ : Int) < (↑n.keys.length : Int))) with h26 | h26
   ·
    have h26p := of_decide_eq_true h26
    obtain ⟨cap28, hb27⟩ := SlAt.base (own_slAt (M.chunk 3 rfl).inv) (by omega)
    obtain ⟨x29, hx29⟩ := elem_of_lt (xs := n.keys) (i := i_) (by omega)
    obtain ⟨cap31, hb30⟩ := SlAt.base (own_slAt (M.chunk 5 rfl).inv) (by omega)
    obtain ⟨x32, hx32⟩ := elem_of_lt (xs := n.vals) (i := i_) (by omega)
    refine W.drawn M [0, 1, 2, 3, 4, 5, 6, 7, 8, 9, 10, 11, 12, 13, 14, 15, 16, 17, 18, 19, 20] [18] [] _ _ (sY (sN (sY (sY (sY (sY sE)))))) (fun _ h => h) Try.mixed (by kernel_rfl) ?_
    refine tP (vI ↑i_) rfl (fun w => (Step.move rfl)) ?_
    refine tP (Value.pointer (some ⟨b13, 1, none⟩)) rfl (fun w => sP) ?_
    refine tR kv3 rfl (fun A w M => (Step.load1 Try.sc22 rfl ((M.cell 2 rfl 1).trans rfl))) ?_
    refine tR (vI ↑n.keys.length) rfl (fun A w M => (Step.lenSl Try.un22 rfl (own_slAt (M.chunk 3 rfl).inv))) ?_
    refine tP (vB true) rfl (fun w => (Step.cast (congrArg Value.bool h26) sP)) ?_
    refine tP (vB true) rfl (fun w => (Step.move rfl)) ?_
    refine tP y rfl (fun w => (Step.move rfl)) ?_
    refine tP (Value.pointer (some ⟨b13, 1, none⟩)) rfl (fun w => sP) ?_
    refine tR kv3 rfl (fun A w M => (Step.load1 Try.sc22 rfl ((M.cell 2 rfl 1).trans rfl))) ?_
    refine tP (vI ↑i_) rfl (fun w => (Step.move rfl)) ?_
    refine tP (vQ kv3 i_ 1) rfl (fun w => (sX i_ Try.un22 Try.el9 rfl rfl hb27)) ?_
    refine tR (vS x29) rfl (fun A w M => (Step.loadE (k := 0) Try.sc9 (flat_ec (own_slAt (M.chunk 3 rfl).inv) hx29 strE_len) (by decide) rfl rfl)) ?_
    refine tP (Value.pointer (some ⟨b13, 3, none⟩)) rfl (fun w => sP) ?_
    refine tR vv5 rfl (fun A w M => (Step.load1 Try.sc97 rfl ((M.cell 2 rfl 3).trans rfl))) ?_
    refine tP (vI ↑i_) rfl (fun w => (Step.move rfl)) ?_
    refine tP (vQ vv5 i_ 1) rfl (fun w => (sX i_ Try.un97 Try.el3 rfl rfl hb30)) ?_
    refine tR (vI x32) rfl (fun A w M => (Step.loadE (k := 0) Try.sc3 (flat_ec (own_slAt (M.chunk 5 rfl).inv) hx32 intE_len) (by decide) rfl rfl)) ?_
    refine tP (Value.agg #[(vS x29), (vI x32)]) rfl (fun w => sP) ?_
    refine TW.callV (ι := ι) (fun jx v_ => v_ = vB true) (fun jx => [arenaC 143 145 S ab l, C ((k0 + (partW (kidsL d l n) (hitsN n) i_).length) + (allT e l x23).length + 1) jx, bk b13 #[(vB n.leaf), kv3, dv4, vv5] 99, oS kv3 n.keys, oH dv4 n.kids, oI vv5 n.vals]) (fun jx => [bF tb #[(vP ab), (vI r.at_), (vI r.turn), (vB fu), (vI ln)] 94, rf]) rfl (by decide) rfl rfl rfl (fun jx => (sY (sN (sY (sY (sY (sY sE))))))) (fun jx r h => h) (fun A w M => RetsV.mono (hy ((k0 + (partW (kidsL d l n) (hitsN n) i_).length) + (allT e l x23).length) q24 (⟨x29, x32⟩ : THit) _ (below_hit hAP (by omega) (kidsL_kid (l := l) he_ hlf_ hx23) (hitsN_at hx29 hx32)) (M.enterW (C := [C ((k0 + (partW (kidsL d l n) (hitsN n) i_).length) + (allT e l x23).length) q24]) (D := [fl A, arenaC 143 145 S ab l, bk b13 #[(vB n.leaf), kv3, dv4, vv5] 99, oS kv3 n.keys, oH dv4 n.kids, oI vv5 n.vals]) [2, 0, 1, 3, 4, 5, 6] rfl (by decide) ⟨(M.wideR (C := [C ((k0 + (partW (kidsL d l n) (hitsN n) i_).length) + (allT e l x23).length) q24]) (D := [fl A, arenaC 143 145 S ab l, bk b13 #[(vB n.leaf), kv3, dv4, vv5] 99, oS kv3 n.keys, oH dv4 n.kids, oI vv5 n.vals]) [2, 0, 1, 3, 4, 5, 6] rfl 1 rfl), trivial⟩)) (fun v_ w_ ⟨e_, q33, m⟩ => ⟨q33, e_, (M.leaveW (C := [C ((k0 + (partW (kidsL d l n) (hitsN n) i_).length) + (allT e l x23).length) q24]) (D := [fl A, arenaC 143 145 S ab l, bk b13 #[(vB n.leaf), kv3, dv4, vv5] 99, oS kv3 n.keys, oH dv4 n.kids, oI vv5 n.vals]) [2, 0, 1, 3, 4, 5, 6] rfl (by decide) m).sel (L' := [fl A, arenaC 143 145 S ab l, C ((k0 + (partW (kidsL d l n) (hitsN n) i_).length) + (allT e l x23).length + 1) q33, bk b13 #[(vB n.leaf), kv3, dv4, vv5] 99, oS kv3 n.keys, oH dv4 n.kids, oI vv5 n.vals]) [1, 2, 0, 3, 4, 5, 6] rfl (by decide), fun b hb => M.keptW (C := [C ((k0 + (partW (kidsL d l n) (hitsN n) i_).length) + (allT e l x23).length) q24]) (D := [fl A, arenaC 143 145 S ab l, bk b13 #[(vB n.leaf), kv3, dv4, vv5] 99, oS kv3 n.keys, oH dv4 n.kids, oI vv5 n.vals]) [2, 0, 1, 3, 4, 5, 6] rfl (by decide) m (fl A) (List.mem_cons_self ..) b hb⟩)) (fun q33 v hp _ => ?_)
    subst hp
    refine tP (vB false) rfl (fun w => sP) ?_
    refine tP (vB false) rfl (fun w => (Step.pick (t := true) rfl rfl)) ?_
    refine TW.done (fun w34 M => ?_)
    refine W.cond (t := false) rfl (fun h => by cases h) (fun _ => ?_)
    refine W.skip (W.region rfl (wS (vI (↑i_ + 1)) rfl (Step.add rfl rfl (wrap_i64 (by omega))) (wM (vI (↑i_ + 1)) (WL.nil ?_))))
    have hs_ := len_hit (hitsN_at hx29 hx32) (kidsL_kid (l := l) he_ hlf_ hx23)
    try simp only [List.length_nil] at hs_
    replace M := M.rechunk 1 (c' := C (k0 + (partW (kidsL d l n) (hitsN n) (i_ + 1)).length) q33) rfl (congrArg (fun z => C z q33) (by omega))
    replace M := M.sel (L' := [C (k0 + (partW (kidsL d l n) (hitsN n) (i_ + 1)).length) q33, bk b13 #[(vB n.leaf), kv3, dv4, vv5] 99, arenaC 143 145 S ab l, oS kv3 n.keys, oH dv4 n.kids, oI vv5 n.vals]) [1, 2, 0, 3, 4, 5] rfl (by decide)
    exact ⟨_, (by omega), i_ + 1, q33, ⟨(by omega), rfl⟩, ⟨rfl, rfl, rfl, rfl, rfl, rfl, rfl⟩, M⟩
   ·
    have h26p := of_decide_eq_false h26
    refine W.drawn M [0, 1, 2, 3, 4, 5, 6, 7, 8, 9, 10, 11, 12, 13, 14, 15, 16, 17, 18, 19, 20] [18] [] _ _ (sY (sY (sY (sY (sY (sY sE)))))) (fun _ h => h) Try.mixed (by kernel_rfl) ?_
    refine tP (vI ↑i_) rfl (fun w => (Step.move rfl)) ?_
    refine tP (Value.pointer (some ⟨b13, 1, none⟩)) rfl (fun w => sP) ?_
    refine tR kv3 rfl (fun A w M => (Step.load1 Try.sc22 rfl ((M.cell 3 rfl 1).trans rfl))) ?_
    refine tR (vI ↑n.keys.length) rfl (fun A w M => (Step.lenSl Try.un22 rfl (own_slAt (M.chunk 4 rfl).inv))) ?_
    refine tP (vB false) rfl (fun w => (Step.cast (congrArg Value.bool h26) sP)) ?_
    refine tP (vB false) rfl (fun w => (Step.move rfl)) ?_
    refine TW.skip rfl rfl ?_
    refine TW.skip rfl rfl ?_
    refine TW.skip rfl rfl ?_
    refine TW.skip rfl rfl ?_
    refine TW.skip rfl rfl ?_
    refine TW.skip rfl rfl ?_
    refine TW.skip rfl rfl ?_
    refine TW.skip rfl rfl ?_
    refine TW.skip rfl rfl ?_
    refine TW.skip rfl rfl ?_
    refine TW.skip rfl rfl ?_
    refine TW.skip rfl rfl ?_
    refine TW.skip rfl rfl ?_
    refine TW.skip rfl rfl ?_
    refine tP (vB false) rfl (fun w => (Step.pick (t := false) rfl rfl)) ?_
    refine TW.done (fun w35 M => ?_)
    refine W.cond (t := false) rfl (fun h => by cases h) (fun _ => ?_)
    refine W.skip (W.region rfl (wS (vI (↑i_ + 1)) rfl (Step.add rfl rfl (wrap_i64 (by omega))) (wM (vI (↑i_ + 1)) (WL.nil ?_))))
    have hs_ := len_end (hs := hitsN n) (i := i_) (by omega) (kidsL_kid (l := l) he_ hlf_ hx23)
    try simp only [List.length_nil] at hs_
    replace M := M.rechunk 1 (c' := C (k0 + (partW (kidsL d l n) (hitsN n) (i_ + 1)).length) q24) rfl (congrArg (fun z => C z q24) (by omega))
    replace M := M.sel (L' := [C (k0 + (partW (kidsL d l n) (hitsN n) (i_ + 1)).length) q24, bk b13 #[(vB n.leaf), kv3, dv4, vv5] 99, arenaC 143 145 S ab l, oS kv3 n.keys, oH dv4 n.kids, oI vv5 n.vals]) [1, 2, 0, 3, 4, 5] rfl (by decide)
    exact ⟨_, (by omega), i_ + 1, q24, ⟨(by omega), rfl⟩, ⟨rfl, rfl, rfl, rfl, rfl, rfl, rfl⟩, M⟩
  ·
   have hlf_ : n.leaf = true := by simpa using h20
   rw [h20]
   refine WL.pass rfl ?_
   refine WL.pass rfl ?_
   refine WL.pass rfl ?_
   refine WL.pass rfl ?_
   refine WL.pass rfl ?_
   refine WL.pass rfl ?_
   refine WL.pass rfl ?_
   refine WL.pass rfl ?_
   refine WL.pass rfl ?_
   refine wS (vB false) rfl (Step.pick (t := false) rfl rfl) (WL.nil ?_)
   refine W.cond (t := false) rfl (fun h => by cases h) (fun _ => ?_)
   refine W.skip (W.seq' ?_)
   rcases Bool.eq_false_or_eq_true (decide ((↑i_ : Int) < (↑n.keys.length : Int))) with h36 | h36
   ·
    have h36p := of_decide_eq_true h36
    obtain ⟨cap38, hb37⟩ := SlAt.base (own_slAt (M.chunk 3 rfl).inv) (by omega)
    obtain ⟨x39, hx39⟩ := elem_of_lt (xs := n.keys) (i := i_) (by omega)
    obtain ⟨cap41, hb40⟩ := SlAt.base (own_slAt (M.chunk 5 rfl).inv) (by omega)
    obtain ⟨x42, hx42⟩ := elem_of_lt (xs := n.vals) (i := i_) (by omega)
    refine W.drawn M [0, 1, 2, 3, 4, 5, 6, 7, 8, 9, 10, 11, 12, 13, 14, 15, 16, 17, 18, 19, 20] [18] [] _ _ (sN (sY (sY (sY (sY (sY sE)))))) (fun _ h => h) Try.mixed (by kernel_rfl) ?_
    refine tP (vI ↑i_) rfl (fun w => (Step.move rfl)) ?_
    refine tP (Value.pointer (some ⟨b13, 1, none⟩)) rfl (fun w => sP) ?_
    refine tR kv3 rfl (fun A w M => (Step.load1 Try.sc22 rfl ((M.cell 1 rfl 1).trans rfl))) ?_
    refine tR (vI ↑n.keys.length) rfl (fun A w M => (Step.lenSl Try.un22 rfl (own_slAt (M.chunk 3 rfl).inv))) ?_
    refine tP (vB true) rfl (fun w => (Step.cast (congrArg Value.bool h36) sP)) ?_
    refine tP (vB true) rfl (fun w => (Step.move rfl)) ?_
    refine tP y rfl (fun w => (Step.move rfl)) ?_
    refine tP (Value.pointer (some ⟨b13, 1, none⟩)) rfl (fun w => sP) ?_
    refine tR kv3 rfl (fun A w M => (Step.load1 Try.sc22 rfl ((M.cell 1 rfl 1).trans rfl))) ?_
    refine tP (vI ↑i_) rfl (fun w => (Step.move rfl)) ?_
    refine tP (vQ kv3 i_ 1) rfl (fun w => (sX i_ Try.un22 Try.el9 rfl rfl hb37)) ?_
    refine tR (vS x39) rfl (fun A w M => (Step.loadE (k := 0) Try.sc9 (flat_ec (own_slAt (M.chunk 3 rfl).inv) hx39 strE_len) (by decide) rfl rfl)) ?_
    refine tP (Value.pointer (some ⟨b13, 3, none⟩)) rfl (fun w => sP) ?_
    refine tR vv5 rfl (fun A w M => (Step.load1 Try.sc97 rfl ((M.cell 1 rfl 3).trans rfl))) ?_
    refine tP (vI ↑i_) rfl (fun w => (Step.move rfl)) ?_
    refine tP (vQ vv5 i_ 1) rfl (fun w => (sX i_ Try.un97 Try.el3 rfl rfl hb40)) ?_
    refine tR (vI x42) rfl (fun A w M => (Step.loadE (k := 0) Try.sc3 (flat_ec (own_slAt (M.chunk 5 rfl).inv) hx42 intE_len) (by decide) rfl rfl)) ?_
    refine tP (Value.agg #[(vS x39), (vI x42)]) rfl (fun w => sP) ?_
    refine TW.callV (ι := ι) (fun jx v_ => v_ = vB true) (fun jx => [C (k0 + (partW (kidsL d l n) (hitsN n) i_).length + 1) jx, bk b13 #[(vB n.leaf), kv3, dv4, vv5] 99, arenaC 143 145 S ab l, oS kv3 n.keys, oH dv4 n.kids, oI vv5 n.vals]) (fun jx => [bF tb #[(vP ab), (vI r.at_), (vI r.turn), (vB fu), (vI ln)] 94, rf]) rfl (by decide) rfl rfl rfl (fun jx => (sN (sY (sY (sY (sY (sY sE))))))) (fun jx r h => h) (fun A w M => RetsV.mono (hy (k0 + (partW (kidsL d l n) (hitsN n) i_).length) q_ (⟨x39, x42⟩ : THit) _ (below_hit hAP (by omega) (kidsL_leaf (l := l) (d := d) hlf_) (hitsN_at hx39 hx42)) (M.enterW (C := [C (k0 + (partW (kidsL d l n) (hitsN n) i_).length) q_]) (D := [fl A, bk b13 #[(vB n.leaf), kv3, dv4, vv5] 99, arenaC 143 145 S ab l, oS kv3 n.keys, oH dv4 n.kids, oI vv5 n.vals]) [1, 0, 2, 3, 4, 5, 6] rfl (by decide) ⟨(M.wideR (C := [C (k0 + (partW (kidsL d l n) (hitsN n) i_).length) q_]) (D := [fl A, bk b13 #[(vB n.leaf), kv3, dv4, vv5] 99, arenaC 143 145 S ab l, oS kv3 n.keys, oH dv4 n.kids, oI vv5 n.vals]) [1, 0, 2, 3, 4, 5, 6] rfl 1 rfl), trivial⟩)) (fun v_ w_ ⟨e_, q43, m⟩ => ⟨q43, e_, (M.leaveW (C := [C (k0 + (partW (kidsL d l n) (hitsN n) i_).length) q_]) (D := [fl A, bk b13 #[(vB n.leaf), kv3, dv4, vv5] 99, arenaC 143 145 S ab l, oS kv3 n.keys, oH dv4 n.kids, oI vv5 n.vals]) [1, 0, 2, 3, 4, 5, 6] rfl (by decide) m).sel (L' := [fl A, C (k0 + (partW (kidsL d l n) (hitsN n) i_).length + 1) q43, bk b13 #[(vB n.leaf), kv3, dv4, vv5] 99, arenaC 143 145 S ab l, oS kv3 n.keys, oH dv4 n.kids, oI vv5 n.vals]) [1, 0, 2, 3, 4, 5, 6] rfl (by decide), fun b hb => M.keptW (C := [C (k0 + (partW (kidsL d l n) (hitsN n) i_).length) q_]) (D := [fl A, bk b13 #[(vB n.leaf), kv3, dv4, vv5] 99, arenaC 143 145 S ab l, oS kv3 n.keys, oH dv4 n.kids, oI vv5 n.vals]) [1, 0, 2, 3, 4, 5, 6] rfl (by decide) m (fl A) (List.mem_cons_self ..) b hb⟩)) (fun q43 v hp _ => ?_)
    subst hp
    refine tP (vB false) rfl (fun w => sP) ?_
    refine tP (vB false) rfl (fun w => (Step.pick (t := true) rfl rfl)) ?_
    refine TW.done (fun w44 M => ?_)
    refine W.cond (t := false) rfl (fun h => by cases h) (fun _ => ?_)
    refine W.skip (W.region rfl (wS (vI (↑i_ + 1)) rfl (Step.add rfl rfl (wrap_i64 (by omega))) (wM (vI (↑i_ + 1)) (WL.nil ?_))))
    have hs_ := len_hit (hitsN_at hx39 hx42) (kidsL_leaf (l := l) (d := d) hlf_)
    try simp only [List.length_nil] at hs_
    replace M := M.rechunk 0 (c' := C (k0 + (partW (kidsL d l n) (hitsN n) (i_ + 1)).length) q43) rfl (congrArg (fun z => C z q43) (by omega))
    exact ⟨_, (by omega), i_ + 1, q43, ⟨(by omega), rfl⟩, ⟨rfl, rfl, rfl, rfl, rfl, rfl, rfl⟩, M⟩
   ·
    have h36p := of_decide_eq_false h36
    refine W.drawn M [0, 1, 2, 3, 4, 5, 6, 7, 8, 9, 10, 11, 12, 13, 14, 15, 16, 17, 18, 19, 20] [18] [] _ _ (sY (sY (sY (sY (sY (sY sE)))))) (fun _ h => h) Try.mixed (by kernel_rfl) ?_
    refine tP (vI ↑i_) rfl (fun w => (Step.move rfl)) ?_
    refine tP (Value.pointer (some ⟨b13, 1, none⟩)) rfl (fun w => sP) ?_
    refine tR kv3 rfl (fun A w M => (Step.load1 Try.sc22 rfl ((M.cell 2 rfl 1).trans rfl))) ?_
    refine tR (vI ↑n.keys.length) rfl (fun A w M => (Step.lenSl Try.un22 rfl (own_slAt (M.chunk 4 rfl).inv))) ?_
    refine tP (vB false) rfl (fun w => (Step.cast (congrArg Value.bool h36) sP)) ?_
    refine tP (vB false) rfl (fun w => (Step.move rfl)) ?_
    refine TW.skip rfl rfl ?_
    refine TW.skip rfl rfl ?_
    refine TW.skip rfl rfl ?_
    refine TW.skip rfl rfl ?_
    refine TW.skip rfl rfl ?_
    refine TW.skip rfl rfl ?_
    refine TW.skip rfl rfl ?_
    refine TW.skip rfl rfl ?_
    refine TW.skip rfl rfl ?_
    refine TW.skip rfl rfl ?_
    refine TW.skip rfl rfl ?_
    refine TW.skip rfl rfl ?_
    refine TW.skip rfl rfl ?_
    refine TW.skip rfl rfl ?_
    refine tP (vB false) rfl (fun w => (Step.pick (t := false) rfl rfl)) ?_
    refine TW.done (fun w45 M => ?_)
    refine W.cond (t := false) rfl (fun h => by cases h) (fun _ => ?_)
    refine W.skip (W.region rfl (wS (vI (↑i_ + 1)) rfl (Step.add rfl rfl (wrap_i64 (by omega))) (wM (vI (↑i_ + 1)) (WL.nil ?_))))
    have hs_ := len_end (hs := hitsN n) (i := i_) (by omega) (kidsL_leaf (l := l) (d := d) hlf_)
    try simp only [List.length_nil] at hs_
    replace M := M.rechunk 0 (c' := C (k0 + (partW (kidsL d l n) (hitsN n) (i_ + 1)).length) q_) rfl (congrArg (fun z => C z q_) (by omega))
    exact ⟨_, (by omega), i_ + 1, q_, ⟨(by omega), rfl⟩, ⟨rfl, rfl, rfl, rfl, rfl, rfl, rfl⟩, M⟩
 ·
  have h19p := of_decide_eq_false h19
  refine W.exit ?_
  refine thn_exit ?_
  refine thn_exit ?_
  refine inBlk_hit ?_
  refine wR (wA (vB true) (WL.nil ?_))
  refine W.ret ?_
  refine ⟨.inl rfl, (vB true), ?_, ?_⟩
  · exact ⟨rfl, (Res.r1 (show RV _ _ _ (.tmp 6) (vB true) from by exact rfl))⟩
  have e46 : (k0 + (allT d l h).length : Nat) = k0 + (partW (kidsL d l n) (hitsN n) i_).length := by
   rw [allT_part hO hn, show n.keys.length + 1 = i_ by omega]
  replace M := M.rechunk 0 (c' := C (k0 + (allT d l h).length) q_) rfl (congrArg (fun z => C z q_) (e46.symm))
  refine ⟨q_, ?_, M.close [2, 0] rfl (by decide) trivial⟩
  rfl
end Go.Proofs
