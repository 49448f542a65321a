/- Proved here: lemmas and walks on which the claim stands (part 7 of 7). No condition. -/
import Derived.Test.YtnlnpfpfggbheaaSk6
set_option linter.all false
set_option maxRecDepth 100000
namespace Go.Proofs
open Go Tp
theorem Try.en15 : Enters Try.prog 15 := fun _ _ => by kernel_rfl
theorem Try.en26 : Enters Try.prog 26 := fun _ _ => by kernel_rfl
theorem Try.en27 : Enters Try.prog 27 := fun _ _ => by kernel_rfl
theorem Try.en52 : Enters Try.prog 52 := fun _ _ => by kernel_rfl
theorem Try.en53 : Enters Try.prog 53 := fun _ _ => by kernel_rfl
theorem Try.en54 : Enters Try.prog 54 := fun _ _ => by kernel_rfl
theorem l13_does {G X : Nat → Prop} {w : World} (tb : Nat) (S : Nat → Prop) (row : List THit) (c : Nat) (rv : Value) (sb : Nat) (s : Scn) (a : TAct)  (hc : c ≤ 800) (M : Mem G X w [tT S tb row c, bk sb #[(vS s.frm), (vS s.to_), (vB s.back), (vS s.at_), (vB s.told)] 88] [fR rv row] w) : Rets Try.prog 21 #[(vP tb), rv, (vP sb), (Value.agg #[(vS s.frm), (vS s.to_), (vB s.back), (vS s.at_), (vB s.told)]), (Value.agg #[(vI a.do_), (vS a.k), (vI a.v)])] w fun r w' => ∃ (rv' : Value) (S' : Nat → Prop), r = (Value.tuple #[rv', (Value.agg #[(vS ((doesSS s row a).frm)), (vS ((doesSS s row a).to_)), (vB ((doesSS s row a).back)), (vS ((doesSS s row a).at_)), (vB ((doesSS s row a).told))]), (vB true)]) ∧ Mem G X w [tT S' tb (doesSR row a) (c + 1), bk sb #[(vS ((doesSS s row a).frm)), (vS ((doesSS s row a).to_)), (vB ((doesSS s row a).back)), (vS ((doesSS s row a).at_)), (vB ((doesSS s row a).told))] 88] [fR rv' (doesSR row a)] w' := by
 refine Rets.enter 201 _ Try.func21 rfl Try.ntmps21 Try.results21 (by simp) ?_
 have hle1 := SlAt.le' (M.rep 0 rfl)
 have sl2 : IsSl rv := SlAt.isSl (Mem.rep M 0 rfl)
 obtain ⟨hup0_, hrc_⟩ := tabC_up (M.chunk 0 rfl).inv
 refine wR ?_
 refine WL.box (v := (Value.agg #[(vS s.frm), (vS s.to_), (vB s.back), (vS s.at_), (vB s.told)])) (c := #[(vS s.frm), (vS s.to_), (vB s.back), (vS s.at_), (vB s.told)]) M rfl rfl rfl (fun b3 w4 hb3 M => ?_)
 refine WL.box (v := (Value.agg #[(vI a.do_), (vS a.k), (vI a.v)])) (c := #[(vI a.do_), (vS a.k), (vI a.v)]) M rfl rfl rfl (fun b5 w6 hb5 M => ?_)
 refine wA vZ ?_
 refine WL.alloc (c := #[(vS sZ), (vS sZ), (vB false), (vS sZ), (vB false)]) M rfl Try.el46.zero rfl (fun b7 w8 hb7 M => ?_)
 refine wA (vB false) (WL.nil (W.seq' (wR (wP (vP b5) (wS (vI a.do_) rfl (Step.load1 Try.sc3 rfl ((M.cell 1 rfl 0).trans rfl)) ?_)))))
 refine WL.callX rfl (kit_pick a.do_ 7 (by omega) (M.enterW0 trivial)) (CallsF.func Try.en16 rfl) ?_
 rintro _ w9 ⟨rfl, m⟩
 replace M := M.leaveW0 m
 clear m
 refine WL.nil (W.block (wR (wP (vB ((pickI a.do_ 7 : Int) == (0 : Int))) (wA (vB ((pickI a.do_ 7 : Int) == (0 : Int))) (WL.nil ?_)))))
 refine W.cond (t := (pickI a.do_ 7 : Int) == (0 : Int)) rfl (fun h10 => ?_) (fun h10 => ?_)
 ·
  have h10p : (pickI a.do_ 7 : Int) = (0 : Int) := by simpa using h10
  refine wR (wM (vP sb) (wM (vP tb) ?_))
  have fq := M.frm [bk sb #[(vS s.frm), (vS s.to_), (vB s.back), (vS s.at_), (vB s.told)] 88, tT S tb row c] [bk b7 #[(vS sZ), (vS sZ), (vB false), (vS sZ), (vB false)] 46, bk b5 #[(vI a.do_), (vS a.k), (vI a.v)] 31, bk b3 #[(vS s.frm), (vS s.to_), (vB s.back), (vS s.at_), (vB s.told)] 46] [4, 3, 0, 1, 2] rfl
  refine WL.callX rfl (sc_next sb s tb S row c (by first | assumption | omega) (M.eF fq trivial)) (CallsF.func Try.en24 rfl) ?_
  rintro _ w11 ⟨rfl, m⟩
  replace M := M.lF fq m
  clear m
  refine wM (Value.tuple #[(Value.agg #[(vS (((peekR s row).1).key)), (vI (((peekR s row).1).val))]), (vB ((peekR s row).2))]) (wP (Value.agg #[(vS (((peekR s row).1).key)), (vI (((peekR s row).1).val))]) (wP (vB ((peekR s row).2)) ?_))
  refine WL.alloc (c := #[(vS sZ), (vI 0)]) M rfl Try.el41.zero rfl (fun b12 w13 hb12 M => ?_)
  refine WL.store (v := (Value.agg #[(vS (((peekR s row).1).key)), (vI (((peekR s row).1).val))])) (cs := [(vS (((peekR s row).1).key)), (vI (((peekR s row).1).val))]) (c' := #[(vS (((peekR s row).1).key)), (vI (((peekR s row).1).val))]) M 0 rfl rfl Try.el41.sized rfl rfl rfl rfl (nL rfl) (cC rfl (cC rfl cel_nil)) rfl rfl (fun w14 M => ?_)
  refine wA (vB ((peekR s row).2)) (WL.nil (wR (wS (Value.agg #[(vS s.frm), (vS s.to_), (vB s.back), (vS s.at_), (vB s.told)]) rfl (Step.loadN Try.ag46 rfl (M.blk 5 rfl) (nL rfl) rfl) (wM rv ?_))))
  refine WL.callX rfl (r_next s rv row (M.enterW0 ⟨(M.wideR0 0 rfl), trivial⟩)) (CallsF.func Try.en51 rfl) ?_
  rintro _ w15 ⟨rfl, m⟩
  replace M := M.leaveW0 m
  clear m
  refine wM (Value.tuple #[(Value.agg #[(vS ((nextR s row).frm)), (vS ((nextR s row).to_)), (vB ((nextR s row).back)), (vS ((nextR s row).at_)), (vB ((nextR s row).told))]), (Value.agg #[(vS (((peekR s row).1).key)), (vI (((peekR s row).1).val))]), (vB ((peekR s row).2))]) (wP (Value.agg #[(vS ((nextR s row).frm)), (vS ((nextR s row).to_)), (vB ((nextR s row).back)), (vS ((nextR s row).at_)), (vB ((nextR s row).told))]) (wP (Value.agg #[(vS (((peekR s row).1).key)), (vI (((peekR s row).1).val))]) (wP (vB ((peekR s row).2)) ?_)))
  refine WL.alloc (c := #[(vS sZ), (vS sZ), (vB false), (vS sZ), (vB false)]) M rfl Try.el46.zero rfl (fun b16 w17 hb16 M => ?_)
  refine WL.alloc (c := #[(vS sZ), (vI 0)]) M rfl Try.el108.zero rfl (fun b18 w19 hb18 M => ?_)
  refine WL.store (v := (Value.agg #[(vS ((nextR s row).frm)), (vS ((nextR s row).to_)), (vB ((nextR s row).back)), (vS ((nextR s row).at_)), (vB ((nextR s row).told))])) (cs := [(vS ((nextR s row).frm)), (vS ((nextR s row).to_)), (vB ((nextR s row).back)), (vS ((nextR s row).at_)), (vB ((nextR s row).told))]) (c' := #[(vS ((nextR s row).frm)), (vS ((nextR s row).to_)), (vB ((nextR s row).back)), (vS ((nextR s row).at_)), (vB ((nextR s row).told))]) M 1 rfl rfl Try.el46.sized rfl rfl rfl rfl (nL rfl) (cC rfl (cC rfl (cC rfl (cC rfl (cC rfl cel_nil))))) rfl rfl (fun w20 M => ?_)
  refine WL.store (v := (Value.agg #[(vS (((peekR s row).1).key)), (vI (((peekR s row).1).val))])) (cs := [(vS (((peekR s row).1).key)), (vI (((peekR s row).1).val))]) (c' := #[(vS (((peekR s row).1).key)), (vI (((peekR s row).1).val))]) M 0 rfl rfl Try.el108.sized rfl rfl rfl rfl (nL rfl) (cC rfl (cC rfl cel_nil)) rfl rfl (fun w21 M => ?_)
  refine wA (vB ((peekR s row).2)) (WL.nil (W.seq' ?_))
  refine W.drawn M [0, 1, 2, 3, 4, 5, 6, 7, 8, 9, 10, 11, 12] [4, 11] [] _ _ (sY (sY (sY (sY (sY (sN (sY (sY sE)))))))) (fun _ h => h) Try.mixed (by kernel_rfl) ?_
  refine tM rv rfl (tR (Value.agg #[(vS ((nextR s row).frm)), (vS ((nextR s row).to_)), (vB ((nextR s row).back)), (vS ((nextR s row).at_)), (vB ((nextR s row).told))]) rfl (fun A w M => (Step.loadN Try.ag46 rfl (M.blk 2 rfl) (nL rfl) rfl)) (tR (Value.agg #[(vS (((peekR s row).1).key)), (vI (((peekR s row).1).val))]) rfl (fun A w M => (Step.loadN Try.ag41 rfl (M.blk 3 rfl) (nL rfl) rfl)) (tR (Value.agg #[(vS (((peekR s row).1).key)), (vI (((peekR s row).1).val))]) rfl (fun A w M => (Step.loadN Try.ag108 rfl (M.blk 1 rfl) (nL rfl) rfl)) ?_)))
  let Q : List Chunk := [bk b18 #[(vS (((peekR s row).1).key)), (vI (((peekR s row).1).val))] 108, bk b16 #[(vS ((nextR s row).frm)), (vS ((nextR s row).to_)), (vB ((nextR s row).back)), (vS ((nextR s row).at_)), (vB ((nextR s row).told))] 46, bk b12 #[(vS (((peekR s row).1).key)), (vI (((peekR s row).1).val))] 41, bk sb #[(vS ((nextR s row).frm)), (vS ((nextR s row).to_)), (vB ((nextR s row).back)), (vS ((nextR s row).at_)), (vB ((nextR s row).told))] 88, tT S tb row c, bk b7 #[(vS sZ), (vS sZ), (vB false), (vS sZ), (vB false)] 46, bk b5 #[(vI a.do_), (vS a.k), (vI a.v)] 31, bk b3 #[(vS s.frm), (vS s.to_), (vB s.back), (vS s.at_), (vB s.told)] 46]
  refine TW.callX (ι := Unit) (fun jx v_ => v_ = (vB true)) (fun jx => Q) (fun jx => [fR rv row]) rfl (by decide) rfl (fun jx => (sY (sY (sY (sY (sY (sN (sY (sY sE))))))))) (fun jx r h => h) (fun A w M => Rets.mono (l13_hit1 ((peekR s row).1) (M.enterW0 trivial)) (fun v_ w_ ⟨e_, m⟩ => ⟨(), e_, (M.leaveW0 m).sel [0, 1, 2, 3, 4, 5, 6, 7, 8] rfl (by decide), fun b hb => M.k0F m b hb⟩)) (fun w => CallsF.func Try.en52 rfl) (fun jx v hp hin => ?_)
  replace hp := hp.symm; subst hp
  clear hin
  refine tM (vB true) rfl (tM (vB ((peekR s row).2)) rfl (tM (vB ((peekR s row).2)) rfl (tP (vB true) rfl (fun w => (Step.cast (congrArg Value.bool (by simp)) (Step.pure (v := .bool ((((peekR s row).2) == ((peekR s row).2)))) (by kernel_rfl)))) (tP (vB true) rfl (fun w => (Step.pick (t := true) rfl rfl)) (tP rv rfl (fun w => (Step.assign rfl)) ?_)))))
  refine TW.store (v := (Value.agg #[(vS ((nextR s row).frm)), (vS ((nextR s row).to_)), (vB ((nextR s row).back)), (vS ((nextR s row).at_)), (vB ((nextR s row).told))])) (cs := [(vS ((nextR s row).frm)), (vS ((nextR s row).to_)), (vB ((nextR s row).back)), (vS ((nextR s row).at_)), (vB ((nextR s row).told))]) (c' := #[(vS ((nextR s row).frm)), (vS ((nextR s row).to_)), (vB ((nextR s row).back)), (vS ((nextR s row).at_)), (vB ((nextR s row).told))]) 5 rfl rfl (by decide) rfl Try.el46.sized rfl rfl rfl rfl (nL rfl) (cC rfl (cC rfl (cC rfl (cC rfl (cC rfl cel_nil))))) rfl rfl (sY (sY (sY (sY (sY (sN (sY (sY sE)))))))) (fun r h => h) ?_
  refine tP (vB true) rfl (fun w => (Step.assign rfl)) ?_
  refine TW.done (fun w24 M => ?_)
  refine W.ret ?_
  refine ⟨.inl rfl, (Value.tuple #[rv, (Value.agg #[(vS ((nextR s row).frm)), (vS ((nextR s row).to_)), (vB ((nextR s row).back)), (vS ((nextR s row).at_)), (vB ((nextR s row).told))]), (vB true)]), ?_, ?_⟩
  · exact ⟨rfl, (Res.r3 (show RV _ _ _ (.tmp 10) rv from by exact rfl) (RV.cellN Try.ag46 rfl (M.blk 5 rfl) rfl) (show RV _ _ _ (.tmp 12) (vB true) from by exact rfl))⟩
  replace M := M.sel (L' := [tT S tb row c, bk b18 #[(vS (((peekR s row).1).key)), (vI (((peekR s row).1).val))] 108, bk b16 #[(vS ((nextR s row).frm)), (vS ((nextR s row).to_)), (vB ((nextR s row).back)), (vS ((nextR s row).at_)), (vB ((nextR s row).told))] 46, bk b12 #[(vS (((peekR s row).1).key)), (vI (((peekR s row).1).val))] 41, bk sb #[(vS ((nextR s row).frm)), (vS ((nextR s row).to_)), (vB ((nextR s row).back)), (vS ((nextR s row).at_)), (vB ((nextR s row).told))] 88, bk b7 #[(vS ((nextR s row).frm)), (vS ((nextR s row).to_)), (vB ((nextR s row).back)), (vS ((nextR s row).at_)), (vB ((nextR s row).told))] 46, bk b5 #[(vI a.do_), (vS a.k), (vI a.v)] 31, bk b3 #[(vS s.frm), (vS s.to_), (vB s.back), (vS s.at_), (vB s.told)] 46]) [4, 0, 1, 2, 3, 5, 6, 7] rfl (by decide)
  replace M := M.tabUp
  have e25 : doesSR row a = row := by
   rw [(sd_next (s := s) (row := row) h10p).1]
  replace M := M.rechunk 0 (c' := tT S tb (doesSR row a) (c + 1)) rfl (by rw [e25])
  have e26 : (bk sb #[(vS ((doesSS s row a).frm)), (vS ((doesSS s row a).to_)), (vB ((doesSS s row a).back)), (vS ((doesSS s row a).at_)), (vB ((doesSS s row a).told))] 88 : Chunk) = (bk sb #[(vS ((nextR s row).frm)), (vS ((nextR s row).to_)), (vB ((nextR s row).back)), (vS ((nextR s row).at_)), (vB ((nextR s row).told))] 88 : Chunk) := by
   rw [(sd_next (s := s) (row := row) h10p).2]
  replace M := M.rechunk 4 (c' := bk sb #[(vS ((doesSS s row a).frm)), (vS ((doesSS s row a).to_)), (vB ((doesSS s row a).back)), (vS ((doesSS s row a).at_)), (vB ((doesSS s row a).told))] 88) rfl e26.symm
  have e27 : doesSR row a = row := by
   rw [(sd_next (s := s) (row := row) h10p).1]
  have hf28 := Sh.reList e27 (M.shr' 0 rfl)
  refine ⟨rv, S, ?_, M.close [0, 4] rfl (by decide) ⟨hf28, trivial⟩⟩
  rw [(sd_next (s := s) (row := row) h10p).2]
 ·
  have h10p : ¬ (pickI a.do_ 7 : Int) = (0 : Int) := by simpa using h10
  refine wR (wP (vB ((pickI a.do_ 7 : Int) == (1 : Int))) (wA (vB ((pickI a.do_ 7 : Int) == (1 : Int))) (WL.nil ?_)))
  refine W.cond (t := (pickI a.do_ 7 : Int) == (1 : Int)) rfl (fun h29 => ?_) (fun h29 => ?_)
  ·
   have h29p : (pickI a.do_ 7 : Int) = (1 : Int) := by simpa using h29
   refine wR (wM (vP sb) (wM (vP tb) (wP (Value.pointer (some ⟨b5, 2, none⟩)) (wS (vI a.v) rfl (Step.load1 Try.sc3 rfl ((M.cell 1 rfl 2).trans rfl)) ?_))))
   have fq := M.frm [bk sb #[(vS s.frm), (vS s.to_), (vB s.back), (vS s.at_), (vB s.told)] 88, tT S tb row c] [bk b7 #[(vS sZ), (vS sZ), (vB false), (vS sZ), (vB false)] 46, bk b5 #[(vI a.do_), (vS a.k), (vI a.v)] 31, bk b3 #[(vS s.frm), (vS s.to_), (vB s.back), (vS s.at_), (vB s.told)] 46] [4, 3, 0, 1, 2] rfl
   refine WL.callX rfl (sc_page sb s tb S row c a.v (by first | assumption | omega) (M.eF fq trivial)) (CallsF.func Try.en15 rfl) ?_
   rintro _ w31 ⟨v30, rfl, m⟩
   replace M := M.lF fq m
   clear m
   have sl32 : IsSl v30 := SlAt.isSl (oW (Mem.chunk M 2 rfl).inv)
   have hle33 := SlAt.le' (oW (Mem.chunk M 2 rfl).inv)
   refine wM (Value.tuple #[v30, (vB (pageD s row a.v))]) (wP v30 (wP (vB (pageD s row a.v)) (wA v30 (wA (vB (pageD s row a.v)) (WL.nil (wR (wS (Value.agg #[(vS s.frm), (vS s.to_), (vB s.back), (vS s.at_), (vB s.told)]) rfl (Step.loadN Try.ag46 rfl (M.blk 5 rfl) (nL rfl) rfl) (wM rv (wP (Value.pointer (some ⟨b5, 2, none⟩)) (wS (vI a.v) rfl (Step.load1 Try.sc3 rfl ((M.cell 4 rfl 2).trans rfl)) ?_))))))))))
   refine WL.callX rfl (r_page s rv row a.v (by omega) (by assumption) (M.enter0 ⟨(M.shr' 0 rfl), trivial⟩)) (CallsF.func Try.en53 rfl) ?_
   rintro _ w35 ⟨pv34, rfl, m⟩
   replace M := M.leave0 m
   clear m
   have sl36 : IsSl pv34 := SlAt.isSl (Mem.rep M 0 rfl)
   have hle37 := SlAt.le' (M.rep 0 rfl)
   refine wM (Value.tuple #[(Value.agg #[(vS ((pageS s row a.v).frm)), (vS ((pageS s row a.v).to_)), (vB ((pageS s row a.v).back)), (vS ((pageS s row a.v).at_)), (vB ((pageS s row a.v).told))]), pv34, (vB (pageD s row a.v))]) (wP (Value.agg #[(vS ((pageS s row a.v).frm)), (vS ((pageS s row a.v).to_)), (vB ((pageS s row a.v).back)), (vS ((pageS s row a.v).at_)), (vB ((pageS s row a.v).told))]) (wP pv34 (wP (vB (pageD s row a.v)) ?_)))
   refine WL.alloc (c := #[(vS sZ), (vS sZ), (vB false), (vS sZ), (vB false)]) M rfl Try.el46.zero rfl (fun b38 w39 hb38 M => ?_)
   refine WL.store (v := (Value.agg #[(vS ((pageS s row a.v).frm)), (vS ((pageS s row a.v).to_)), (vB ((pageS s row a.v).back)), (vS ((pageS s row a.v).at_)), (vB ((pageS s row a.v).told))])) (cs := [(vS ((pageS s row a.v).frm)), (vS ((pageS s row a.v).to_)), (vB ((pageS s row a.v).back)), (vS ((pageS s row a.v).at_)), (vB ((pageS s row a.v).told))]) (c' := #[(vS ((pageS s row a.v).frm)), (vS ((pageS s row a.v).to_)), (vB ((pageS s row a.v).back)), (vS ((pageS s row a.v).at_)), (vB ((pageS s row a.v).told))]) M 0 rfl rfl Try.el46.sized rfl rfl rfl rfl (nL rfl) (cC rfl (cC rfl (cC rfl (cC rfl (cC rfl cel_nil))))) rfl rfl (fun w40 M => ?_)
   refine wA pv34 (wA (vB (pageD s row a.v)) (WL.nil (W.seq' (wR (wM v30 (wS (vI (↑((pageL s row a.v).length))) rfl (Step.lenSl Try.un34 rfl (oW (M.chunk 3 rfl).inv)) (wM pv34 (wS (vI (↑((pageL s row a.v).length))) rfl (Step.lenSl Try.un27 rfl (M.rep 0 rfl)) (wS (vB false) rfl (Step.cast (congrArg Value.bool (show ((↑((pageL s row a.v).length) : Int) != (↑((pageL s row a.v).length) : Int)) = false by simp)) sP) (wM (vB false) (wM (vB (pageD s row a.v)) (wM (vB (pageD s row a.v)) (wS (vB false) rfl (Step.cast (congrArg Value.bool (by simp)) (Step.pure (v := .bool (!((pageD s row a.v) == (pageD s row a.v)))) (by kernel_rfl))) (wS (vB false) rfl (Step.pick (t := false) rfl rfl) (WL.nil ?_)))))))))))))))
   refine W.cond (t := false) rfl (fun h => by cases h) (fun _ => ?_)
   refine W.skip (W.seq' (wR (wA (vI 0) (WL.nil (W.block ?_)))))
   replace M := M.sel (L' := [oR v30 (pageL s row a.v), bk b38 #[(vS ((pageS s row a.v).frm)), (vS ((pageS s row a.v).to_)), (vB ((pageS s row a.v).back)), (vS ((pageS s row a.v).at_)), (vB ((pageS s row a.v).told))] 46, bk sb #[(vS ((pageS s row a.v).frm)), (vS ((pageS s row a.v).to_)), (vB ((pageS s row a.v).back)), (vS ((pageS s row a.v).at_)), (vB ((pageS s row a.v).told))] 88, tT S tb row c, bk b7 #[(vS sZ), (vS sZ), (vB false), (vS sZ), (vB false)] 46, bk b5 #[(vI a.do_), (vS a.k), (vI a.v)] 31, bk b3 #[(vS s.frm), (vS s.to_), (vB s.back), (vS s.at_), (vB s.told)] 46]) [3, 0, 1, 2, 4, 5, 6] rfl (by decide)
   refine W.loop (fun kk ρ w' => ∃ (q_ : Nat) (hs_ : List THit), ((hs_.length = (pageL s row a.v).length) ∧ (q_ ≤ (pageL s row a.v).length) ∧ (∀ j, q_ ≤ j → hs_[j]? = (pageL s row a.v)[j]?) ∧ kk = (pageL s row a.v).length - q_) ∧ ρ.has [(0, (vP tb)), (1, rv), (2, (vP sb)), (8, (vP b3)), (9, (vP b5)), (11, (vP b7)), (18, v30), (20, (vP b38)), (21, pv34), (23, (vI ↑q_)), (36, (vI (pickI a.do_ 7)))] ∧ Mem G X w [oR v30 hs_, bk b38 #[(vS ((pageS s row a.v).frm)), (vS ((pageS s row a.v).to_)), (vB ((pageS s row a.v).back)), (vS ((pageS s row a.v).at_)), (vB ((pageS s row a.v).told))] 46, bk sb #[(vS ((pageS s row a.v).frm)), (vS ((pageS s row a.v).to_)), (vB ((pageS s row a.v).back)), (vS ((pageS s row a.v).at_)), (vB ((pageS s row a.v).told))] 88, tT S tb row c, bk b7 #[(vS sZ), (vS sZ), (vB false), (vS sZ), (vB false)] 46, bk b5 #[(vI a.do_), (vS a.k), (vI a.v)] 31, bk b3 #[(vS s.frm), (vS s.to_), (vB s.back), (vS s.at_), (vB s.told)] 46] [fR pv34 (pageL s row a.v), fR rv row]  w') _ ⟨0, pageL s row a.v, ⟨rfl, (Nat.zero_le _), (fun _ _ => rfl), rfl⟩, ⟨rfl, rfl, rfl, rfl, rfl, rfl, rfl, rfl, rfl, rfl, rfl, rfl, rfl⟩, M⟩ ?_
   rintro _ ρ42 w41 ⟨q_, hs_, ⟨hi43, hi44, hi45, rfl⟩, hρ, M⟩
   obtain ⟨ρ42, rfl⟩ := hρ.know
   clear hρ
   have hsq_ : ∀ j, q_ ≤ j → hs_[j]? = (pageL s row a.v)[j]? := hi45
   refine W.seq' (wR (wM (vI ↑q_) (wM v30 (wS (vI ↑hs_.length) rfl (Step.lenSl Try.un34 rfl (oW (M.chunk 0 rfl).inv)) (wP (vB (decide ((↑q_ : Int) < (↑hs_.length : Int)))) (WL.nil ?_))))))
   refine W.cond (t := decide ((↑q_ : Int) < (↑hs_.length : Int))) rfl (fun h46 => ?_) (fun h46 => ?_)
   ·
    have h46p := dT h46
    refine W.skip (W.seq' (W.block (W.seq' (W.seq' ?_))))
    obtain ⟨cap48, hb47⟩ := SlAt.base (oW (M.chunk 0 rfl).inv) (by omega)
    obtain ⟨x49, hx49⟩ := elem_of_lt (xs := hs_) (i := q_) (by omega)
    obtain ⟨cap51, hb50⟩ := SlAt.base (M.rep 0 rfl) (by omega)
    obtain ⟨x52, hx52⟩ := elem_of_lt (xs := pageL s row a.v) (i := q_) (by omega)
    have hxy_ : x49 = x52 := Option.some.inj (hx49.symm.trans ((hsq_ q_ (Nat.le_refl _)).trans hx52))
    refine W.drawn M [0, 1, 2, 3, 4, 5, 6, 7, 8, 9] [8] [] _ _ (sY (sY (sY (sY (sY (sY (sY sE))))))) (fun _ h => h) Try.mixed (by kernel_rfl) ?_
    refine tM v30 rfl (tM (vI ↑q_) rfl (tP (vQ v30 q_ 2) rfl (fun w => (sX q_ Try.un34 Try.el41 rfl rfl hb47)) (tR (Value.agg #[(vS x49.key), (vI x49.val)]) rfl (fun A w M => (Step.loadEN (k := 0) (cs' := [(vS x49.key), (vI x49.val)]) Try.ag41 (flat_ec (oW (M.chunk 1 rfl).inv) hx49 hitE_len) (by decide) rfl rfl rfl)) (tM pv34 rfl (tM (vI ↑q_) rfl (tP (vQ pv34 q_ 2) rfl (fun w => (sX q_ Try.un27 Try.el108 rfl rfl hb50)) (tR (Value.agg #[(vS x52.key), (vI x52.val)]) rfl (fun A w M => (Step.loadEN (k := 0) (cs' := [(vS x52.key), (vI x52.val)]) Try.ag108 (flat_ec (M.rep 0 rfl) hx52 hitE_len) (by decide) rfl rfl rfl)) ?_)))))))
    let Q : List Chunk := [oR v30 hs_, bk b38 #[(vS ((pageS s row a.v).frm)), (vS ((pageS s row a.v).to_)), (vB ((pageS s row a.v).back)), (vS ((pageS s row a.v).at_)), (vB ((pageS s row a.v).told))] 46, bk sb #[(vS ((pageS s row a.v).frm)), (vS ((pageS s row a.v).to_)), (vB ((pageS s row a.v).back)), (vS ((pageS s row a.v).at_)), (vB ((pageS s row a.v).told))] 88, tT S tb row c, bk b7 #[(vS sZ), (vS sZ), (vB false), (vS sZ), (vB false)] 46, bk b5 #[(vI a.do_), (vS a.k), (vI a.v)] 31, bk b3 #[(vS s.frm), (vS s.to_), (vB s.back), (vS s.at_), (vB s.told)] 46]
    refine TW.callX (ι := Unit) (fun jx v_ => v_ = (vB (decide (x49 = x52)))) (fun jx => Q) (fun jx => [fR pv34 (pageL s row a.v), fR rv row]) rfl (by decide) rfl (fun jx => (sY (sY (sY (sY (sY (sY (sY sE)))))))) (fun jx r h => h) (fun A w M => Rets.mono (l13_hit2 x49 x52 (M.enterW0 trivial)) (fun v_ w_ ⟨e_, m⟩ => ⟨(), e_, (M.leaveW0 m).sel [0, 1, 2, 3, 4, 5, 6, 7] rfl (by decide), fun b hb => M.k0F m b hb⟩)) (fun w => CallsF.func Try.en52 rfl) (fun jx v hp hin => ?_)
    replace hp := hp.symm; subst hp
    clear hin
    rw [(show (decide (x49 = x52)) = true by simp [hxy_])]
    refine tQ (vB false) rfl ?_
    refine TW.done (fun w53 M => ?_)
    refine W.cond (t := false) rfl (fun h => by cases h) (fun _ => ?_)
    refine W.skip (W.region rfl (wM v30 (wM (vI ↑q_) (wP (Value.agg #[(vS sZ), (vI 0)]) (wS (vQ v30 q_ 2) rfl (sX q_ Try.un34 Try.el41 rfl rfl hb47) ?_)))))
    obtain ⟨pre54, post55, hcs56, hpre57, hback58⟩ := flat_open hitE_len hx49
    replace M := M.rechunk 0 (c' := own 41 2 v30 hs_.length (pre54 ++ ([(vS x49.key), (vI x49.val)] ++ post55))) rfl (by show own 41 2 v30 hs_.length (hs_.flatMap hitE) = _; rw [hcs56]; rfl)
    refine WL.act rfl (M.storeAt (cells := [(vS x49.key), (vI x49.val)]) (cells' := [(vS sZ), (vI 0)]) (new := [(vS sZ), (vI 0)]) (k := 0) 0 rfl hpre57 Try.el41.sized rfl rfl rfl (cC rfl (cC rfl cel_nil)) (by first | omega | (simp only [List.length_set, List.length_append, List.length_cons, List.length_nil]; omega)) (nL rfl) rfl rfl) ?_
    rintro w59 ⟨M, -⟩
    refine WL.nil (W.region rfl (wM (vI ↑q_) (wS (vI (↑q_ + 1)) rfl (Step.add rfl rfl (wrap_i64 (by omega))) (wA (vI (↑q_ + 1)) (WL.nil ?_)))))
    replace M := M.rechunk 0 (c' := own 41 2 v30 (hs_.length) ((hs_.set q_ (⟨sZ, 0⟩ : THit)).flatMap hitE)) rfl (by rw [← hback58]; rfl)
    replace M := M.rechunk 0 (c' := oR v30 (hs_.set q_ (⟨sZ, 0⟩ : THit))) rfl (by show _ = own 41 2 v30 ((hs_.set q_ (⟨sZ, 0⟩ : THit)).length) ((hs_.set q_ (⟨sZ, 0⟩ : THit)).flatMap hitE); rw [List.length_set])
    exact ⟨_, (by omega), q_ + 1, hs_.set q_ (⟨sZ, 0⟩ : THit), ⟨(by rw [List.length_set]; assumption), (by omega), (fun j hj => by rw [List.getElem?_set_ne (by omega)]; exact hsq_ j (by omega)), rfl⟩, ⟨rfl, rfl, rfl, rfl, rfl, rfl, rfl, rfl, rfl, rfl, rfl, rfl, rfl⟩, M⟩
   ·
    have h46p := dF h46
    refine W.exit (thn_exit (thn_exit ?_))
    refine inBlk_hit ?_
    refine W.seq' ?_
    refine W.drawn M [0, 1, 2, 3, 4] [3] [] _ _ (sY (sY (sY (sY (sN (sY (sY sE))))))) (fun _ h => h) Try.mixed (by kernel_rfl) ?_
    refine tM rv rfl (tR (Value.agg #[(vS ((pageS s row a.v).frm)), (vS ((pageS s row a.v).to_)), (vB ((pageS s row a.v).back)), (vS ((pageS s row a.v).at_)), (vB ((pageS s row a.v).told))]) rfl (fun A w M => (Step.loadN Try.ag46 rfl (M.blk 2 rfl) (nL rfl) rfl)) (tP rv rfl (fun w => (Step.assign rfl)) ?_))
    refine TW.store (v := (Value.agg #[(vS ((pageS s row a.v).frm)), (vS ((pageS s row a.v).to_)), (vB ((pageS s row a.v).back)), (vS ((pageS s row a.v).at_)), (vB ((pageS s row a.v).told))])) (cs := [(vS ((pageS s row a.v).frm)), (vS ((pageS s row a.v).to_)), (vB ((pageS s row a.v).back)), (vS ((pageS s row a.v).at_)), (vB ((pageS s row a.v).told))]) (c' := #[(vS ((pageS s row a.v).frm)), (vS ((pageS s row a.v).to_)), (vB ((pageS s row a.v).back)), (vS ((pageS s row a.v).at_)), (vB ((pageS s row a.v).told))]) 4 rfl rfl (by decide) rfl Try.el46.sized rfl rfl rfl rfl (nL rfl) (cC rfl (cC rfl (cC rfl (cC rfl (cC rfl cel_nil))))) rfl rfl (sY (sY (sY (sY (sN (sY (sY sE))))))) (fun r h => h) ?_
    refine tP (vB true) rfl (fun w => (Step.assign rfl)) ?_
    refine TW.done (fun w62 M => ?_)
    refine W.ret ?_
    refine ⟨.inl rfl, (Value.tuple #[rv, (Value.agg #[(vS ((pageS s row a.v).frm)), (vS ((pageS s row a.v).to_)), (vB ((pageS s row a.v).back)), (vS ((pageS s row a.v).at_)), (vB ((pageS s row a.v).told))]), (vB true)]), ?_, ?_⟩
    · exact ⟨rfl, (Res.r3 (show RV _ _ _ (.tmp 10) rv from by exact rfl) (RV.cellN Try.ag46 rfl (M.blk 4 rfl) rfl) (show RV _ _ _ (.tmp 12) (vB true) from by exact rfl))⟩
    replace M := M.sel (L' := [tT S tb row c, oR v30 hs_, bk b38 #[(vS ((pageS s row a.v).frm)), (vS ((pageS s row a.v).to_)), (vB ((pageS s row a.v).back)), (vS ((pageS s row a.v).at_)), (vB ((pageS s row a.v).told))] 46, bk sb #[(vS ((pageS s row a.v).frm)), (vS ((pageS s row a.v).to_)), (vB ((pageS s row a.v).back)), (vS ((pageS s row a.v).at_)), (vB ((pageS s row a.v).told))] 88, bk b7 #[(vS ((pageS s row a.v).frm)), (vS ((pageS s row a.v).to_)), (vB ((pageS s row a.v).back)), (vS ((pageS s row a.v).at_)), (vB ((pageS s row a.v).told))] 46, bk b5 #[(vI a.do_), (vS a.k), (vI a.v)] 31, bk b3 #[(vS s.frm), (vS s.to_), (vB s.back), (vS s.at_), (vB s.told)] 46]) [3, 0, 1, 2, 4, 5, 6] rfl (by decide)
    replace M := M.tabUp
    have e63 : doesSR row a = row := by
     rw [(sd_page (s := s) (row := row) h10p h29p).1]
    replace M := M.rechunk 0 (c' := tT S tb (doesSR row a) (c + 1)) rfl (by rw [e63])
    have e64 : (bk sb #[(vS ((doesSS s row a).frm)), (vS ((doesSS s row a).to_)), (vB ((doesSS s row a).back)), (vS ((doesSS s row a).at_)), (vB ((doesSS s row a).told))] 88 : Chunk) = (bk sb #[(vS ((pageS s row a.v).frm)), (vS ((pageS s row a.v).to_)), (vB ((pageS s row a.v).back)), (vS ((pageS s row a.v).at_)), (vB ((pageS s row a.v).told))] 88 : Chunk) := by
     rw [(sd_page (s := s) (row := row) h10p h29p).2]
    replace M := M.rechunk 3 (c' := bk sb #[(vS ((doesSS s row a).frm)), (vS ((doesSS s row a).to_)), (vB ((doesSS s row a).back)), (vS ((doesSS s row a).at_)), (vB ((doesSS s row a).told))] 88) rfl e64.symm
    have e65 : doesSR row a = row := by
     rw [(sd_page (s := s) (row := row) h10p h29p).1]
    have hf66 := Sh.reList e65 (M.shr' 1 rfl)
    refine ⟨rv, S, ?_, M.close [0, 3] rfl (by decide) ⟨hf66, trivial⟩⟩
    rw [(sd_page (s := s) (row := row) h10p h29p).2]
  ·
   have h29p : ¬ (pickI a.do_ 7 : Int) = (1 : Int) := by simpa using h29
   refine wR (wP (vB ((pickI a.do_ 7 : Int) == (2 : Int))) (wA (vB ((pickI a.do_ 7 : Int) == (2 : Int))) (WL.nil ?_)))
   refine W.cond (t := (pickI a.do_ 7 : Int) == (2 : Int)) rfl (fun h67 => ?_) (fun h67 => ?_)
   ·
    have h67p : (pickI a.do_ 7 : Int) = (2 : Int) := by simpa using h67
    refine wR (wM (vP sb) (wP (Value.pointer (some ⟨b5, 1, none⟩)) (wS (vS a.k) rfl (Step.load1 Try.sc9 rfl ((M.cell 1 rfl 1).trans rfl)) ?_)))
    have fq := M.frm [bk sb #[(vS s.frm), (vS s.to_), (vB s.back), (vS s.at_), (vB s.told)] 88] [bk b7 #[(vS sZ), (vS sZ), (vB false), (vS sZ), (vB false)] 46, bk b5 #[(vI a.do_), (vS a.k), (vI a.v)] 31, bk b3 #[(vS s.frm), (vS s.to_), (vB s.back), (vS s.at_), (vB s.told)] 46, tT S tb row c] [4, 0, 1, 2, 3] rfl
    refine WL.callX rfl (sc_skip sb s a.k (M.eF fq trivial)) (CallsF.func Try.en26 rfl) ?_
    rintro _ w68 ⟨rfl, m⟩
    replace M := M.lF fq m
    clear m
    refine wA (vB ((skipS s a.k).2)) (WL.nil (wR (wS (Value.agg #[(vS s.frm), (vS s.to_), (vB s.back), (vS s.at_), (vB s.told)]) rfl (Step.loadN Try.ag46 rfl (M.blk 3 rfl) (nL rfl) rfl) (wP (Value.pointer (some ⟨b5, 1, none⟩)) (wS (vS a.k) rfl (Step.load1 Try.sc9 rfl ((M.cell 2 rfl 1).trans rfl)) ?_)))))
    refine WL.callX rfl (r_skip s a.k (M.enterW0 trivial)) (CallsF.func Try.en54 rfl) ?_
    rintro _ w69 ⟨rfl, m⟩
    replace M := M.leaveW0 m
    clear m
    refine wM (Value.tuple #[(Value.agg #[(vS (((skipS s a.k).1).frm)), (vS (((skipS s a.k).1).to_)), (vB (((skipS s a.k).1).back)), (vS (((skipS s a.k).1).at_)), (vB (((skipS s a.k).1).told))]), (vB ((skipS s a.k).2))]) (wP (Value.agg #[(vS (((skipS s a.k).1).frm)), (vS (((skipS s a.k).1).to_)), (vB (((skipS s a.k).1).back)), (vS (((skipS s a.k).1).at_)), (vB (((skipS s a.k).1).told))]) (wP (vB ((skipS s a.k).2)) ?_))
    refine WL.alloc (c := #[(vS sZ), (vS sZ), (vB false), (vS sZ), (vB false)]) M rfl Try.el46.zero rfl (fun b70 w71 hb70 M => ?_)
    refine WL.store (v := (Value.agg #[(vS (((skipS s a.k).1).frm)), (vS (((skipS s a.k).1).to_)), (vB (((skipS s a.k).1).back)), (vS (((skipS s a.k).1).at_)), (vB (((skipS s a.k).1).told))])) (cs := [(vS (((skipS s a.k).1).frm)), (vS (((skipS s a.k).1).to_)), (vB (((skipS s a.k).1).back)), (vS (((skipS s a.k).1).at_)), (vB (((skipS s a.k).1).told))]) (c' := #[(vS (((skipS s a.k).1).frm)), (vS (((skipS s a.k).1).to_)), (vB (((skipS s a.k).1).back)), (vS (((skipS s a.k).1).at_)), (vB (((skipS s a.k).1).told))]) M 0 rfl rfl Try.el46.sized rfl rfl rfl rfl (nL rfl) (cC rfl (cC rfl (cC rfl (cC rfl (cC rfl cel_nil))))) rfl rfl (fun w72 M => ?_)
    refine wA (vB ((skipS s a.k).2)) (WL.nil (W.seq' ?_))
    refine W.drawn M [0, 1, 2, 3, 4, 5, 6, 7] [6] [] _ _ (sY (sY (sN (sY (sY (sY sE)))))) (fun _ h => h) Try.mixed (by kernel_rfl) ?_
    refine tM rv rfl (tR (Value.agg #[(vS (((skipS s a.k).1).frm)), (vS (((skipS s a.k).1).to_)), (vB (((skipS s a.k).1).back)), (vS (((skipS s a.k).1).at_)), (vB (((skipS s a.k).1).told))]) rfl (fun A w M => (Step.loadN Try.ag46 rfl (M.blk 1 rfl) (nL rfl) rfl)) (tM (vB ((skipS s a.k).2)) rfl (tM (vB ((skipS s a.k).2)) rfl (tP (vB true) rfl (fun w => (Step.cast (congrArg Value.bool (by simp)) (Step.pure (v := .bool ((((skipS s a.k).2) == ((skipS s a.k).2)))) (by kernel_rfl)))) (tP rv rfl (fun w => (Step.assign rfl)) ?_)))))
    refine TW.store (v := (Value.agg #[(vS (((skipS s a.k).1).frm)), (vS (((skipS s a.k).1).to_)), (vB (((skipS s a.k).1).back)), (vS (((skipS s a.k).1).at_)), (vB (((skipS s a.k).1).told))])) (cs := [(vS (((skipS s a.k).1).frm)), (vS (((skipS s a.k).1).to_)), (vB (((skipS s a.k).1).back)), (vS (((skipS s a.k).1).at_)), (vB (((skipS s a.k).1).told))]) (c' := #[(vS (((skipS s a.k).1).frm)), (vS (((skipS s a.k).1).to_)), (vB (((skipS s a.k).1).back)), (vS (((skipS s a.k).1).at_)), (vB (((skipS s a.k).1).told))]) 2 rfl rfl (by decide) rfl Try.el46.sized rfl rfl rfl rfl (nL rfl) (cC rfl (cC rfl (cC rfl (cC rfl (cC rfl cel_nil))))) rfl rfl (sY (sY (sN (sY (sY (sY sE)))))) (fun r h => h) ?_
    refine tP (vB true) rfl (fun w => (Step.assign rfl)) ?_
    refine TW.done (fun w75 M => ?_)
    refine W.ret ?_
    refine ⟨.inl rfl, (Value.tuple #[rv, (Value.agg #[(vS (((skipS s a.k).1).frm)), (vS (((skipS s a.k).1).to_)), (vB (((skipS s a.k).1).back)), (vS (((skipS s a.k).1).at_)), (vB (((skipS s a.k).1).told))]), (vB true)]), ?_, ?_⟩
    · exact ⟨rfl, (Res.r3 (show RV _ _ _ (.tmp 10) rv from by exact rfl) (RV.cellN Try.ag46 rfl (M.blk 2 rfl) rfl) (show RV _ _ _ (.tmp 12) (vB true) from by exact rfl))⟩
    replace M := M.sel (L' := [tT S tb row c, bk b70 #[(vS (((skipS s a.k).1).frm)), (vS (((skipS s a.k).1).to_)), (vB (((skipS s a.k).1).back)), (vS (((skipS s a.k).1).at_)), (vB (((skipS s a.k).1).told))] 46, bk sb #[(vS (((skipS s a.k).1).frm)), (vS (((skipS s a.k).1).to_)), (vB (((skipS s a.k).1).back)), (vS (((skipS s a.k).1).at_)), (vB (((skipS s a.k).1).told))] 88, bk b7 #[(vS (((skipS s a.k).1).frm)), (vS (((skipS s a.k).1).to_)), (vB (((skipS s a.k).1).back)), (vS (((skipS s a.k).1).at_)), (vB (((skipS s a.k).1).told))] 46, bk b5 #[(vI a.do_), (vS a.k), (vI a.v)] 31, bk b3 #[(vS s.frm), (vS s.to_), (vB s.back), (vS s.at_), (vB s.told)] 46]) [5, 0, 1, 2, 3, 4] rfl (by decide)
    replace M := M.tabUp
    have e76 : doesSR row a = row := by
     rw [(sd_skip (s := s) (row := row) h10p h29p h67p).1]
    replace M := M.rechunk 0 (c' := tT S tb (doesSR row a) (c + 1)) rfl (by rw [e76])
    have e77 : (bk sb #[(vS ((doesSS s row a).frm)), (vS ((doesSS s row a).to_)), (vB ((doesSS s row a).back)), (vS ((doesSS s row a).at_)), (vB ((doesSS s row a).told))] 88 : Chunk) = (bk sb #[(vS (((skipS s a.k).1).frm)), (vS (((skipS s a.k).1).to_)), (vB (((skipS s a.k).1).back)), (vS (((skipS s a.k).1).at_)), (vB (((skipS s a.k).1).told))] 88 : Chunk) := by
     rw [(sd_skip (s := s) (row := row) h10p h29p h67p).2]
    replace M := M.rechunk 2 (c' := bk sb #[(vS ((doesSS s row a).frm)), (vS ((doesSS s row a).to_)), (vB ((doesSS s row a).back)), (vS ((doesSS s row a).at_)), (vB ((doesSS s row a).told))] 88) rfl e77.symm
    have e78 : doesSR row a = row := by
     rw [(sd_skip (s := s) (row := row) h10p h29p h67p).1]
    have hf79 := Sh.reList e78 (M.shr' 0 rfl)
    refine ⟨rv, S, ?_, M.close [0, 2] rfl (by decide) ⟨hf79, trivial⟩⟩
    rw [(sd_skip (s := s) (row := row) h10p h29p h67p).2]
   ·
    have h67p : ¬ (pickI a.do_ 7 : Int) = (2 : Int) := by simpa using h67
    refine wR (wP (vB ((pickI a.do_ 7 : Int) == (3 : Int))) (wA (vB ((pickI a.do_ 7 : Int) == (3 : Int))) (WL.nil ?_)))
    refine W.cond (t := (pickI a.do_ 7 : Int) == (3 : Int)) rfl (fun h80 => ?_) (fun h80 => ?_)
    ·
     have h80p : (pickI a.do_ 7 : Int) = (3 : Int) := by simpa using h80
     refine wR (wM (vP sb) ?_)
     refine WL.callX rfl (sc_copy sb s (M.enterW0 ⟨(M.wideC0 4 rfl), trivial⟩)) (CallsF.func Try.en27 rfl) ?_
     rintro _ w82 ⟨sb81, rfl, m⟩
     replace M := M.leaveW0 m
     clear m
     refine wA (vP sb81) (WL.nil (wR (wM (vP sb) (wM (vP tb) ?_))))
     have fq := M.frm [tT S tb row c] [bk sb81 #[(vS s.frm), (vS s.to_), (vB s.back), (vS s.at_), (vB s.told)] 88, bk b7 #[(vS sZ), (vS sZ), (vB false), (vS sZ), (vB false)] 46, bk b5 #[(vI a.do_), (vS a.k), (vI a.v)] 31, bk b3 #[(vS s.frm), (vS s.to_), (vB s.back), (vS s.at_), (vB s.told)] 46, bk sb #[(vS s.frm), (vS s.to_), (vB s.back), (vS s.at_), (vB s.told)] 88] [4, 0, 1, 2, 3, 5] rfl
     refine WL.callX rfl (sc_peek sb s tb S row c (by first | assumption | omega) (M.eF fq ⟨(M.cF fq 4 rfl), trivial⟩)) (CallsF.func Try.en25 rfl) ?_
     rintro _ w83 ⟨rfl, m⟩
     replace M := M.lF fq m
     clear m
     refine wM (Value.tuple #[(Value.agg #[(vS (((peekR s row).1).key)), (vI (((peekR s row).1).val))]), (vB ((peekR s row).2))]) (wP (Value.agg #[(vS (((peekR s row).1).key)), (vI (((peekR s row).1).val))]) (wP (vB ((peekR s row).2)) ?_))
     refine WL.alloc (c := #[(vS sZ), (vI 0)]) M rfl Try.el41.zero rfl (fun b84 w85 hb84 M => ?_)
     refine WL.store (v := (Value.agg #[(vS (((peekR s row).1).key)), (vI (((peekR s row).1).val))])) (cs := [(vS (((peekR s row).1).key)), (vI (((peekR s row).1).val))]) (c' := #[(vS (((peekR s row).1).key)), (vI (((peekR s row).1).val))]) M 0 rfl rfl Try.el41.sized rfl rfl rfl rfl (nL rfl) (cC rfl (cC rfl cel_nil)) rfl rfl (fun w86 M => ?_)
     refine wA (vB ((peekR s row).2)) (WL.nil (wR (wM (vP sb81) (wM (vP tb) ?_))))
     have fq := M.frm [bk sb81 #[(vS s.frm), (vS s.to_), (vB s.back), (vS s.at_), (vB s.told)] 88, tT S tb row c] [bk b84 #[(vS (((peekR s row).1).key)), (vI (((peekR s row).1).val))] 41, bk b7 #[(vS sZ), (vS sZ), (vB false), (vS sZ), (vB false)] 46, bk b5 #[(vI a.do_), (vS a.k), (vI a.v)] 31, bk b3 #[(vS s.frm), (vS s.to_), (vB s.back), (vS s.at_), (vB s.told)] 46, bk sb #[(vS s.frm), (vS s.to_), (vB s.back), (vS s.at_), (vB s.told)] 88] [2, 1, 0, 3, 4, 5, 6] rfl
     refine WL.callX rfl (sc_next sb81 s tb S row c (by first | assumption | omega) (M.eF fq trivial)) (CallsF.func Try.en24 rfl) ?_
     rintro _ w87 ⟨rfl, m⟩
     replace M := M.lF fq m
     clear m
     refine wM (Value.tuple #[(Value.agg #[(vS (((peekR s row).1).key)), (vI (((peekR s row).1).val))]), (vB ((peekR s row).2))]) (wP (Value.agg #[(vS (((peekR s row).1).key)), (vI (((peekR s row).1).val))]) (wP (vB ((peekR s row).2)) ?_))
     refine WL.alloc (c := #[(vS sZ), (vI 0)]) M rfl Try.el41.zero rfl (fun b88 w89 hb88 M => ?_)
     refine WL.store (v := (Value.agg #[(vS (((peekR s row).1).key)), (vI (((peekR s row).1).val))])) (cs := [(vS (((peekR s row).1).key)), (vI (((peekR s row).1).val))]) (c' := #[(vS (((peekR s row).1).key)), (vI (((peekR s row).1).val))]) M 0 rfl rfl Try.el41.sized rfl rfl rfl rfl (nL rfl) (cC rfl (cC rfl cel_nil)) rfl rfl (fun w90 M => ?_)
     refine wA (vB ((peekR s row).2)) (WL.nil (W.seq' ?_))
     replace M := M.loseI 1
     refine W.region rfl (wS (Value.agg #[(vS s.frm), (vS s.to_), (vB s.back), (vS s.at_), (vB s.told)]) rfl (Step.loadN Try.ag46 rfl (M.blk 5 rfl) (nL rfl) rfl) (wM rv ?_))
     refine WL.callX rfl (r_peek s rv row (M.enterW0 ⟨(M.wideR0 0 rfl), trivial⟩)) (CallsF.func Try.en55 rfl) ?_
     rintro _ w91 ⟨rfl, m⟩
     replace M := M.leaveW0 m
     clear m
     refine wM (Value.tuple #[(Value.agg #[(vS (((peekR s row).1).key)), (vI (((peekR s row).1).val))]), (vB ((peekR s row).2))]) (wP (Value.agg #[(vS (((peekR s row).1).key)), (vI (((peekR s row).1).val))]) (wP (vB ((peekR s row).2)) ?_))
     refine WL.alloc (c := #[(vS sZ), (vI 0)]) M rfl Try.el108.zero rfl (fun b92 w93 hb92 M => ?_)
     refine WL.store (v := (Value.agg #[(vS (((peekR s row).1).key)), (vI (((peekR s row).1).val))])) (cs := [(vS (((peekR s row).1).key)), (vI (((peekR s row).1).val))]) (c' := #[(vS (((peekR s row).1).key)), (vI (((peekR s row).1).val))]) M 0 rfl rfl Try.el108.sized rfl rfl rfl rfl (nL rfl) (cC rfl (cC rfl cel_nil)) rfl rfl (fun w94 M => ?_)
     refine wA (vB ((peekR s row).2)) (WL.nil (W.seq' ?_))
     refine W.drawn M [0, 1, 2, 3, 4, 5, 6, 7, 8, 9, 10, 11, 12, 13, 14, 15, 16, 17, 18, 19, 20, 21, 22] [4, 21] [] _ _ (sY (sY (sY (sY (sN (sY (sY (sY sE)))))))) (fun _ h => h) Try.mixed (by kernel_rfl) ?_
     refine tM rv rfl (tR (Value.agg #[(vS s.frm), (vS s.to_), (vB s.back), (vS s.at_), (vB s.told)]) rfl (fun A w M => (Step.loadN Try.ag46 rfl (M.blk 6 rfl) (nL rfl) rfl)) (tR (Value.agg #[(vS (((peekR s row).1).key)), (vI (((peekR s row).1).val))]) rfl (fun A w M => (Step.loadN Try.ag41 rfl (M.blk 4 rfl) (nL rfl) rfl)) (tR (Value.agg #[(vS (((peekR s row).1).key)), (vI (((peekR s row).1).val))]) rfl (fun A w M => (Step.loadN Try.ag108 rfl (M.blk 1 rfl) (nL rfl) rfl)) ?_)))
     let Q : List Chunk := [bk b92 #[(vS (((peekR s row).1).key)), (vI (((peekR s row).1).val))] 108, bk b88 #[(vS (((peekR s row).1).key)), (vI (((peekR s row).1).val))] 41, tT S tb row c, bk b84 #[(vS (((peekR s row).1).key)), (vI (((peekR s row).1).val))] 41, bk b7 #[(vS sZ), (vS sZ), (vB false), (vS sZ), (vB false)] 46, bk b5 #[(vI a.do_), (vS a.k), (vI a.v)] 31, bk b3 #[(vS s.frm), (vS s.to_), (vB s.back), (vS s.at_), (vB s.told)] 46, bk sb #[(vS s.frm), (vS s.to_), (vB s.back), (vS s.at_), (vB s.told)] 88]
     refine TW.callX (ι := Unit) (fun jx v_ => v_ = (vB true)) (fun jx => Q) (fun jx => [fR rv row]) rfl (by decide) rfl (fun jx => (sY (sY (sY (sY (sN (sY (sY (sY sE))))))))) (fun jx r h => h) (fun A w M => Rets.mono (l13_hit1 ((peekR s row).1) (M.enterW0 trivial)) (fun v_ w_ ⟨e_, m⟩ => ⟨(), e_, (M.leaveW0 m).sel [0, 1, 2, 3, 4, 5, 6, 7, 8] rfl (by decide), fun b hb => M.k0F m b hb⟩)) (fun w => CallsF.func Try.en52 rfl) (fun jx v hp hin => ?_)
     replace hp := hp.symm; subst hp
     clear hin
     refine tM (vB true) rfl (tM (vB ((peekR s row).2)) rfl (tM (vB ((peekR s row).2)) rfl (tP (vB true) rfl (fun w => (Step.cast (congrArg Value.bool (by simp)) (Step.pure (v := .bool ((((peekR s row).2) == ((peekR s row).2)))) (by kernel_rfl)))) (tP (vB true) rfl (fun w => (Step.pick (t := true) rfl rfl)) (tM (vB true) rfl (tR (Value.agg #[(vS (((peekR s row).1).key)), (vI (((peekR s row).1).val))]) rfl (fun A w M => (Step.loadN Try.ag41 rfl (M.blk 4 rfl) (nL rfl) rfl)) (tR (Value.agg #[(vS (((peekR s row).1).key)), (vI (((peekR s row).1).val))]) rfl (fun A w M => (Step.loadN Try.ag41 rfl (M.blk 2 rfl) (nL rfl) rfl)) (tP (vB true) rfl (fun w => (Step.cast (congrArg Value.bool (show (((((peekR s row).1).key).toList == (((peekR s row).1).key).toList) && (((((peekR s row).1).val : Int) == (((peekR s row).1).val : Int)) && true)) = true by rw [hit_eqB ((peekR s row).1) ((peekR s row).1)]; simp)) (Step.eqAgg Try.eg41 rfl rfl rfl (Try.eq41 9998 (((peekR s row).1).key) (((peekR s row).1).val : Int) (((peekR s row).1).key) (((peekR s row).1).val : Int))))) (tP (vB true) rfl (fun w => (Step.pick (t := true) rfl rfl)) (tM (vB true) rfl (tM (vB ((peekR s row).2)) rfl (tM (vB ((peekR s row).2)) rfl (tP (vB true) rfl (fun w => (Step.cast (congrArg Value.bool (by simp)) (Step.pure (v := .bool ((((peekR s row).2) == ((peekR s row).2)))) (by kernel_rfl)))) (tP (vB true) rfl (fun w => (Step.pick (t := true) rfl rfl)) (tP rv rfl (fun w => (Step.assign rfl)) ?_)))))))))))))))
     refine TW.store (v := (Value.agg #[(vS s.frm), (vS s.to_), (vB s.back), (vS s.at_), (vB s.told)])) (cs := [(vS s.frm), (vS s.to_), (vB s.back), (vS s.at_), (vB s.told)]) (c' := #[(vS s.frm), (vS s.to_), (vB s.back), (vS s.at_), (vB s.told)]) 4 rfl rfl (by decide) rfl Try.el46.sized rfl rfl rfl rfl (nL rfl) (cC rfl (cC rfl (cC rfl (cC rfl (cC rfl cel_nil))))) rfl rfl (sY (sY (sY (sY (sN (sY (sY (sY sE)))))))) (fun r h => h) ?_
     refine tP (vB true) rfl (fun w => (Step.assign rfl)) ?_
     refine TW.done (fun w97 M => ?_)
     refine W.ret ?_
     refine ⟨.inl rfl, (Value.tuple #[rv, (Value.agg #[(vS s.frm), (vS s.to_), (vB s.back), (vS s.at_), (vB s.told)]), (vB true)]), ?_, ?_⟩
     · exact ⟨rfl, (Res.r3 (show RV _ _ _ (.tmp 10) rv from by exact rfl) (RV.cellN Try.ag46 rfl (M.blk 4 rfl) rfl) (show RV _ _ _ (.tmp 12) (vB true) from by exact rfl))⟩
     replace M := M.sel (L' := [tT S tb row c, bk b92 #[(vS (((peekR s row).1).key)), (vI (((peekR s row).1).val))] 108, bk b88 #[(vS (((peekR s row).1).key)), (vI (((peekR s row).1).val))] 41, bk b84 #[(vS (((peekR s row).1).key)), (vI (((peekR s row).1).val))] 41, bk b7 #[(vS s.frm), (vS s.to_), (vB s.back), (vS s.at_), (vB s.told)] 46, bk b5 #[(vI a.do_), (vS a.k), (vI a.v)] 31, bk b3 #[(vS s.frm), (vS s.to_), (vB s.back), (vS s.at_), (vB s.told)] 46, bk sb #[(vS s.frm), (vS s.to_), (vB s.back), (vS s.at_), (vB s.told)] 88]) [2, 0, 1, 3, 4, 5, 6, 7] rfl (by decide)
     replace M := M.tabUp
     have e98 : doesSR row a = row := by
      rw [(sd_peek (s := s) (row := row) h10p h29p h67p h80p).1]
     replace M := M.rechunk 0 (c' := tT S tb (doesSR row a) (c + 1)) rfl (by rw [e98])
     have e99 : (bk sb #[(vS ((doesSS s row a).frm)), (vS ((doesSS s row a).to_)), (vB ((doesSS s row a).back)), (vS ((doesSS s row a).at_)), (vB ((doesSS s row a).told))] 88 : Chunk) = (bk sb #[(vS s.frm), (vS s.to_), (vB s.back), (vS s.at_), (vB s.told)] 88 : Chunk) := by
      rw [(sd_peek (s := s) (row := row) h10p h29p h67p h80p).2]
     replace M := M.rechunk 7 (c' := bk sb #[(vS ((doesSS s row a).frm)), (vS ((doesSS s row a).to_)), (vB ((doesSS s row a).back)), (vS ((doesSS s row a).at_)), (vB ((doesSS s row a).told))] 88) rfl e99.symm
     have e100 : doesSR row a = row := by
      rw [(sd_peek (s := s) (row := row) h10p h29p h67p h80p).1]
     have hf101 := Sh.reList e100 (M.shr' 0 rfl)
     refine ⟨rv, S, ?_, M.close [0, 7] rfl (by decide) ⟨hf101, trivial⟩⟩
     rw [(sd_peek (s := s) (row := row) h10p h29p h67p h80p).2]
    ·
     have h80p : ¬ (pickI a.do_ 7 : Int) = (3 : Int) := by simpa using h80
     refine wR (wP (vB ((pickI a.do_ 7 : Int) == (6 : Int))) (wA (vB ((pickI a.do_ 7 : Int) == (6 : Int))) (WL.nil ?_)))
     refine W.cond (t := (pickI a.do_ 7 : Int) == (6 : Int)) rfl (fun h102 => ?_) (fun h102 => ?_)
     ·
      have h102p : (pickI a.do_ 7 : Int) = (6 : Int) := by simpa using h102
      refine wR (wM (vP tb) (wP (Value.pointer (some ⟨b5, 1, none⟩)) (wS (vS a.k) rfl (Step.load1 Try.sc9 rfl ((M.cell 1 rfl 1).trans rfl)) ?_)))
      have fq := M.frm [tT S tb row c] [bk b7 #[(vS sZ), (vS sZ), (vB false), (vS sZ), (vB false)] 46, bk b5 #[(vI a.do_), (vS a.k), (vI a.v)] 31, bk b3 #[(vS s.frm), (vS s.to_), (vB s.back), (vS s.at_), (vB s.told)] 46, bk sb #[(vS s.frm), (vS s.to_), (vB s.back), (vS s.at_), (vB s.told)] 88] [3, 0, 1, 2, 4] rfl
      refine WL.callX rfl (T_delete tb S row c a.k (by first | assumption | omega) (M.eF fq trivial)) (CallsF.func Try.en19 rfl) ?_
      rintro _ w104 ⟨S103, rfl, m⟩
      replace M := M.lF fq m
      clear m
      refine WL.nil (W.seq' ?_)
      refine W.drawn M [0, 1, 2, 3, 4, 5, 6, 7] [3, 6] [] _ _ (sY (sN (sY (sY (sY sE))))) (fun _ h => h) Try.mixed (by kernel_rfl) ?_
      refine tM rv rfl (tQ (Value.pointer (some ⟨b5, 1, none⟩)) rfl (tR (vS a.k) rfl (fun A w M => (Step.load1 Try.sc9 rfl ((M.cell 2 rfl 1).trans rfl))) ?_))
      let Q : List Chunk := [tT S103 tb (delL row a.k) c, bk b7 #[(vS sZ), (vS sZ), (vB false), (vS sZ), (vB false)] 46, bk b5 #[(vI a.do_), (vS a.k), (vI a.v)] 31, bk b3 #[(vS s.frm), (vS s.to_), (vB s.back), (vS s.at_), (vB s.told)] 46, bk sb #[(vS s.frm), (vS s.to_), (vB s.back), (vS s.at_), (vB s.told)] 88]
      refine TW.callX (ι := Value) (fun jx v_ => v_ = jx) (fun jx => Q) (fun jx => [fR jx (delL row a.k), fR rv row]) rfl (by decide) rfl (fun jx => (sY (sN (sY (sY (sY sE)))))) (fun jx r h => (List.mem_cons_of_mem _ h)) (fun A w M => Rets.mono (r_delete rv row a.k (by omega) (M.enter0 ⟨(M.shr' 0 rfl), trivial⟩)) (fun v_ w_ ⟨v109, e_, m⟩ => ⟨v109, e_, (M.leave0 m).sel [0, 1, 2, 3, 4, 5] rfl (by decide), fun b hb => M.kept0 m (fl A) (List.mem_cons_self ..) b hb⟩)) (fun w => CallsF.func Try.en41 rfl) (fun v109 v hp hin => ?_)
      replace hp := hp.symm; subst hp
      obtain ⟨_, _, hin⟩ := hin
      have sl110 : IsSl v109 := SlAt.isSl (Mem.rep hin 0 rfl)
      clear hin
      refine tR (Value.agg #[(vS s.frm), (vS s.to_), (vB s.back), (vS s.at_), (vB s.told)]) rfl (fun A w M => (Step.loadN Try.ag46 rfl (M.blk 3 rfl) (nL rfl) rfl)) (tP v109 rfl (fun w => (Step.assign rfl)) ?_)
      refine TW.store (v := (Value.agg #[(vS s.frm), (vS s.to_), (vB s.back), (vS s.at_), (vB s.told)])) (cs := [(vS s.frm), (vS s.to_), (vB s.back), (vS s.at_), (vB s.told)]) (c' := #[(vS s.frm), (vS s.to_), (vB s.back), (vS s.at_), (vB s.told)]) 1 rfl rfl (by decide) rfl Try.el46.sized rfl rfl rfl rfl (nL rfl) (cC rfl (cC rfl (cC rfl (cC rfl (cC rfl cel_nil))))) rfl rfl (sY (sN (sY (sY (sY sE))))) (fun r h => (List.mem_cons_of_mem _ h)) ?_
      refine tP (vB true) rfl (fun w => (Step.assign rfl)) ?_
      refine TW.done (fun w111 M => ?_)
      refine W.ret ?_
      refine ⟨.inl rfl, (Value.tuple #[v109, (Value.agg #[(vS s.frm), (vS s.to_), (vB s.back), (vS s.at_), (vB s.told)]), (vB true)]), ?_, ?_⟩
      · exact ⟨rfl, (Res.r3 (show RV _ _ _ (.tmp 10) v109 from by exact rfl) (RV.cellN Try.ag46 rfl (M.blk 1 rfl) rfl) (show RV _ _ _ (.tmp 12) (vB true) from by exact rfl))⟩
      replace M := M.tabUp
      have e112 : doesSR row a = delL row a.k := by
       rw [(sd_del (s := s) (row := row) h10p h29p h67p h80p h102p).1]
      replace M := M.rechunk 0 (c' := tT S103 tb (doesSR row a) (c + 1)) rfl (by rw [e112])
      have e113 : (bk sb #[(vS ((doesSS s row a).frm)), (vS ((doesSS s row a).to_)), (vB ((doesSS s row a).back)), (vS ((doesSS s row a).at_)), (vB ((doesSS s row a).told))] 88 : Chunk) = (bk sb #[(vS s.frm), (vS s.to_), (vB s.back), (vS s.at_), (vB s.told)] 88 : Chunk) := by
       rw [(sd_del (s := s) (row := row) h10p h29p h67p h80p h102p).2]
      replace M := M.rechunk 4 (c' := bk sb #[(vS ((doesSS s row a).frm)), (vS ((doesSS s row a).to_)), (vB ((doesSS s row a).back)), (vS ((doesSS s row a).at_)), (vB ((doesSS s row a).told))] 88) rfl e113.symm
      have e114 : doesSR row a = delL row a.k := by
       rw [(sd_del (s := s) (row := row) h10p h29p h67p h80p h102p).1]
      have hf115 := Sh.reList e114 (M.shr' 0 rfl)
      refine ⟨v109, S103, ?_, M.close [0, 4] rfl (by decide) ⟨hf115, trivial⟩⟩
      rw [(sd_del (s := s) (row := row) h10p h29p h67p h80p h102p).2]
     ·
      have h102p : ¬ (pickI a.do_ 7 : Int) = (6 : Int) := by simpa using h102
      refine W.skip (wR (wM (vP tb) (wP (Value.pointer (some ⟨b5, 1, none⟩)) (wS (vS a.k) rfl (Step.load1 Try.sc9 rfl ((M.cell 1 rfl 1).trans rfl)) (wP (Value.pointer (some ⟨b5, 2, none⟩)) (wS (vI a.v) rfl (Step.load1 Try.sc3 rfl ((M.cell 1 rfl 2).trans rfl)) ?_))))))
      have fq := M.frm [tT S tb row c] [bk b7 #[(vS sZ), (vS sZ), (vB false), (vS sZ), (vB false)] 46, bk b5 #[(vI a.do_), (vS a.k), (vI a.v)] 31, bk b3 #[(vS s.frm), (vS s.to_), (vB s.back), (vS s.at_), (vB s.told)] 46, bk sb #[(vS s.frm), (vS s.to_), (vB s.back), (vS s.at_), (vB s.told)] 88] [3, 0, 1, 2, 4] rfl
      refine WL.callX rfl (T_put tb S row c a.k a.v (by first | assumption | omega) (M.eF fq trivial)) (CallsF.func Try.en18 rfl) ?_
      rintro _ w117 ⟨S116, rfl, m⟩
      replace M := M.lF fq m
      clear m
      refine WL.nil (W.seq' ?_)
      refine W.drawn M [0, 1, 2, 3, 4, 5, 6, 7, 8, 9] [5, 8] [] _ _ (sY (sN (sY (sY (sY sE))))) (fun _ h => h) Try.mixed (by kernel_rfl) ?_
      refine tM rv rfl (tQ (Value.pointer (some ⟨b5, 1, none⟩)) rfl (tR (vS a.k) rfl (fun A w M => (Step.load1 Try.sc9 rfl ((M.cell 2 rfl 1).trans rfl))) (tQ (Value.pointer (some ⟨b5, 2, none⟩)) rfl (tR (vI a.v) rfl (fun A w M => (Step.load1 Try.sc3 rfl ((M.cell 2 rfl 2).trans rfl))) ?_))))
      let Q : List Chunk := [tT S116 tb (putR row (⟨a.k, a.v⟩ : THit)) (c + 1), bk b7 #[(vS sZ), (vS sZ), (vB false), (vS sZ), (vB false)] 46, bk b5 #[(vI a.do_), (vS a.k), (vI a.v)] 31, bk b3 #[(vS s.frm), (vS s.to_), (vB s.back), (vS s.at_), (vB s.told)] 46, bk sb #[(vS s.frm), (vS s.to_), (vB s.back), (vS s.at_), (vB s.told)] 88]
      refine TW.callX (ι := Value) (fun jx v_ => v_ = jx) (fun jx => Q) (fun jx => [fR jx (putR row (⟨a.k, a.v⟩ : THit)), fR rv row]) rfl (by decide) rfl (fun jx => (sY (sN (sY (sY (sY sE)))))) (fun jx r h => (List.mem_cons_of_mem _ h)) (fun A w M => Rets.mono (r_put rv row a.k a.v (by omega) (M.enter0 ⟨(M.shr' 0 rfl), trivial⟩)) (fun v_ w_ ⟨v122, e_, m⟩ => ⟨v122, e_, (M.leave0 m).sel [0, 1, 2, 3, 4, 5] rfl (by decide), fun b hb => M.kept0 m (fl A) (List.mem_cons_self ..) b hb⟩)) (fun w => CallsF.func Try.en39 rfl) (fun v122 v hp hin => ?_)
      replace hp := hp.symm; subst hp
      obtain ⟨_, _, hin⟩ := hin
      have sl123 : IsSl v122 := SlAt.isSl (Mem.rep hin 0 rfl)
      clear hin
      refine tR (Value.agg #[(vS s.frm), (vS s.to_), (vB s.back), (vS s.at_), (vB s.told)]) rfl (fun A w M => (Step.loadN Try.ag46 rfl (M.blk 3 rfl) (nL rfl) rfl)) (tP v122 rfl (fun w => (Step.assign rfl)) ?_)
      refine TW.store (v := (Value.agg #[(vS s.frm), (vS s.to_), (vB s.back), (vS s.at_), (vB s.told)])) (cs := [(vS s.frm), (vS s.to_), (vB s.back), (vS s.at_), (vB s.told)]) (c' := #[(vS s.frm), (vS s.to_), (vB s.back), (vS s.at_), (vB s.told)]) 1 rfl rfl (by decide) rfl Try.el46.sized rfl rfl rfl rfl (nL rfl) (cC rfl (cC rfl (cC rfl (cC rfl (cC rfl cel_nil))))) rfl rfl (sY (sN (sY (sY (sY sE))))) (fun r h => (List.mem_cons_of_mem _ h)) ?_
      refine tP (vB true) rfl (fun w => (Step.assign rfl)) ?_
      refine TW.done (fun w124 M => ?_)
      refine W.ret ?_
      refine ⟨.inl rfl, (Value.tuple #[v122, (Value.agg #[(vS s.frm), (vS s.to_), (vB s.back), (vS s.at_), (vB s.told)]), (vB true)]), ?_, ?_⟩
      · exact ⟨rfl, (Res.r3 (show RV _ _ _ (.tmp 10) v122 from by exact rfl) (RV.cellN Try.ag46 rfl (M.blk 1 rfl) rfl) (show RV _ _ _ (.tmp 12) (vB true) from by exact rfl))⟩
      have e125 : doesSR row a = putR row (⟨a.k, a.v⟩ : THit) := by
       rw [(sd_put (s := s) (row := row) h10p h29p h67p h80p h102p).1]
      replace M := M.rechunk 0 (c' := tT S116 tb (doesSR row a) (c + 1)) rfl (by rw [e125])
      have e126 : (bk sb #[(vS ((doesSS s row a).frm)), (vS ((doesSS s row a).to_)), (vB ((doesSS s row a).back)), (vS ((doesSS s row a).at_)), (vB ((doesSS s row a).told))] 88 : Chunk) = (bk sb #[(vS s.frm), (vS s.to_), (vB s.back), (vS s.at_), (vB s.told)] 88 : Chunk) := by
       rw [(sd_put (s := s) (row := row) h10p h29p h67p h80p h102p).2]
      replace M := M.rechunk 4 (c' := bk sb #[(vS ((doesSS s row a).frm)), (vS ((doesSS s row a).to_)), (vB ((doesSS s row a).back)), (vS ((doesSS s row a).at_)), (vB ((doesSS s row a).told))] 88) rfl e126.symm
      have e127 : doesSR row a = putR row (⟨a.k, a.v⟩ : THit) := by
       rw [(sd_put (s := s) (row := row) h10p h29p h67p h80p h102p).1]
      have hf128 := Sh.reList e127 (M.shr' 0 rfl)
      refine ⟨v122, S116, ?_, M.close [0, 4] rfl (by decide) ⟨hf128, trivial⟩⟩
      rw [(sd_put (s := s) (row := row) h10p h29p h67p h80p h102p).2]
end Go.Proofs
set_option maxRecDepth 100000
namespace Go.Proofs
open Go Tp
theorem Try.en13 : Enters Try.prog 13 := fun _ _ => by kernel_rfl
theorem l13_works {G : Nat → Prop} {w : World}    (M : Mem G (fun _ => False) w [] [] w) : Rets Try.prog 12 #[] w fun r w' => r = (vB true) ∧ Mem G (fun _ => False) w [] [] w' := by
 refine Rets.enter 135 _ Try.func12 rfl Try.ntmps12 Try.results12 (by simp) ?_
 refine wR (wA (vB false) (WL.nil (wR ?_)))
 refine WL.new (obj := .cells #[(vS (⟨#[97]⟩ : ByteArray)), (vS (⟨#[98]⟩ : ByteArray)), (vS (⟨#[99]⟩ : ByteArray)), (vS (⟨#[100]⟩ : ByteArray))] 9) (fun b => .slice (some ⟨b, 0, none⟩) 4 4) M rfl (fun w => Step.make (by kernel_rfl)) (fun b1 w2 hb1 M => ?_)
 replace M := M.shareBlk 0 (n := 4) (size := 1) rfl rfl (by decide)
 refine WL.callX rfl (l13_planted (Value.slice (some ⟨b1, 0, none⟩) 4 4) ([(⟨#[97]⟩ : ByteArray), (⟨#[98]⟩ : ByteArray), (⟨#[99]⟩ : ByteArray), (⟨#[100]⟩ : ByteArray)] : List ByteArray) (by first | omega | decide) (M.enter0 ⟨(M.shr' 0 rfl), trivial⟩)) (CallsF.func Try.en13 rfl) ?_
 rintro _ w6 ⟨tb3, S4, rv5, rfl, m⟩
 replace M := M.leave0 m
 clear m
 have sl7 : IsSl rv5 := SlAt.isSl (Mem.rep M 0 rfl)
 have hle8 := SlAt.le' (M.rep 0 rfl)
 replace M := M.rechunk 0 (c' := tT S4 tb3 row4 4) rfl (by rw [show rowE ([(⟨#[97]⟩ : ByteArray), (⟨#[98]⟩ : ByteArray), (⟨#[99]⟩ : ByteArray), (⟨#[100]⟩ : ByteArray)] : List ByteArray) ([(⟨#[97]⟩ : ByteArray), (⟨#[98]⟩ : ByteArray), (⟨#[99]⟩ : ByteArray), (⟨#[100]⟩ : ByteArray)] : List ByteArray).length = row4 from rowE_4]; rfl)
 refine wM (Value.tuple #[(vP tb3), rv5]) (wP (vP tb3) (wP rv5 (wA (vP tb3) (wA rv5 (WL.nil (wR ?_))))))
 refine WL.callX rfl (sc_new (⟨#[98]⟩ : ByteArray) (⟨#[100]⟩ : ByteArray) false (M.enterW0 trivial)) (CallsF.func Try.en14 rfl) ?_
 rintro _ w10 ⟨sb9, rfl, m⟩
 replace M := M.leaveW0 m
 clear m
 refine wM (vP tb3) ?_
 have fq := M.frm [bk sb9 #[(vS ((⟨(⟨#[98]⟩ : ByteArray), (⟨#[100]⟩ : ByteArray), false, sZ, false⟩ : Scn).frm)), (vS ((⟨(⟨#[98]⟩ : ByteArray), (⟨#[100]⟩ : ByteArray), false, sZ, false⟩ : Scn).to_)), (vB ((⟨(⟨#[98]⟩ : ByteArray), (⟨#[100]⟩ : ByteArray), false, sZ, false⟩ : Scn).back)), (vS ((⟨(⟨#[98]⟩ : ByteArray), (⟨#[100]⟩ : ByteArray), false, sZ, false⟩ : Scn).at_)), (vB ((⟨(⟨#[98]⟩ : ByteArray), (⟨#[100]⟩ : ByteArray), false, sZ, false⟩ : Scn).told))] 88, tT S4 tb3 row4 4] [] [0, 1] rfl
 refine WL.callX rfl (sc_page sb9 (⟨(⟨#[98]⟩ : ByteArray), (⟨#[100]⟩ : ByteArray), false, sZ, false⟩ : Scn) tb3 S4 row4 4 5 (by first | assumption | omega) (M.eF fq trivial)) (CallsF.func Try.en15 rfl) ?_
 rintro _ w12 ⟨v11, rfl, m⟩
 replace M := M.lF fq m
 clear m
 have sl13 : IsSl v11 := SlAt.isSl (oW (Mem.chunk M 2 rfl).inv)
 have hle14 := SlAt.le' (oW (Mem.chunk M 2 rfl).inv)
 have hln15 : (pageL (⟨(⟨#[98]⟩ : ByteArray), (⟨#[100]⟩ : ByteArray), false, sZ, false⟩ : Scn) row4 5).length = 2 := by decide +kernel
 refine wM (Value.tuple #[v11, (vB (pageD (⟨(⟨#[98]⟩ : ByteArray), (⟨#[100]⟩ : ByteArray), false, sZ, false⟩ : Scn) row4 5))]) (wP v11 (wS (vB true) rfl (Step.cast (congrArg Value.bool (show (pageD (⟨(⟨#[98]⟩ : ByteArray), (⟨#[100]⟩ : ByteArray), false, sZ, false⟩ : Scn) row4 5) = true by decide +kernel)) sP) (wA v11 (wA (vB true) (WL.nil (W.seq' ?_))))))
 replace M := M.loseI 0
 refine W.region rfl ?_
 refine WL.callX rfl (sc_new (⟨#[98]⟩ : ByteArray) sZ true (M.enterW0 trivial)) (CallsF.func Try.en14 rfl) ?_
 rintro _ w17 ⟨sb16, rfl, m⟩
 replace M := M.leaveW0 m
 clear m
 refine wA (vP sb16) (WL.nil (wR (wM (vP sb16) (wM (vP tb3) ?_))))
 have fq := M.frm [bk sb16 #[(vS ((⟨(⟨#[98]⟩ : ByteArray), sZ, true, sZ, false⟩ : Scn).frm)), (vS ((⟨(⟨#[98]⟩ : ByteArray), sZ, true, sZ, false⟩ : Scn).to_)), (vB ((⟨(⟨#[98]⟩ : ByteArray), sZ, true, sZ, false⟩ : Scn).back)), (vS ((⟨(⟨#[98]⟩ : ByteArray), sZ, true, sZ, false⟩ : Scn).at_)), (vB ((⟨(⟨#[98]⟩ : ByteArray), sZ, true, sZ, false⟩ : Scn).told))] 88, tT S4 tb3 row4 4] [oR v11 (pageL (⟨(⟨#[98]⟩ : ByteArray), (⟨#[100]⟩ : ByteArray), false, sZ, false⟩ : Scn) row4 5)] [0, 1, 2] rfl
 refine WL.callX rfl (sc_page sb16 (⟨(⟨#[98]⟩ : ByteArray), sZ, true, sZ, false⟩ : Scn) tb3 S4 row4 4 2 (by first | assumption | omega) (M.eF fq trivial)) (CallsF.func Try.en15 rfl) ?_
 rintro _ w19 ⟨v18, rfl, m⟩
 replace M := M.lF fq m
 clear m
 have sl20 : IsSl v18 := SlAt.isSl (oW (Mem.chunk M 2 rfl).inv)
 have hle21 := SlAt.le' (oW (Mem.chunk M 2 rfl).inv)
 have hln22 : (pageL (⟨(⟨#[98]⟩ : ByteArray), sZ, true, sZ, false⟩ : Scn) row4 2).length = 2 := by decide +kernel
 refine wM (Value.tuple #[v18, (vB (pageD (⟨(⟨#[98]⟩ : ByteArray), sZ, true, sZ, false⟩ : Scn) row4 2))]) (wP v18 (wS (vB false) rfl (Step.cast (congrArg Value.bool (show (pageD (⟨(⟨#[98]⟩ : ByteArray), sZ, true, sZ, false⟩ : Scn) row4 2) = false by decide +kernel)) sP) (wA v18 (wA (vB false) (WL.nil (wR (wM (vP sb16) (wM (vP tb3) ?_))))))))
 have fq := M.frm [bk sb16 #[(vS ((pageS (⟨(⟨#[98]⟩ : ByteArray), sZ, true, sZ, false⟩ : Scn) row4 2).frm)), (vS ((pageS (⟨(⟨#[98]⟩ : ByteArray), sZ, true, sZ, false⟩ : Scn) row4 2).to_)), (vB ((pageS (⟨(⟨#[98]⟩ : ByteArray), sZ, true, sZ, false⟩ : Scn) row4 2).back)), (vS ((pageS (⟨(⟨#[98]⟩ : ByteArray), sZ, true, sZ, false⟩ : Scn) row4 2).at_)), (vB ((pageS (⟨(⟨#[98]⟩ : ByteArray), sZ, true, sZ, false⟩ : Scn) row4 2).told))] 88, tT S4 tb3 row4 4] [oR v18 (pageL (⟨(⟨#[98]⟩ : ByteArray), sZ, true, sZ, false⟩ : Scn) row4 2), oR v11 (pageL (⟨(⟨#[98]⟩ : ByteArray), (⟨#[100]⟩ : ByteArray), false, sZ, false⟩ : Scn) row4 5)] [0, 1, 2, 3] rfl
 refine WL.callX rfl (sc_next sb16 (pageS (⟨(⟨#[98]⟩ : ByteArray), sZ, true, sZ, false⟩ : Scn) row4 2) tb3 S4 row4 4 (by first | assumption | omega) (M.eF fq trivial)) (CallsF.func Try.en24 rfl) ?_
 rintro _ w23 ⟨rfl, m⟩
 replace M := M.lF fq m
 clear m
 refine wM (Value.tuple #[(Value.agg #[(vS (((peekR (pageS (⟨(⟨#[98]⟩ : ByteArray), sZ, true, sZ, false⟩ : Scn) row4 2) row4).1).key)), (vI (((peekR (pageS (⟨(⟨#[98]⟩ : ByteArray), sZ, true, sZ, false⟩ : Scn) row4 2) row4).1).val))]), (vB ((peekR (pageS (⟨(⟨#[98]⟩ : ByteArray), sZ, true, sZ, false⟩ : Scn) row4 2) row4).2))]) (wP (Value.agg #[(vS (((peekR (pageS (⟨(⟨#[98]⟩ : ByteArray), sZ, true, sZ, false⟩ : Scn) row4 2) row4).1).key)), (vI (((peekR (pageS (⟨(⟨#[98]⟩ : ByteArray), sZ, true, sZ, false⟩ : Scn) row4 2) row4).1).val))]) (wS (vB true) rfl (Step.cast (congrArg Value.bool (show ((peekR (pageS (⟨(⟨#[98]⟩ : ByteArray), sZ, true, sZ, false⟩ : Scn) row4 2) row4).2) = true by decide +kernel)) sP) ?_))
 refine WL.alloc (c := #[(vS sZ), (vI 0)]) M rfl Try.el41.zero rfl (fun b24 w25 hb24 M => ?_)
 refine WL.store (v := (Value.agg #[(vS (((peekR (pageS (⟨(⟨#[98]⟩ : ByteArray), sZ, true, sZ, false⟩ : Scn) row4 2) row4).1).key)), (vI (((peekR (pageS (⟨(⟨#[98]⟩ : ByteArray), sZ, true, sZ, false⟩ : Scn) row4 2) row4).1).val))])) (cs := [(vS (((peekR (pageS (⟨(⟨#[98]⟩ : ByteArray), sZ, true, sZ, false⟩ : Scn) row4 2) row4).1).key)), (vI (((peekR (pageS (⟨(⟨#[98]⟩ : ByteArray), sZ, true, sZ, false⟩ : Scn) row4 2) row4).1).val))]) (c' := #[(vS (((peekR (pageS (⟨(⟨#[98]⟩ : ByteArray), sZ, true, sZ, false⟩ : Scn) row4 2) row4).1).key)), (vI (((peekR (pageS (⟨(⟨#[98]⟩ : ByteArray), sZ, true, sZ, false⟩ : Scn) row4 2) row4).1).val))]) M 0 rfl rfl Try.el41.sized rfl rfl rfl rfl (nL rfl) (cC rfl (cC rfl cel_nil)) rfl rfl (fun w26 M => ?_)
 refine wA (vB true) (WL.nil (wR (wM (vP sb16) (wM (vP tb3) ?_))))
 have fq := M.frm [bk sb16 #[(vS ((nextR (pageS (⟨(⟨#[98]⟩ : ByteArray), sZ, true, sZ, false⟩ : Scn) row4 2) row4).frm)), (vS ((nextR (pageS (⟨(⟨#[98]⟩ : ByteArray), sZ, true, sZ, false⟩ : Scn) row4 2) row4).to_)), (vB ((nextR (pageS (⟨(⟨#[98]⟩ : ByteArray), sZ, true, sZ, false⟩ : Scn) row4 2) row4).back)), (vS ((nextR (pageS (⟨(⟨#[98]⟩ : ByteArray), sZ, true, sZ, false⟩ : Scn) row4 2) row4).at_)), (vB ((nextR (pageS (⟨(⟨#[98]⟩ : ByteArray), sZ, true, sZ, false⟩ : Scn) row4 2) row4).told))] 88, tT S4 tb3 row4 4] [bk b24 #[(vS (((peekR (pageS (⟨(⟨#[98]⟩ : ByteArray), sZ, true, sZ, false⟩ : Scn) row4 2) row4).1).key)), (vI (((peekR (pageS (⟨(⟨#[98]⟩ : ByteArray), sZ, true, sZ, false⟩ : Scn) row4 2) row4).1).val))] 41, oR v18 (pageL (⟨(⟨#[98]⟩ : ByteArray), sZ, true, sZ, false⟩ : Scn) row4 2), oR v11 (pageL (⟨(⟨#[98]⟩ : ByteArray), (⟨#[100]⟩ : ByteArray), false, sZ, false⟩ : Scn) row4 5)] [1, 2, 0, 3, 4] rfl
 refine WL.callX rfl (sc_next sb16 (nextR (pageS (⟨(⟨#[98]⟩ : ByteArray), sZ, true, sZ, false⟩ : Scn) row4 2) row4) tb3 S4 row4 4 (by first | assumption | omega) (M.eF fq trivial)) (CallsF.func Try.en24 rfl) ?_
 rintro _ w27 ⟨rfl, m⟩
 replace M := M.lF fq m
 clear m
 refine wM (Value.tuple #[(Value.agg #[(vS (((peekR (nextR (pageS (⟨(⟨#[98]⟩ : ByteArray), sZ, true, sZ, false⟩ : Scn) row4 2) row4) row4).1).key)), (vI (((peekR (nextR (pageS (⟨(⟨#[98]⟩ : ByteArray), sZ, true, sZ, false⟩ : Scn) row4 2) row4) row4).1).val))]), (vB ((peekR (nextR (pageS (⟨(⟨#[98]⟩ : ByteArray), sZ, true, sZ, false⟩ : Scn) row4 2) row4) row4).2))]) (wP (Value.agg #[(vS (((peekR (nextR (pageS (⟨(⟨#[98]⟩ : ByteArray), sZ, true, sZ, false⟩ : Scn) row4 2) row4) row4).1).key)), (vI (((peekR (nextR (pageS (⟨(⟨#[98]⟩ : ByteArray), sZ, true, sZ, false⟩ : Scn) row4 2) row4) row4).1).val))]) (wS (vB false) rfl (Step.cast (congrArg Value.bool (show ((peekR (nextR (pageS (⟨(⟨#[98]⟩ : ByteArray), sZ, true, sZ, false⟩ : Scn) row4 2) row4) row4).2) = false by decide +kernel)) sP) ?_))
 refine WL.alloc (c := #[(vS sZ), (vI 0)]) M rfl Try.el41.zero rfl (fun b28 w29 hb28 M => ?_)
 refine WL.store (v := (Value.agg #[(vS (((peekR (nextR (pageS (⟨(⟨#[98]⟩ : ByteArray), sZ, true, sZ, false⟩ : Scn) row4 2) row4) row4).1).key)), (vI (((peekR (nextR (pageS (⟨(⟨#[98]⟩ : ByteArray), sZ, true, sZ, false⟩ : Scn) row4 2) row4) row4).1).val))])) (cs := [(vS (((peekR (nextR (pageS (⟨(⟨#[98]⟩ : ByteArray), sZ, true, sZ, false⟩ : Scn) row4 2) row4) row4).1).key)), (vI (((peekR (nextR (pageS (⟨(⟨#[98]⟩ : ByteArray), sZ, true, sZ, false⟩ : Scn) row4 2) row4) row4).1).val))]) (c' := #[(vS (((peekR (nextR (pageS (⟨(⟨#[98]⟩ : ByteArray), sZ, true, sZ, false⟩ : Scn) row4 2) row4) row4).1).key)), (vI (((peekR (nextR (pageS (⟨(⟨#[98]⟩ : ByteArray), sZ, true, sZ, false⟩ : Scn) row4 2) row4) row4).1).val))]) M 0 rfl rfl Try.el41.sized rfl rfl rfl rfl (nL rfl) (cC rfl (cC rfl cel_nil)) rfl rfl (fun w30 M => ?_)
 refine wA (vB false) (WL.nil (W.seq' ?_))
 replace M := M.loseI 1
 replace M := M.loseI 0
 refine W.region rfl ?_
 refine WL.callX rfl (sc_new (⟨#[97]⟩ : ByteArray) sZ false (M.enterW0 trivial)) (CallsF.func Try.en14 rfl) ?_
 rintro _ w32 ⟨sb31, rfl, m⟩
 replace M := M.leaveW0 m
 clear m
 refine wA (vP sb31) (WL.nil (wR (wM (vP sb31) (wM (vP tb3) ?_))))
 have fq := M.frm [bk sb31 #[(vS ((⟨(⟨#[97]⟩ : ByteArray), sZ, false, sZ, false⟩ : Scn).frm)), (vS ((⟨(⟨#[97]⟩ : ByteArray), sZ, false, sZ, false⟩ : Scn).to_)), (vB ((⟨(⟨#[97]⟩ : ByteArray), sZ, false, sZ, false⟩ : Scn).back)), (vS ((⟨(⟨#[97]⟩ : ByteArray), sZ, false, sZ, false⟩ : Scn).at_)), (vB ((⟨(⟨#[97]⟩ : ByteArray), sZ, false, sZ, false⟩ : Scn).told))] 88, tT S4 tb3 row4 4] [bk b24 #[(vS (((peekR (pageS (⟨(⟨#[98]⟩ : ByteArray), sZ, true, sZ, false⟩ : Scn) row4 2) row4).1).key)), (vI (((peekR (pageS (⟨(⟨#[98]⟩ : ByteArray), sZ, true, sZ, false⟩ : Scn) row4 2) row4).1).val))] 41, oR v18 (pageL (⟨(⟨#[98]⟩ : ByteArray), sZ, true, sZ, false⟩ : Scn) row4 2), oR v11 (pageL (⟨(⟨#[98]⟩ : ByteArray), (⟨#[100]⟩ : ByteArray), false, sZ, false⟩ : Scn) row4 5)] [0, 1, 2, 3, 4] rfl
 refine WL.callX rfl (sc_next sb31 (⟨(⟨#[97]⟩ : ByteArray), sZ, false, sZ, false⟩ : Scn) tb3 S4 row4 4 (by first | assumption | omega) (M.eF fq trivial)) (CallsF.func Try.en24 rfl) ?_
 rintro _ w33 ⟨rfl, m⟩
 replace M := M.lF fq m
 clear m
 refine wM (Value.tuple #[(Value.agg #[(vS (((peekR (⟨(⟨#[97]⟩ : ByteArray), sZ, false, sZ, false⟩ : Scn) row4).1).key)), (vI (((peekR (⟨(⟨#[97]⟩ : ByteArray), sZ, false, sZ, false⟩ : Scn) row4).1).val))]), (vB ((peekR (⟨(⟨#[97]⟩ : ByteArray), sZ, false, sZ, false⟩ : Scn) row4).2))]) (wP (Value.agg #[(vS (((peekR (⟨(⟨#[97]⟩ : ByteArray), sZ, false, sZ, false⟩ : Scn) row4).1).key)), (vI (((peekR (⟨(⟨#[97]⟩ : ByteArray), sZ, false, sZ, false⟩ : Scn) row4).1).val))]) (wS (vB true) rfl (Step.cast (congrArg Value.bool (show ((peekR (⟨(⟨#[97]⟩ : ByteArray), sZ, false, sZ, false⟩ : Scn) row4).2) = true by decide +kernel)) sP) ?_))
 refine WL.alloc (c := #[(vS sZ), (vI 0)]) M rfl Try.el41.zero rfl (fun b34 w35 hb34 M => ?_)
 refine WL.store (v := (Value.agg #[(vS (((peekR (⟨(⟨#[97]⟩ : ByteArray), sZ, false, sZ, false⟩ : Scn) row4).1).key)), (vI (((peekR (⟨(⟨#[97]⟩ : ByteArray), sZ, false, sZ, false⟩ : Scn) row4).1).val))])) (cs := [(vS (((peekR (⟨(⟨#[97]⟩ : ByteArray), sZ, false, sZ, false⟩ : Scn) row4).1).key)), (vI (((peekR (⟨(⟨#[97]⟩ : ByteArray), sZ, false, sZ, false⟩ : Scn) row4).1).val))]) (c' := #[(vS (((peekR (⟨(⟨#[97]⟩ : ByteArray), sZ, false, sZ, false⟩ : Scn) row4).1).key)), (vI (((peekR (⟨(⟨#[97]⟩ : ByteArray), sZ, false, sZ, false⟩ : Scn) row4).1).val))]) M 0 rfl rfl Try.el41.sized rfl rfl rfl rfl (nL rfl) (cC rfl (cC rfl cel_nil)) rfl rfl (fun w36 M => ?_)
 refine wA (vB true) (WL.nil (wR (wM (vP tb3) ?_)))
 have fq := M.frm [tT S4 tb3 row4 4] [bk b34 #[(vS (((peekR (⟨(⟨#[97]⟩ : ByteArray), sZ, false, sZ, false⟩ : Scn) row4).1).key)), (vI (((peekR (⟨(⟨#[97]⟩ : ByteArray), sZ, false, sZ, false⟩ : Scn) row4).1).val))] 41, bk sb31 #[(vS ((nextR (⟨(⟨#[97]⟩ : ByteArray), sZ, false, sZ, false⟩ : Scn) row4).frm)), (vS ((nextR (⟨(⟨#[97]⟩ : ByteArray), sZ, false, sZ, false⟩ : Scn) row4).to_)), (vB ((nextR (⟨(⟨#[97]⟩ : ByteArray), sZ, false, sZ, false⟩ : Scn) row4).back)), (vS ((nextR (⟨(⟨#[97]⟩ : ByteArray), sZ, false, sZ, false⟩ : Scn) row4).at_)), (vB ((nextR (⟨(⟨#[97]⟩ : ByteArray), sZ, false, sZ, false⟩ : Scn) row4).told))] 88, bk b24 #[(vS (((peekR (pageS (⟨(⟨#[98]⟩ : ByteArray), sZ, true, sZ, false⟩ : Scn) row4 2) row4).1).key)), (vI (((peekR (pageS (⟨(⟨#[98]⟩ : ByteArray), sZ, true, sZ, false⟩ : Scn) row4 2) row4).1).val))] 41, oR v18 (pageL (⟨(⟨#[98]⟩ : ByteArray), sZ, true, sZ, false⟩ : Scn) row4 2), oR v11 (pageL (⟨(⟨#[98]⟩ : ByteArray), (⟨#[100]⟩ : ByteArray), false, sZ, false⟩ : Scn) row4 5)] [2, 0, 1, 3, 4, 5] rfl
 refine WL.callX rfl (T_delete tb3 S4 row4 4 (⟨#[98]⟩ : ByteArray) (by first | assumption | omega) (M.eF fq trivial)) (CallsF.func Try.en19 rfl) ?_
 rintro _ w38 ⟨S37, rfl, m⟩
 replace M := M.lF fq m
 clear m
 refine WL.nil (wR (wM (vP tb3) ?_))
 have fq := M.frm [tT S37 tb3 (delL row4 (⟨#[98]⟩ : ByteArray)) 4] [bk b34 #[(vS (((peekR (⟨(⟨#[97]⟩ : ByteArray), sZ, false, sZ, false⟩ : Scn) row4).1).key)), (vI (((peekR (⟨(⟨#[97]⟩ : ByteArray), sZ, false, sZ, false⟩ : Scn) row4).1).val))] 41, bk sb31 #[(vS ((nextR (⟨(⟨#[97]⟩ : ByteArray), sZ, false, sZ, false⟩ : Scn) row4).frm)), (vS ((nextR (⟨(⟨#[97]⟩ : ByteArray), sZ, false, sZ, false⟩ : Scn) row4).to_)), (vB ((nextR (⟨(⟨#[97]⟩ : ByteArray), sZ, false, sZ, false⟩ : Scn) row4).back)), (vS ((nextR (⟨(⟨#[97]⟩ : ByteArray), sZ, false, sZ, false⟩ : Scn) row4).at_)), (vB ((nextR (⟨(⟨#[97]⟩ : ByteArray), sZ, false, sZ, false⟩ : Scn) row4).told))] 88, bk b24 #[(vS (((peekR (pageS (⟨(⟨#[98]⟩ : ByteArray), sZ, true, sZ, false⟩ : Scn) row4 2) row4).1).key)), (vI (((peekR (pageS (⟨(⟨#[98]⟩ : ByteArray), sZ, true, sZ, false⟩ : Scn) row4 2) row4).1).val))] 41, oR v18 (pageL (⟨(⟨#[98]⟩ : ByteArray), sZ, true, sZ, false⟩ : Scn) row4 2), oR v11 (pageL (⟨(⟨#[98]⟩ : ByteArray), (⟨#[100]⟩ : ByteArray), false, sZ, false⟩ : Scn) row4 5)] [0, 1, 2, 3, 4, 5] rfl
 refine WL.callX rfl (T_delete tb3 S37 (delL row4 (⟨#[98]⟩ : ByteArray)) 4 (⟨#[99]⟩ : ByteArray) (by first | assumption | omega) (M.eF fq trivial)) (CallsF.func Try.en19 rfl) ?_
 rintro _ w40 ⟨S39, rfl, m⟩
 replace M := M.lF fq m
 clear m
 refine WL.nil (wR (wM (vP sb31) (wM (vP tb3) ?_)))
 have fq := M.frm [bk sb31 #[(vS ((nextR (⟨(⟨#[97]⟩ : ByteArray), sZ, false, sZ, false⟩ : Scn) row4).frm)), (vS ((nextR (⟨(⟨#[97]⟩ : ByteArray), sZ, false, sZ, false⟩ : Scn) row4).to_)), (vB ((nextR (⟨(⟨#[97]⟩ : ByteArray), sZ, false, sZ, false⟩ : Scn) row4).back)), (vS ((nextR (⟨(⟨#[97]⟩ : ByteArray), sZ, false, sZ, false⟩ : Scn) row4).at_)), (vB ((nextR (⟨(⟨#[97]⟩ : ByteArray), sZ, false, sZ, false⟩ : Scn) row4).told))] 88, tT S39 tb3 (delL (delL row4 (⟨#[98]⟩ : ByteArray)) (⟨#[99]⟩ : ByteArray)) 4] [bk b34 #[(vS (((peekR (⟨(⟨#[97]⟩ : ByteArray), sZ, false, sZ, false⟩ : Scn) row4).1).key)), (vI (((peekR (⟨(⟨#[97]⟩ : ByteArray), sZ, false, sZ, false⟩ : Scn) row4).1).val))] 41, bk b24 #[(vS (((peekR (pageS (⟨(⟨#[98]⟩ : ByteArray), sZ, true, sZ, false⟩ : Scn) row4 2) row4).1).key)), (vI (((peekR (pageS (⟨(⟨#[98]⟩ : ByteArray), sZ, true, sZ, false⟩ : Scn) row4 2) row4).1).val))] 41, oR v18 (pageL (⟨(⟨#[98]⟩ : ByteArray), sZ, true, sZ, false⟩ : Scn) row4 2), oR v11 (pageL (⟨(⟨#[98]⟩ : ByteArray), (⟨#[100]⟩ : ByteArray), false, sZ, false⟩ : Scn) row4 5)] [2, 0, 1, 3, 4, 5] rfl
 refine WL.callX rfl (sc_next sb31 (nextR (⟨(⟨#[97]⟩ : ByteArray), sZ, false, sZ, false⟩ : Scn) row4) tb3 S39 (delL (delL row4 (⟨#[98]⟩ : ByteArray)) (⟨#[99]⟩ : ByteArray)) 4 (by first | assumption | omega) (M.eF fq trivial)) (CallsF.func Try.en24 rfl) ?_
 rintro _ w41 ⟨rfl, m⟩
 replace M := M.lF fq m
 clear m
 refine wM (Value.tuple #[(Value.agg #[(vS (((peekR (nextR (⟨(⟨#[97]⟩ : ByteArray), sZ, false, sZ, false⟩ : Scn) row4) (delL (delL row4 (⟨#[98]⟩ : ByteArray)) (⟨#[99]⟩ : ByteArray))).1).key)), (vI (((peekR (nextR (⟨(⟨#[97]⟩ : ByteArray), sZ, false, sZ, false⟩ : Scn) row4) (delL (delL row4 (⟨#[98]⟩ : ByteArray)) (⟨#[99]⟩ : ByteArray))).1).val))]), (vB ((peekR (nextR (⟨(⟨#[97]⟩ : ByteArray), sZ, false, sZ, false⟩ : Scn) row4) (delL (delL row4 (⟨#[98]⟩ : ByteArray)) (⟨#[99]⟩ : ByteArray))).2))]) (wP (Value.agg #[(vS (((peekR (nextR (⟨(⟨#[97]⟩ : ByteArray), sZ, false, sZ, false⟩ : Scn) row4) (delL (delL row4 (⟨#[98]⟩ : ByteArray)) (⟨#[99]⟩ : ByteArray))).1).key)), (vI (((peekR (nextR (⟨(⟨#[97]⟩ : ByteArray), sZ, false, sZ, false⟩ : Scn) row4) (delL (delL row4 (⟨#[98]⟩ : ByteArray)) (⟨#[99]⟩ : ByteArray))).1).val))]) (wS (vB true) rfl (Step.cast (congrArg Value.bool (show ((peekR (nextR (⟨(⟨#[97]⟩ : ByteArray), sZ, false, sZ, false⟩ : Scn) row4) (delL (delL row4 (⟨#[98]⟩ : ByteArray)) (⟨#[99]⟩ : ByteArray))).2) = true by decide +kernel)) sP) ?_))
 refine WL.alloc (c := #[(vS sZ), (vI 0)]) M rfl Try.el41.zero rfl (fun b42 w43 hb42 M => ?_)
 refine WL.store (v := (Value.agg #[(vS (((peekR (nextR (⟨(⟨#[97]⟩ : ByteArray), sZ, false, sZ, false⟩ : Scn) row4) (delL (delL row4 (⟨#[98]⟩ : ByteArray)) (⟨#[99]⟩ : ByteArray))).1).key)), (vI (((peekR (nextR (⟨(⟨#[97]⟩ : ByteArray), sZ, false, sZ, false⟩ : Scn) row4) (delL (delL row4 (⟨#[98]⟩ : ByteArray)) (⟨#[99]⟩ : ByteArray))).1).val))])) (cs := [(vS (((peekR (nextR (⟨(⟨#[97]⟩ : ByteArray), sZ, false, sZ, false⟩ : Scn) row4) (delL (delL row4 (⟨#[98]⟩ : ByteArray)) (⟨#[99]⟩ : ByteArray))).1).key)), (vI (((peekR (nextR (⟨(⟨#[97]⟩ : ByteArray), sZ, false, sZ, false⟩ : Scn) row4) (delL (delL row4 (⟨#[98]⟩ : ByteArray)) (⟨#[99]⟩ : ByteArray))).1).val))]) (c' := #[(vS (((peekR (nextR (⟨(⟨#[97]⟩ : ByteArray), sZ, false, sZ, false⟩ : Scn) row4) (delL (delL row4 (⟨#[98]⟩ : ByteArray)) (⟨#[99]⟩ : ByteArray))).1).key)), (vI (((peekR (nextR (⟨(⟨#[97]⟩ : ByteArray), sZ, false, sZ, false⟩ : Scn) row4) (delL (delL row4 (⟨#[98]⟩ : ByteArray)) (⟨#[99]⟩ : ByteArray))).1).val))]) M 0 rfl rfl Try.el41.sized rfl rfl rfl rfl (nL rfl) (cC rfl (cC rfl cel_nil)) rfl rfl (fun w44 M => ?_)
 refine wA (vB true) (WL.nil (wR (wM v11 (wS (vI (↑((pageL (⟨(⟨#[98]⟩ : ByteArray), (⟨#[100]⟩ : ByteArray), false, sZ, false⟩ : Scn) row4 5).length))) rfl (Step.lenSl Try.un34 rfl (oW (M.chunk 6 rfl).inv)) (wS (vB true) rfl (Step.cast (congrArg Value.bool (show ((↑((pageL (⟨(⟨#[98]⟩ : ByteArray), (⟨#[100]⟩ : ByteArray), false, sZ, false⟩ : Scn) row4 5).length) : Int) == (2 : Int)) = true by decide +kernel)) sP) (wM (vB true) (wM v11 ?_)))))))
 obtain ⟨cap46, hb45⟩ := SlAt.base (oW (M.chunk 6 rfl).inv) (by omega)
 obtain ⟨x47, hx47⟩ := elem_of_lt (xs := pageL (⟨(⟨#[98]⟩ : ByteArray), (⟨#[100]⟩ : ByteArray), false, sZ, false⟩ : Scn) row4 5) (i := 0) (by omega)
 have hlit_x47 : x47 = (⟨⟨#[98]⟩, 1⟩ : THit) := Option.some.inj (hx47.symm.trans (by decide +kernel))
 refine wS (vQ v11 0 2) rfl (sX 0 Try.un34 Try.el41 rfl rfl hb45 rfl) (wP (vQ v11 0 2) (wS (vS x47.key) rfl (Step.loadE (k := 0) Try.sc9 (flat_ec (oW (M.chunk 6 rfl).inv) hx47 hitE_len) (by decide) rfl rfl) (wS (vB true) rfl (Step.cast (congrArg Value.bool (show (x47.key.toList == (⟨#[98]⟩ : ByteArray).toList) = true by rw [hlit_x47]; decide +kernel)) sP) (wS (vB true) rfl (Step.pick (t := true) rfl rfl) (wM (vB true) (wM v11 ?_))))))
 obtain ⟨x48, hx48⟩ := elem_of_lt (xs := pageL (⟨(⟨#[98]⟩ : ByteArray), (⟨#[100]⟩ : ByteArray), false, sZ, false⟩ : Scn) row4 5) (i := 1) (by omega)
 have hlit_x48 : x48 = (⟨⟨#[99]⟩, 2⟩ : THit) := Option.some.inj (hx48.symm.trans (by decide +kernel))
 refine wS (vQ v11 1 2) rfl (sX 1 Try.un34 Try.el41 rfl rfl hb45 rfl) (wP (vQ v11 1 2) (wS (vS x48.key) rfl (Step.loadE (k := 0) Try.sc9 (flat_ec (oW (M.chunk 6 rfl).inv) hx48 hitE_len) (by decide) rfl rfl) (wS (vB true) rfl (Step.cast (congrArg Value.bool (show (x48.key.toList == (⟨#[99]⟩ : ByteArray).toList) = true by rw [hlit_x48]; decide +kernel)) sP) (wS (vB true) rfl (Step.pick (t := true) rfl rfl) (wM (vB true) (wM (vB true) (wS (vB true) rfl (Step.pick (t := true) rfl rfl) (wM (vB true) (wM v18 (wS (vI (↑((pageL (⟨(⟨#[98]⟩ : ByteArray), sZ, true, sZ, false⟩ : Scn) row4 2).length))) rfl (Step.lenSl Try.un34 rfl (oW (M.chunk 5 rfl).inv)) (wS (vB true) rfl (Step.cast (congrArg Value.bool (show ((↑((pageL (⟨(⟨#[98]⟩ : ByteArray), sZ, true, sZ, false⟩ : Scn) row4 2).length) : Int) == (2 : Int)) = true by decide +kernel)) sP) (wS (vB true) rfl (Step.pick (t := true) rfl rfl) (wM (vB true) (wM v18 ?_))))))))))))))
 obtain ⟨cap50, hb49⟩ := SlAt.base (oW (M.chunk 5 rfl).inv) (by omega)
 obtain ⟨x51, hx51⟩ := elem_of_lt (xs := pageL (⟨(⟨#[98]⟩ : ByteArray), sZ, true, sZ, false⟩ : Scn) row4 2) (i := 0) (by omega)
 have hlit_x51 : x51 = (⟨⟨#[100]⟩, 3⟩ : THit) := Option.some.inj (hx51.symm.trans (by decide +kernel))
 refine wS (vQ v18 0 2) rfl (sX 0 Try.un34 Try.el41 rfl rfl hb49 rfl) (wP (vQ v18 0 2) (wS (vS x51.key) rfl (Step.loadE (k := 0) Try.sc9 (flat_ec (oW (M.chunk 5 rfl).inv) hx51 hitE_len) (by decide) rfl rfl) (wS (vB true) rfl (Step.cast (congrArg Value.bool (show (x51.key.toList == (⟨#[100]⟩ : ByteArray).toList) = true by rw [hlit_x51]; decide +kernel)) sP) (wS (vB true) rfl (Step.pick (t := true) rfl rfl) (wM (vB true) (wM v18 ?_))))))
 obtain ⟨x52, hx52⟩ := elem_of_lt (xs := pageL (⟨(⟨#[98]⟩ : ByteArray), sZ, true, sZ, false⟩ : Scn) row4 2) (i := 1) (by omega)
 have hlit_x52 : x52 = (⟨⟨#[99]⟩, 2⟩ : THit) := Option.some.inj (hx52.symm.trans (by decide +kernel))
 refine wS (vQ v18 1 2) rfl (sX 1 Try.un34 Try.el41 rfl rfl hb49 rfl) (wP (vQ v18 1 2) (wS (vS x52.key) rfl (Step.loadE (k := 0) Try.sc9 (flat_ec (oW (M.chunk 5 rfl).inv) hx52 hitE_len) (by decide) rfl rfl) (wS (vB true) rfl (Step.cast (congrArg Value.bool (show (x52.key.toList == (⟨#[99]⟩ : ByteArray).toList) = true by rw [hlit_x52]; decide +kernel)) sP) (wS (vB true) rfl (Step.pick (t := true) rfl rfl) (wM (vB true) (wM (vB false) (wP (vB true) (wS (vB true) rfl (Step.pick (t := true) rfl rfl) (wM (vB true) (wP (vP b24) (wS (vS (((peekR (pageS (⟨(⟨#[98]⟩ : ByteArray), sZ, true, sZ, false⟩ : Scn) row4 2) row4).1).key)) rfl (Step.load1 Try.sc9 rfl ((M.cell 4 rfl 0).trans rfl)) (wS (vB true) rfl (Step.cast (congrArg Value.bool (show ((((peekR (pageS (⟨(⟨#[98]⟩ : ByteArray), sZ, true, sZ, false⟩ : Scn) row4 2) row4).1).key).toList == (⟨#[98]⟩ : ByteArray).toList) = true by decide +kernel)) sP) (wS (vB true) rfl (Step.pick (t := true) rfl rfl) (wM (vB true) (wM (vB true) (wS (vB true) rfl (Step.pick (t := true) rfl rfl) (wM (vB true) (wM (vB false) (wP (vB true) (wS (vB true) rfl (Step.pick (t := true) rfl rfl) (wM (vB true) (wP (vP b34) (wS (vS (((peekR (⟨(⟨#[97]⟩ : ByteArray), sZ, false, sZ, false⟩ : Scn) row4).1).key)) rfl (Step.load1 Try.sc9 rfl ((M.cell 3 rfl 0).trans rfl)) ?_)))))))))))))))))))))))
 refine wS (vB true) rfl (Step.cast (congrArg Value.bool (show ((((peekR (⟨(⟨#[97]⟩ : ByteArray), sZ, false, sZ, false⟩ : Scn) row4).1).key).toList == (⟨#[97]⟩ : ByteArray).toList) = true by decide +kernel)) sP) (wS (vB true) rfl (Step.pick (t := true) rfl rfl) (wM (vB true) (wM (vB true) (wS (vB true) rfl (Step.pick (t := true) rfl rfl) (wM (vB true) (wP (vP b42) (wS (vS (((peekR (nextR (⟨(⟨#[97]⟩ : ByteArray), sZ, false, sZ, false⟩ : Scn) row4) (delL (delL row4 (⟨#[98]⟩ : ByteArray)) (⟨#[99]⟩ : ByteArray))).1).key)) rfl (Step.load1 Try.sc9 rfl ((M.cell 0 rfl 0).trans rfl)) (wS (vB true) rfl (Step.cast (congrArg Value.bool (show ((((peekR (nextR (⟨(⟨#[97]⟩ : ByteArray), sZ, false, sZ, false⟩ : Scn) row4) (delL (delL row4 (⟨#[98]⟩ : ByteArray)) (⟨#[99]⟩ : ByteArray))).1).key).toList == (⟨#[100]⟩ : ByteArray).toList) = true by decide +kernel)) sP) (wS (vB true) rfl (Step.pick (t := true) rfl rfl) (wM (vB true) (wM (vB true) (wS (vB true) rfl (Step.pick (t := true) rfl rfl) (wA (vB true) (WL.nil ?_))))))))))))))
 refine W.ret ?_
 refine ⟨.inl rfl, (vB true), ?_, ?_⟩
 · exact ⟨rfl, (Res.r1 (show RV _ _ _ (.tmp 0) (vB true) from by exact rfl))⟩
 refine ⟨?_, M.close [] rfl (by decide) trivial⟩
 rfl
end Go.Proofs
set_option maxRecDepth 100000
namespace Go.Proofs
open Go Tp
theorem Try.ag31 : Aggr Try.prog 31 3 := ⟨fun _ => by kernel_rfl, fun _ => by kernel_rfl⟩
theorem Try.en11 : Enters Try.prog 11 := fun _ _ => by kernel_rfl
theorem Try.en12 : Enters Try.prog 12 := fun _ _ => by kernel_rfl
theorem Try.en20 : Enters Try.prog 20 := fun _ _ => by kernel_rfl
theorem Try.en21 : Enters Try.prog 21 := fun _ _ => by kernel_rfl
theorem Try.en22 : Enters Try.prog 22 := fun _ _ => by kernel_rfl
theorem Try.en23 : Enters Try.prog 23 := fun _ _ => by kernel_rfl
theorem law13_none {G : Nat → Prop} {w : World} (f : ByteArray) (k : ByteArray) (b : Bool) (n : Int)   (M : Mem G (fun _ => False) w [] [] w) : Rets Try.prog 5 #[(vS f), (vS k), (vB b), (vI n)] w fun r w' => r = (vB true) ∧ Mem G (fun _ => False) w [] [] w' := by
 refine Rets.enter 130 _ Try.func5 rfl Try.ntmps5 Try.results5 (by simp) ?_
 refine wR (wA (vB false) (WL.nil (wR (wA vN (WL.nil (wR ?_))))))
 refine WL.new (obj := .cells #[(vS (⟨#[97]⟩ : ByteArray))] 9) (fun b => .slice (some ⟨b, 0, none⟩) 1 1) M rfl (fun w => Step.make (by kernel_rfl)) (fun b1 w2 hb1 M => ?_)
 replace M := M.shareBlk 0 (n := 1) (size := 1) rfl rfl (by decide)
 refine WL.callX rfl (l13_planted (Value.slice (some ⟨b1, 0, none⟩) 1 1) ([(⟨#[97]⟩ : ByteArray)] : List ByteArray) (by first | omega | decide) (M.enter0 ⟨(M.shr' 0 rfl), trivial⟩)) (CallsF.func Try.en13 rfl) ?_
 rintro _ w6 ⟨tb3, S4, rv5, rfl, m⟩
 replace M := M.leave0 m
 clear m
 have sl7 : IsSl rv5 := SlAt.isSl (Mem.rep M 0 rfl)
 have hle8 := SlAt.le' (M.rep 0 rfl)
 refine wM (Value.tuple #[(vP tb3), rv5]) (wP (vP tb3) (wP rv5 (wA (vP tb3) (wA rv5 (WL.nil (wR (wM vN (wM (vP tb3) ?_))))))))
 refine WL.callX rfl (sc_next_n (vP tb3) (M.enterW0 trivial)) (CallsF.func Try.en24 rfl) ?_
 rintro _ w9 ⟨rfl, m⟩
 replace M := M.leaveW0 m
 clear m
 refine wM (Value.tuple #[(Value.agg #[(vS sZ), (vI 0)]), (vB false)]) (wP (Value.agg #[(vS sZ), (vI 0)]) (wP (vB false) ?_))
 refine WL.alloc (c := #[(vS sZ), (vI 0)]) M rfl Try.el41.zero rfl (fun b10 w11 hb10 M => ?_)
 refine WL.store (v := (Value.agg #[(vS sZ), (vI 0)])) (cs := [(vS sZ), (vI 0)]) (c' := #[(vS sZ), (vI 0)]) M 0 rfl rfl Try.el41.sized rfl rfl rfl rfl (nL rfl) (cC rfl (cC rfl cel_nil)) rfl rfl (fun w12 M => ?_)
 refine wA (vB false) (WL.nil (W.seq' ?_))
 replace M := M.loseI 0
 refine W.region rfl (wM vN (wM (vP tb3) ?_))
 refine WL.callX rfl (sc_peek_n (vP tb3) (M.enterW0 trivial)) (CallsF.func Try.en25 rfl) ?_
 rintro _ w13 ⟨rfl, m⟩
 replace M := M.leaveW0 m
 clear m
 refine wM (Value.tuple #[(Value.agg #[(vS sZ), (vI 0)]), (vB false)]) (wP (Value.agg #[(vS sZ), (vI 0)]) (wP (vB false) ?_))
 refine WL.alloc (c := #[(vS sZ), (vI 0)]) M rfl Try.el41.zero rfl (fun b14 w15 hb14 M => ?_)
 refine WL.store (v := (Value.agg #[(vS sZ), (vI 0)])) (cs := [(vS sZ), (vI 0)]) (c' := #[(vS sZ), (vI 0)]) M 0 rfl rfl Try.el41.sized rfl rfl rfl rfl (nL rfl) (cC rfl (cC rfl cel_nil)) rfl rfl (fun w16 M => ?_)
 refine wA (vB false) (WL.nil (W.seq' ?_))
 replace M := M.loseI 0
 refine W.region rfl (wM vN (wM (vP tb3) (wM (vI n) ?_)))
 refine WL.callX rfl (sc_page_n (vP tb3) n (M.enterW0 trivial)) (CallsF.func Try.en15 rfl) ?_
 rintro _ w17 ⟨rfl, m⟩
 replace M := M.leaveW0 m
 clear m
 refine wM (Value.tuple #[vZ, (vB true)]) (wP vZ (wP (vB true) (wA vZ (wA (vB true) (WL.nil (wR (wM vN ?_)))))))
 refine WL.callX rfl (sc_at_n  (M.enterW0 trivial)) (CallsF.func Try.en22 rfl) ?_
 rintro _ w18 ⟨rfl, m⟩
 replace M := M.leaveW0 m
 clear m
 refine wM (Value.tuple #[(vS sZ), (vB false)]) (wP (vS sZ) (wP (vB false) (wA (vS sZ) (wA (vB false) (WL.nil (wR (wM (vS f) (wM (vB b) ?_))))))))
 refine WL.callX rfl (sc_new f sZ b (M.enterW0 trivial)) (CallsF.func Try.en14 rfl) ?_
 rintro _ w20 ⟨sb19, rfl, m⟩
 replace M := M.leaveW0 m
 clear m
 refine wA (vP sb19) (WL.nil (wR (wM (vP sb19) ?_)))
 have fq := M.frm [bk sb19 #[(vS ((⟨f, sZ, b, sZ, false⟩ : Scn).frm)), (vS ((⟨f, sZ, b, sZ, false⟩ : Scn).to_)), (vB ((⟨f, sZ, b, sZ, false⟩ : Scn).back)), (vS ((⟨f, sZ, b, sZ, false⟩ : Scn).at_)), (vB ((⟨f, sZ, b, sZ, false⟩ : Scn).told))] 88] [tT S4 tb3 (rowE ([(⟨#[97]⟩ : ByteArray)] : List ByteArray) ([(⟨#[97]⟩ : ByteArray)] : List ByteArray).length) (([(⟨#[97]⟩ : ByteArray)] : List ByteArray).length)] [0, 1] rfl
 refine WL.callX rfl (sc_next_0 sb19 (⟨f, sZ, b, sZ, false⟩ : Scn) (M.eF fq trivial)) (CallsF.func Try.en24 rfl) ?_
 rintro _ w21 ⟨rfl, m⟩
 replace M := M.lF fq m
 clear m
 refine wM (Value.tuple #[(Value.agg #[(vS sZ), (vI 0)]), (vB false)]) (wP (Value.agg #[(vS sZ), (vI 0)]) (wP (vB false) ?_))
 refine WL.alloc (c := #[(vS sZ), (vI 0)]) M rfl Try.el41.zero rfl (fun b22 w23 hb22 M => ?_)
 refine WL.store (v := (Value.agg #[(vS sZ), (vI 0)])) (cs := [(vS sZ), (vI 0)]) (c' := #[(vS sZ), (vI 0)]) M 0 rfl rfl Try.el41.sized rfl rfl rfl rfl (nL rfl) (cC rfl (cC rfl cel_nil)) rfl rfl (fun w24 M => ?_)
 refine wA (vB false) (WL.nil (W.seq' ?_))
 replace M := M.loseI 0
 refine W.region rfl (wM (vP sb19) (wM (vI n) (wS (vI (min (n : Int) (100 : Int))) rfl (Step.minI rfl rfl) ?_)))
 have fq := M.frm [bk sb19 #[(vS ((⟨f, sZ, b, sZ, false⟩ : Scn).frm)), (vS ((⟨f, sZ, b, sZ, false⟩ : Scn).to_)), (vB ((⟨f, sZ, b, sZ, false⟩ : Scn).back)), (vS ((⟨f, sZ, b, sZ, false⟩ : Scn).at_)), (vB ((⟨f, sZ, b, sZ, false⟩ : Scn).told))] 88] [tT S4 tb3 (rowE ([(⟨#[97]⟩ : ByteArray)] : List ByteArray) ([(⟨#[97]⟩ : ByteArray)] : List ByteArray).length) (([(⟨#[97]⟩ : ByteArray)] : List ByteArray).length)] [0, 1] rfl
 refine WL.callX rfl (sc_page_0 sb19 (⟨f, sZ, b, sZ, false⟩ : Scn) (min (n : Int) (100 : Int)) (M.eF fq trivial)) (CallsF.func Try.en15 rfl) ?_
 rintro _ w25 ⟨rfl, m⟩
 replace M := M.lF fq m
 clear m
 refine wM (Value.tuple #[vZ, (vB true)]) (wP vZ (wP (vB true) (wA vZ (wA (vB true) (WL.nil (wR (wM (vP sb19) ?_)))))))
 refine WL.callX rfl (sc_at sb19 (⟨f, sZ, b, sZ, false⟩ : Scn) (M.enterW0 ⟨(M.wideC0 0 rfl), trivial⟩)) (CallsF.func Try.en22 rfl) ?_
 rintro _ w26 ⟨rfl, m⟩
 replace M := M.leaveW0 m
 clear m
 refine wM (Value.tuple #[(vS ((⟨f, sZ, b, sZ, false⟩ : Scn).at_)), (vB ((⟨f, sZ, b, sZ, false⟩ : Scn).told))]) (wP (vS ((⟨f, sZ, b, sZ, false⟩ : Scn).at_)) (wS (vB false) rfl (Step.cast (congrArg Value.bool (show ((⟨f, sZ, b, sZ, false⟩ : Scn).told) = false from rfl)) sP) (wA (vS ((⟨f, sZ, b, sZ, false⟩ : Scn).at_)) (wA (vB false) (WL.nil (W.seq' ?_))))))
 replace M := M.loseI 0
 refine W.region rfl (wM (vB false) (wP (vB true) (wM (vB true) (wM (vB false) (wP (vB true) (wS (vB true) rfl (Step.pick (t := true) rfl rfl) (wM (vB true) (wM vZ (wS (vI 0) rfl (Step.lenS Try.un34 rfl rfl) (wP (vB true) (wS (vB true) rfl (Step.pick (t := true) rfl rfl) (wM (vB true) (wM (vB true) (wS (vB true) rfl (Step.pick (t := true) rfl rfl) (wM (vB true) (wM (vB false) (wP (vB true) (wS (vB true) rfl (Step.pick (t := true) rfl rfl) (wM (vB true) (wM vN (wM (vS k) ?_)))))))))))))))))))))
 refine WL.callX rfl (sc_skip_n k (M.enterW0 trivial)) (CallsF.func Try.en26 rfl) ?_
 rintro _ w27 ⟨rfl, m⟩
 replace M := M.leaveW0 m
 clear m
 refine wP (vB true) (wS (vB true) rfl (Step.pick (t := true) rfl rfl) (wM (vB true) (wM vN ?_)))
 refine WL.callX rfl (sc_copy_n  (M.enterW0 trivial)) (CallsF.func Try.en27 rfl) ?_
 rintro _ w28 ⟨rfl, m⟩
 replace M := M.leaveW0 m
 clear m
 refine wP (vB true) (wS (vB true) rfl (Step.pick (t := true) rfl rfl) (wM (vB true) (wM (vB false) (wP (vB true) (wS (vB true) rfl (Step.pick (t := true) rfl rfl) (wM (vB true) (wM vZ (wS (vI 0) rfl (Step.lenS Try.un34 rfl rfl) (wP (vB true) (wS (vB true) rfl (Step.pick (t := true) rfl rfl) (wM (vB true) (wM (vB true) (wS (vB true) rfl (Step.pick (t := true) rfl rfl) (wM (vB true) (wM (vB false) (wP (vB true) (wS (vB true) rfl (Step.pick (t := true) rfl rfl) (wM (vB true) (wM (vS f) (wM (vS k) ?_))))))))))))))))))))
 refine WL.callX rfl (sc_count_0 f k (M.enterW0 trivial)) (CallsF.func Try.en20 rfl) ?_
 rintro _ w29 ⟨rfl, m⟩
 replace M := M.leaveW0 m
 clear m
 refine wP (vB true) (wS (vB true) rfl (Step.pick (t := true) rfl rfl) (wM (vB true) ?_))
 refine WL.callX rfl (l13_works  (M.enterW0 trivial)) (CallsF.func Try.en12 rfl) ?_
 rintro _ w30 ⟨rfl, m⟩
 replace M := M.leaveW0 m
 clear m
 refine wS (vB true) rfl (Step.pick (t := true) rfl rfl) (wA (vB true) (WL.nil ?_))
 refine W.ret ?_
 refine ⟨.inl rfl, (vB true), ?_, ?_⟩
 · exact ⟨rfl, (Res.r1 (show RV _ _ _ (.tmp 8) (vB true) from by exact rfl))⟩
 refine ⟨?_, M.close [] rfl (by decide) trivial⟩
 rfl
theorem law13_plays {G : Nat → Prop} {w : World} (kv : Value) (ks : List ByteArray) (f : ByteArray) (t : ByteArray) (b : Bool) (v : Value) (l : List TAct)   (M : Mem G (fun _ => False) w [] [fS kv ks, SlAt 3 v l.length (l.flatMap actE)] w) : Rets Try.prog 4 #[kv, (vS f), (vS t), (vB b), v] w fun r w' => r = (vB true) ∧ Mem G (fun _ => False) w [] [] w' := by
 refine Rets.enter 106 _ Try.func4 rfl Try.ntmps4 Try.results4 (by simp) ?_
 have hle1 := SlAt.le' (M.rep 0 rfl)
 have hle2 := SlAt.le' (M.rep 1 rfl)
 have sl3 : IsSl kv := SlAt.isSl (Mem.rep M 0 rfl)
 have sl4 : IsSl v := SlAt.isSl (Mem.rep M 1 rfl)
 refine wR (wA (vB false) (WL.nil (W.seq' (wR (wM kv (wS (vI ↑ks.length) rfl (Step.lenSl Try.un22 rfl (M.rep 0 rfl)) (wP (vB (decide ((↑ks.length : Int) > (40 : Int)))) (wM (vB (decide ((↑ks.length : Int) > (40 : Int)))) ?_))))))))
 rcases Bool.eq_false_or_eq_true (decide ((↑ks.length : Int) > (40 : Int))) with h5 | h5
 ·
  have h5p := dT h5
  rw [h5]
  refine WL.pass rfl (WL.pass rfl (WL.pass rfl (wS (vB true) rfl (Step.pick (t := true) rfl rfl) (WL.nil ?_))))
  refine W.cond (t := true) rfl (fun _ => ?_) (fun h => by cases h)
  refine wR ?_
  refine WL.callX rfl (l13_works  (M.enterW0 trivial)) (CallsF.func Try.en12 rfl) ?_
  rintro _ w6 ⟨rfl, m⟩
  replace M := M.leaveW0 m
  clear m
  refine wA (vB true) (WL.nil ?_)
  refine W.ret ?_
  refine ⟨.inl rfl, (vB true), ?_, ?_⟩
  · exact ⟨rfl, (Res.r1 (show RV _ _ _ (.tmp 10) (vB true) from by exact rfl))⟩
  refine ⟨?_, M.close [] rfl (by decide) trivial⟩
  rfl
 ·
  have h5p := dF h5
  rw [h5]
  refine wM v ?_
  refine WL.callX rfl (l13_few v l 40 (M.enterW0 ⟨(M.wideR0 1 rfl), trivial⟩)) (CallsF.func Try.en11 rfl) ?_
  rintro _ w7 ⟨rfl, m⟩
  replace M := M.leaveW0 m
  clear m
  refine wP (vB (!(fewS l 40))) (wS (vB (!(fewS l 40))) rfl (Step.pick (t := false) rfl rfl) (WL.nil ?_))
  refine W.cond (t := !(fewS l 40)) rfl (fun h8 => ?_) (fun h8 => ?_)
  ·
   refine wR ?_
   refine WL.callX rfl (l13_works  (M.enterW0 trivial)) (CallsF.func Try.en12 rfl) ?_
   rintro _ w9 ⟨rfl, m⟩
   replace M := M.leaveW0 m
   clear m
   refine wA (vB true) (WL.nil ?_)
   refine W.ret ?_
   refine ⟨.inl rfl, (vB true), ?_, ?_⟩
   · exact ⟨rfl, (Res.r1 (show RV _ _ _ (.tmp 10) (vB true) from by exact rfl))⟩
   refine ⟨?_, M.close [] rfl (by decide) trivial⟩
   rfl
  ·
   have hfw_ := fewS_fact (show fewS l 40 = true by simpa using h8)
   refine W.skip (wR (wM kv ?_))
   refine WL.callX rfl (l13_planted kv ks (by first | omega | decide) (M.enter0 ⟨(M.shr' 0 rfl), trivial⟩)) (CallsF.func Try.en13 rfl) ?_
   rintro _ w13 ⟨tb10, S11, rv12, rfl, m⟩
   replace M := M.leave0 m
   clear m
   have sl14 : IsSl rv12 := SlAt.isSl (Mem.rep M 0 rfl)
   have hle15 := SlAt.le' (M.rep 0 rfl)
   refine wM (Value.tuple #[(vP tb10), rv12]) (wP (vP tb10) (wP rv12 (wA (vP tb10) (wA rv12 (WL.nil (wR (wM (vS f) (wM (vS t) (wM (vB b) ?_)))))))))
   refine WL.callX rfl (sc_new f t b (M.enterW0 trivial)) (CallsF.func Try.en14 rfl) ?_
   rintro _ w17 ⟨sb16, rfl, m⟩
   replace M := M.leaveW0 m
   clear m
   refine wA (vP sb16) (WL.nil (wR (wM (vS f) (wM (vS t) (wM (vB b) (wP (Value.agg #[(vS f), (vS t), (vB b), (vS sZ), (vB false)]) ?_))))))
   refine WL.alloc (c := #[(vS sZ), (vS sZ), (vB false), (vS sZ), (vB false)]) M rfl Try.el46.zero rfl (fun b18 w19 hb18 M => ?_)
   refine WL.store (v := (Value.agg #[(vS f), (vS t), (vB b), (vS sZ), (vB false)])) (cs := [(vS f), (vS t), (vB b), (vS sZ), (vB false)]) (c' := #[(vS f), (vS t), (vB b), (vS sZ), (vB false)]) M 0 rfl rfl Try.el46.sized rfl rfl rfl rfl (nL rfl) (cC rfl (cC rfl (cC rfl (cC rfl (cC rfl cel_nil))))) rfl rfl (fun w20 M => ?_)
   refine WL.nil (W.seq' (wR (wA (vI 0) (WL.nil (W.block ?_)))))
   replace M := M.sel (L' := [tT S11 tb10 (rowE ks ks.length) ks.length, bk b18 #[(vS f), (vS t), (vB b), (vS sZ), (vB false)] 46, bk sb16 #[(vS ((⟨f, t, b, sZ, false⟩ : Scn).frm)), (vS ((⟨f, t, b, sZ, false⟩ : Scn).to_)), (vB ((⟨f, t, b, sZ, false⟩ : Scn).back)), (vS ((⟨f, t, b, sZ, false⟩ : Scn).at_)), (vB ((⟨f, t, b, sZ, false⟩ : Scn).told))] 88]) [2, 0, 1] rfl (by decide)
   replace M := M.sel (L' := [tT S11 tb10 (rowE ks ks.length) ks.length, bk sb16 #[(vS ((⟨f, t, b, sZ, false⟩ : Scn).frm)), (vS ((⟨f, t, b, sZ, false⟩ : Scn).to_)), (vB ((⟨f, t, b, sZ, false⟩ : Scn).back)), (vS ((⟨f, t, b, sZ, false⟩ : Scn).at_)), (vB ((⟨f, t, b, sZ, false⟩ : Scn).told))] 88, bk b18 #[(vS f), (vS t), (vB b), (vS sZ), (vB false)] 46]) [0, 2, 1] rfl (by decide)
   replace M := M.facts (R' := [fR rv12 (rowE ks ks.length), SlAt 3 v l.length (l.flatMap actE)]) (Facts.all ⟨M.shr' 0 rfl, M.shr' 2 rfl, trivial⟩)
   replace M := M.rechunk 0 (c' := tT S11 tb10 (rowE ks ks.length) (ks.length + 0)) rfl (rfl)
   refine W.loop (fun kk ρ w' => ∃ (i_ : Nat) (row_ : List THit) (s_ : Scn) (rv_ : Value) (S_ : Nat → Prop), ((i_ ≤ l.length) ∧ kk = l.length - i_) ∧ ρ.has [(1, (vS f)), (2, (vS t)), (4, v), (11, (vP tb10)), (12, rv_), (13, (vP sb16)), (14, (vP b18)), (15, (vI ↑i_))] ∧ Mem G (fun _ => False) w [tT S_ tb10 row_ (ks.length + i_), bk sb16 #[(vS s_.frm), (vS s_.to_), (vB s_.back), (vS s_.at_), (vB s_.told)] 88, bk b18 #[(vS s_.frm), (vS s_.to_), (vB s_.back), (vS s_.at_), (vB s_.told)] 46] [fR rv_ row_, SlAt 3 v l.length (l.flatMap actE)]  w') _ ⟨0, (rowE ks ks.length), (⟨f, t, b, sZ, false⟩ : Scn), rv12, S11, ⟨(Nat.zero_le _), rfl⟩, ⟨rfl, rfl, rfl, rfl, rfl, rfl, rfl, rfl, rfl, rfl⟩, M⟩ ?_
   rintro _ ρ22 w21 ⟨i_, row_, s_, rv_, S_, ⟨hi23, rfl⟩, hρ, M⟩
   obtain ⟨ρ22, rfl⟩ := hρ.know
   clear hρ
   have sl24 : IsSl rv_ := SlAt.isSl (M.rep 0 rfl)
   obtain ⟨hup_, hrc_⟩ := tabC_up (M.chunk 0 rfl).inv
   refine W.seq' (wR (wM (vI ↑i_) (wM v (wS (vI ↑l.length) rfl (Step.lenSl Try.un23 rfl (M.rep 1 rfl)) (wP (vB (decide ((↑i_ : Int) < (↑l.length : Int)))) (WL.nil ?_))))))
   refine W.cond (t := decide ((↑i_ : Int) < (↑l.length : Int))) rfl (fun h25 => ?_) (fun h25 => ?_)
   ·
    have h25p := dT h25
    refine W.skip (W.seq' (W.block (W.seq' ?_)))
    obtain ⟨cap27, hb26⟩ := SlAt.base (M.rep 1 rfl) (by omega)
    obtain ⟨x28, hx28⟩ := elem_of_lt (xs := l) (i := i_) (by omega)
    refine W.drawn M [0, 1, 2, 3, 4, 5, 6, 7, 8, 9, 10, 11, 12, 13, 14, 15, 16] [8, 15] [13] _ _ (sN (sN (sY sE))) (fun _ h => h) Try.mixed (by kernel_rfl) ?_
    refine tM (vP tb10) rfl (tM rv_ rfl (tM (vP sb16) rfl (tR (Value.agg #[(vS s_.frm), (vS s_.to_), (vB s_.back), (vS s_.at_), (vB s_.told)]) rfl (fun A w M => (Step.loadN Try.ag46 rfl (M.blk 1 rfl) (nL rfl) rfl)) (tM v rfl (tM (vI ↑i_) rfl (tP (vQ v i_ 3) rfl (fun w => (sX i_ Try.un23 Try.el31 rfl rfl hb26)) (tR (Value.agg #[(vI x28.do_), (vS x28.k), (vI x28.v)]) rfl (fun A w M => (Step.loadEN (k := 0) (cs' := [(vI x28.do_), (vS x28.k), (vI x28.v)]) Try.ag31 (flat_ec (M.rep 1 rfl) hx28 actE_len) (by decide) rfl rfl rfl)) ?_)))))))
    let Q : List Chunk := [bk b18 #[(vS s_.frm), (vS s_.to_), (vB s_.back), (vS s_.at_), (vB s_.told)] 46]
    refine TW.callX (ι := Value × (Nat → Prop)) (fun jx v_ => v_ = (Value.tuple #[jx.1, (Value.agg #[(vS ((doesSS s_ row_ x28).frm)), (vS ((doesSS s_ row_ x28).to_)), (vB ((doesSS s_ row_ x28).back)), (vS ((doesSS s_ row_ x28).at_)), (vB ((doesSS s_ row_ x28).told))]), (vB true)])) (fun jx => tT jx.2 tb10 (doesSR row_ x28) (ks.length + i_ + 1) :: bk sb16 #[(vS ((doesSS s_ row_ x28).frm)), (vS ((doesSS s_ row_ x28).to_)), (vB ((doesSS s_ row_ x28).back)), (vS ((doesSS s_ row_ x28).at_)), (vB ((doesSS s_ row_ x28).told))] 88 :: Q) (fun jx => [fR jx.1 (doesSR row_ x28), fR rv_ row_, SlAt 3 v l.length (l.flatMap actE)]) rfl (by decide) rfl (fun jx => (sN (sN (sY sE)))) (fun jx r h => (List.mem_cons_of_mem _ h)) (fun A w M => have fq := M.frm [tT S_ tb10 row_ (ks.length + i_), bk sb16 #[(vS s_.frm), (vS s_.to_), (vB s_.back), (vS s_.at_), (vB s_.told)] 88] (fl A :: Q) [1, 2, 0, 3] rfl; Rets.mono (l13_does tb10 S_ row_ (ks.length + i_) rv_ sb16 s_ x28 (by omega) (M.eN fq ⟨(M.shr' 0 rfl), trivial⟩)) (fun v_ w_ ⟨rv39, S40, e_, m⟩ => ⟨(rv39, S40), e_, (M.lN fq m).sel [2, 0, 1, 3] rfl (by decide), fun b hb => M.kN fq m b hb⟩)) (fun w => CallsF.func Try.en21 rfl) (fun jx v hp hin => ?_)
    obtain ⟨rv39, S40⟩ := jx
    replace hp := hp.symm; subst hp
    obtain ⟨_, _, hin⟩ := hin
    have sl41 : IsSl rv39 := SlAt.isSl (Mem.rep hin 0 rfl)
    clear hin
    refine tM (Value.tuple #[rv39, (Value.agg #[(vS ((doesSS s_ row_ x28).frm)), (vS ((doesSS s_ row_ x28).to_)), (vB ((doesSS s_ row_ x28).back)), (vS ((doesSS s_ row_ x28).at_)), (vB ((doesSS s_ row_ x28).told))]), (vB true)]) rfl (tQ rv39 rfl (tQ (Value.agg #[(vS ((doesSS s_ row_ x28).frm)), (vS ((doesSS s_ row_ x28).to_)), (vB ((doesSS s_ row_ x28).back)), (vS ((doesSS s_ row_ x28).at_)), (vB ((doesSS s_ row_ x28).told))]) rfl (tQ (vB true) rfl ?_)))
    refine TW.new (obj := .cells #[(vS sZ), (vS sZ), (vB false), (vS sZ), (vB false)] 46) (fun b => .pointer (some ⟨b, 0, none⟩)) rfl (by decide) (by decide) rfl (fun w => Step.alloc Try.el46.zero) (fun b42 => ?_)
    refine tP rv39 rfl (fun w => (Step.assign rfl)) ?_
    refine TW.store (v := (Value.agg #[(vS ((doesSS s_ row_ x28).frm)), (vS ((doesSS s_ row_ x28).to_)), (vB ((doesSS s_ row_ x28).back)), (vS ((doesSS s_ row_ x28).at_)), (vB ((doesSS s_ row_ x28).told))])) (cs := [(vS ((doesSS s_ row_ x28).frm)), (vS ((doesSS s_ row_ x28).to_)), (vB ((doesSS s_ row_ x28).back)), (vS ((doesSS s_ row_ x28).at_)), (vB ((doesSS s_ row_ x28).told))]) (c' := #[(vS ((doesSS s_ row_ x28).frm)), (vS ((doesSS s_ row_ x28).to_)), (vB ((doesSS s_ row_ x28).back)), (vS ((doesSS s_ row_ x28).at_)), (vB ((doesSS s_ row_ x28).told))]) 0 rfl rfl (by decide) rfl Try.el46.sized rfl rfl rfl rfl (nL rfl) (cC rfl (cC rfl (cC rfl (cC rfl (cC rfl cel_nil))))) rfl rfl (sN (sN (sN (sY sE)))) (fun r h => (List.mem_cons_of_mem _ h)) ?_
    refine tP (vB true) rfl (fun w => (Step.assign rfl)) ?_
    refine TW.done (fun w43 M => ?_)
    refine wR (wM rv39 (wA rv39 (WL.nil (wR (wS (Value.agg #[(vS ((doesSS s_ row_ x28).frm)), (vS ((doesSS s_ row_ x28).to_)), (vB ((doesSS s_ row_ x28).back)), (vS ((doesSS s_ row_ x28).at_)), (vB ((doesSS s_ row_ x28).told))]) rfl (Step.loadN Try.ag46 rfl (M.blk 0 rfl) (nL rfl) rfl) ?_)))))
    refine WL.store (v := (Value.agg #[(vS ((doesSS s_ row_ x28).frm)), (vS ((doesSS s_ row_ x28).to_)), (vB ((doesSS s_ row_ x28).back)), (vS ((doesSS s_ row_ x28).at_)), (vB ((doesSS s_ row_ x28).told))])) (cs := [(vS ((doesSS s_ row_ x28).frm)), (vS ((doesSS s_ row_ x28).to_)), (vB ((doesSS s_ row_ x28).back)), (vS ((doesSS s_ row_ x28).at_)), (vB ((doesSS s_ row_ x28).told))]) (c' := #[(vS ((doesSS s_ row_ x28).frm)), (vS ((doesSS s_ row_ x28).to_)), (vB ((doesSS s_ row_ x28).back)), (vS ((doesSS s_ row_ x28).at_)), (vB ((doesSS s_ row_ x28).told))]) M 3 rfl rfl Try.el46.sized rfl rfl rfl rfl (nL rfl) (cC rfl (cC rfl (cC rfl (cC rfl (cC rfl cel_nil))))) rfl rfl (fun w44 M => ?_)
    refine WL.nil (wR (wM (vP sb16) ?_))
    refine WL.callX rfl (sc_at sb16 (doesSS s_ row_ x28) (M.enterW0 ⟨(M.wideC0 2 rfl), trivial⟩)) (CallsF.func Try.en22 rfl) ?_
    rintro _ w45 ⟨rfl, m⟩
    replace M := M.leaveW0 m
    clear m
    obtain ⟨hup2_, hrc2_⟩ := tabC_up (M.chunk 1 rfl).inv
    refine wM (Value.tuple #[(vS ((doesSS s_ row_ x28).at_)), (vB ((doesSS s_ row_ x28).told))]) (wP (vS ((doesSS s_ row_ x28).at_)) (wP (vB ((doesSS s_ row_ x28).told)) (wA (vS ((doesSS s_ row_ x28).at_)) (wA (vB ((doesSS s_ row_ x28).told)) (WL.nil (wR (wM (vB true) (wP (vB false) (wM (vB false) (wM (vS ((doesSS s_ row_ x28).at_)) (wP (Value.pointer (some ⟨b18, 3, none⟩)) (wS (vS ((doesSS s_ row_ x28).at_)) rfl (Step.load1 Try.sc9 rfl ((M.cell 3 rfl 3).trans rfl)) (wS (vB false) rfl (Step.cast (congrArg Value.bool (show (!(((doesSS s_ row_ x28).at_).toList == ((doesSS s_ row_ x28).at_).toList)) = false by simp)) sP) (wS (vB false) rfl (Step.pick (t := false) rfl rfl) (wM (vB false) (wM (vB ((doesSS s_ row_ x28).told)) (wP (Value.pointer (some ⟨b18, 4, none⟩)) (wS (vB ((doesSS s_ row_ x28).told)) rfl (Step.load1 Try.sc4 rfl ((M.cell 3 rfl 4).trans rfl)) (wS (vB false) rfl (Step.cast (congrArg Value.bool (by simp)) (Step.pure (v := .bool (!(((doesSS s_ row_ x28).told) == ((doesSS s_ row_ x28).told)))) (by kernel_rfl))) (wS (vB false) rfl (Step.pick (t := false) rfl rfl) (wM (vB false) (wM (vP tb10) (wM (vS f) ?_)))))))))))))))))))))))
    refine wM (vS t) ?_
    have fq := M.frm [tT S40 tb10 (doesSR row_ x28) (ks.length + i_ + 1)] [bk b42 #[(vS ((doesSS s_ row_ x28).frm)), (vS ((doesSS s_ row_ x28).to_)), (vB ((doesSS s_ row_ x28).back)), (vS ((doesSS s_ row_ x28).at_)), (vB ((doesSS s_ row_ x28).told))] 46, bk sb16 #[(vS ((doesSS s_ row_ x28).frm)), (vS ((doesSS s_ row_ x28).to_)), (vB ((doesSS s_ row_ x28).back)), (vS ((doesSS s_ row_ x28).at_)), (vB ((doesSS s_ row_ x28).told))] 88, bk b18 #[(vS ((doesSS s_ row_ x28).frm)), (vS ((doesSS s_ row_ x28).to_)), (vB ((doesSS s_ row_ x28).back)), (vS ((doesSS s_ row_ x28).at_)), (vB ((doesSS s_ row_ x28).told))] 46] [1, 0, 2, 3] rfl
    refine WL.callX rfl (sc_count tb10 S40 (doesSR row_ x28) (ks.length + i_ + 1) f t (by first | assumption | omega) (M.eF fq trivial)) (CallsF.func Try.en20 rfl) ?_
    rintro _ w46 ⟨rfl, m⟩
    replace M := M.lF fq m
    clear m
    refine wM rv39 (wM (vS f) (wM (vS t) ?_))
    refine WL.callX rfl (r_count rv39 (doesSR row_ x28) f t (by omega) (M.enterW0 ⟨(M.wideR0 0 rfl), trivial⟩)) (CallsF.func Try.en23 rfl) ?_
    rintro _ w47 ⟨rfl, m⟩
    replace M := M.leaveW0 m
    clear m
    refine wS (vB false) rfl (Step.cast (congrArg Value.bool (show ((↑(countR (doesSR row_ x28) f t) : Int) != (↑(countR (doesSR row_ x28) f t) : Int)) = false by simp)) sP) (wS (vB false) rfl (Step.pick (t := false) rfl rfl) (WL.nil ?_))
    refine W.cond (t := false) rfl (fun h => by cases h) (fun _ => ?_)
    refine W.skip (W.region rfl (wM (vI ↑i_) (wS (vI (↑i_ + 1)) rfl (Step.add rfl rfl (wrap_i64 (by omega))) (wA (vI (↑i_ + 1)) (WL.nil ?_)))))
    replace M := M.rechunk 0 (c' := tT S40 tb10 (doesSR row_ x28) (ks.length + (i_ + 1))) rfl (rfl)
    replace M := M.sel (L' := [tT S40 tb10 (doesSR row_ x28) (ks.length + (i_ + 1)), bk sb16 #[(vS ((doesSS s_ row_ x28).frm)), (vS ((doesSS s_ row_ x28).to_)), (vB ((doesSS s_ row_ x28).back)), (vS ((doesSS s_ row_ x28).at_)), (vB ((doesSS s_ row_ x28).told))] 88, bk b18 #[(vS ((doesSS s_ row_ x28).frm)), (vS ((doesSS s_ row_ x28).to_)), (vB ((doesSS s_ row_ x28).back)), (vS ((doesSS s_ row_ x28).at_)), (vB ((doesSS s_ row_ x28).told))] 46]) [0, 2, 3] rfl (by decide)
    replace M := M.facts (R' := [fR rv39 (doesSR row_ x28), SlAt 3 v l.length (l.flatMap actE)]) (Facts.all ⟨M.shr' 0 rfl, M.shr' 2 rfl, trivial⟩)
    exact ⟨_, (by omega), i_ + 1, (doesSR row_ x28), (doesSS s_ row_ x28), rv39, S40, ⟨(by omega), rfl⟩, ⟨rfl, rfl, rfl, rfl, rfl, rfl, rfl, rfl, rfl, rfl⟩, M⟩
   ·
    have h25p := dF h25
    refine W.exit (thn_exit (thn_exit ?_))
    refine inBlk_hit ?_
    refine wR (wM (vP tb10) (wM (vS f) (wM (vS t) ?_)))
    have fq := M.frm [tT S_ tb10 row_ (ks.length + i_)] [bk sb16 #[(vS s_.frm), (vS s_.to_), (vB s_.back), (vS s_.at_), (vB s_.told)] 88, bk b18 #[(vS s_.frm), (vS s_.to_), (vB s_.back), (vS s_.at_), (vB s_.told)] 46] [0, 1, 2] rfl
    refine WL.callX rfl (sc_count tb10 S_ row_ (ks.length + i_) f t (by first | assumption | omega) (M.eF fq trivial)) (CallsF.func Try.en20 rfl) ?_
    rintro _ w48 ⟨rfl, m⟩
    replace M := M.lF fq m
    clear m
    refine wM rv_ (wM (vS f) (wM (vS t) ?_))
    refine WL.callX rfl (r_count rv_ row_ f t (by omega) (M.enterW0 ⟨(M.wideR0 0 rfl), trivial⟩)) (CallsF.func Try.en23 rfl) ?_
    rintro _ w49 ⟨rfl, m⟩
    replace M := M.leaveW0 m
    clear m
    refine wS (vB true) rfl (Step.cast (congrArg Value.bool (show ((↑(countR row_ f t) : Int) == (↑(countR row_ f t) : Int)) = true by simp)) sP) (wM (vB true) ?_)
    refine WL.callX rfl (l13_works  (M.enterW0 trivial)) (CallsF.func Try.en12 rfl) ?_
    rintro _ w50 ⟨rfl, m⟩
    replace M := M.leaveW0 m
    clear m
    refine wS (vB true) rfl (Step.pick (t := true) rfl rfl) (wA (vB true) (WL.nil ?_))
    refine W.ret ?_
    refine ⟨.inl rfl, (vB true), ?_, ?_⟩
    · exact ⟨rfl, (Res.r1 (show RV _ _ _ (.tmp 10) (vB true) from by exact rfl))⟩
    refine ⟨?_, M.close [] rfl (by decide) trivial⟩
    rfl
end Go.Proofs
namespace Tp
open Go
def stayP (ks : List ByteArray) (l : List TAct) (s : Scn) (ss : List ByteArray) : Prop := ∀ k, k ∈ ss → k ∈ ks ∧ withinS s k = true ∧ ∀ a, a ∈ l → a.k ≠ k
def tchP (l : List TAct) (s : Scn) (n : Nat) (x : ByteArray) : Prop := withinS s x = true ∧ ∀ (j : Nat) u, j < n → l[j]? = some u → u.k ≠ x
structure WI (ks : List ByteArray) (l : List TAct) (ss : List ByteArray) (b : Bool) (i : Nat) (row : List THit) (s : Scn) (ts : List ByteArray) : Prop where
  tell : tellOk s ts
  stay : stayOk s row ts ss
  rest : (restR s row).length + (i - 40) ≤ 40
  back : s.back = b
  len : ts.length ≤ 5 * i
structure WP (ks : List ByteArray) (l : List TAct) (ss : List ByteArray) (b : Bool) (i : Nat) (row : List THit) (s : Scn) (ts : List ByteArray) : Prop where
  tell : tellOk s ts
  stay : stayOk s row ts ss
  rest : (restR s row).length + (i - 40) ≤ 39 ∨ (restR s row).length = 0
  back : s.back = b
  len : ts.length ≤ 5 * i + 5
section
variable {ks ss ts : List ByteArray} {l : List TAct} {b : Bool} {i n : Nat} {row : List THit} {s s0 : Scn} {q : Int} {x : ByteArray} {a : TAct} {f t : ByteArray}
theorem stayP_nil : stayP ks l s [] := fun _ h => by cases h
theorem tchP_zero (h : withinS s x = true) : tchP l s 0 x := ⟨h, fun _ _ hj => absurd hj (Nat.not_lt_zero _)⟩
theorem tchP_step (h : tchP l s n x) (ha : l[n]? = some a) (hk : a.k ≠ x) : tchP l s (n + 1) x := ⟨h.1, fun j u hj hu => by
  rcases Nat.lt_or_ge j n with hm | hm
  · exact h.2 j u hm hu
  · have : j = n := by omega
    subst this; rw [ha] at hu; cases hu; exact hk⟩
theorem stayP_add (h : stayP ks l s ss) (hx : ks[i]? = some x) (ht : tchP l s n x) (hn : l.length ≤ n) : stayP ks l s (ss ++ [x]) := fun k hk => by
  rcases List.mem_append.1 hk with hk | hk
  · exact h k hk
  · rw [List.mem_singleton] at hk; subst hk
    refine ⟨List.mem_of_getElem? hx, ht.1, fun a ha => ?_⟩
    obtain ⟨j, hj⟩ := List.getElem?_of_mem ha
    exact ht.2 j a (by have := (List.getElem?_eq_some_iff.1 hj).1; omega) hj
theorem putR_self (hu : upT row) {z : THit} : z ∈ putR row z := by
  rw [putR_eq hu]; unfold putL; exact List.mem_append_right _ (List.mem_cons_self ..)
theorem rowE_up : ∀ {i : Nat}, upT (rowE ks i) := by
  intro i
  induction i with
  | zero => exact List.Pairwise.nil
  | succ i ih =>
    cases hy : ks[i]? with
    | none =>
      have e : rowE ks (i + 1) = rowE ks i := by show (match ks[i]? with | some k => putR (rowE ks i) ⟨k, i⟩ | none => rowE ks i) = _; rw [hy]
      rw [e]; exact ih
    | some y => rw [rowE_succ hy, putR_eq ih]; exact putL_up ih
theorem rowE_has : ∀ {i : Nat}, x ∈ ks.take i → ∃ a, a ∈ rowE ks i ∧ a.key = x := by
  intro i
  induction i with
  | zero => intro h; simp at h
  | succ i ih =>
    intro h
    have hup := rowE_up (ks := ks) (i := i)
    cases hy : ks[i]? with
    | none =>
      have hl : ks.length ≤ i := List.getElem?_eq_none_iff.1 hy
      rw [List.take_of_length_le (by omega)] at h
      have e : rowE ks (i + 1) = rowE ks i := by show (match ks[i]? with | some k => putR (rowE ks i) ⟨k, i⟩ | none => rowE ks i) = _; rw [hy]
      rw [e]; exact ih (by rw [List.take_of_length_le hl]; exact h)
    | some y =>
      rw [rowE_succ hy]
      rw [List.take_succ, List.mem_append, hy] at h
      by_cases e : x = y
      · subst e; exact ⟨⟨x, i⟩, putR_self hup, rfl⟩
      · rcases h with h | h
        · obtain ⟨a, ha, rfl⟩ := ih h
          exact ⟨a, putR_keep hup ha e, rfl⟩
        · simp at h; exact absurd h e
theorem WI.init (hk : ks.length ≤ 40) (hr : (rowE ks ks.length).length ≤ ks.length) (h : stayP ks l ⟨f, t, b, sZ, false⟩ ss) : WI ks l ss b 0 (rowE ks ks.length) ⟨f, t, b, sZ, false⟩ [] where
  tell := tell_nil
  stay := fun k hk => .inr <| by
    obtain ⟨h1, h2, _⟩ := h k hk
    obtain ⟨a, ha, rfl⟩ := rowE_has (ks := ks) (i := ks.length) (by rw [List.take_length]; exact h1)
    exact ⟨a, mem_rest ha (by unfold leftB; rw [h2]; rfl), rfl⟩
  rest := by have := rest_le (s := ⟨f, t, b, sZ, false⟩) (row := rowE ks ks.length); omega
  back := rfl
  len := by simp
theorem WI.page (h : WI ks l ss b i row s ts) (hu : upT row) (h1 : 1 ≤ q) (h5 : q ≤ 5) : WP ks l ss b i row (pageS s row q) (ts ++ (pageL s row q).map THit.key) where
  tell := tell_page hu q h.tell
  stay := stay_page hu q h.stay
  rest := by have := page_pos (s := s) hu h1; have := h.rest; omega
  back := (page_back q).trans h.back
  len := by
    have : (pageL s row q).length ≤ 5 := by unfold pageL pageN; rw [List.length_take]; omega
    rw [List.length_append, List.length_map]; have := h.len; omega
theorem WP.put (h : WP ks l ss b i row s ts) (hu : upT row) (hs : stayP ks l s0 ss) (ha : l[i]? = some a) (hl : l.length ≤ 40) {v : Int} : WI ks l ss b (i + 1) (putR row ⟨a.k, v⟩) s ts where
  tell := h.tell
  stay := stay_put hu (fun k hk e => (hs k hk).2.2 a (List.mem_of_getElem? ha) e.symm) h.stay
  rest := by have := rest_put (s := s) hu (z := ⟨a.k, v⟩); have := h.rest; have := (List.getElem?_eq_some_iff.1 ha).1; omega
  back := h.back
  len := by have := h.len; omega
theorem WP.del (h : WP ks l ss b i row s ts) (hs : stayP ks l s0 ss) (ha : l[i]? = some a) (hl : l.length ≤ 40) : WI ks l ss b (i + 1) (delL row a.k) s ts where
  tell := h.tell
  stay := stay_del (fun k hk e => (hs k hk).2.2 a (List.mem_of_getElem? ha) e.symm) h.stay
  rest := by have := rest_del (s := s) (row := row) (z := a.k); have := h.rest; have := (List.getElem?_eq_some_iff.1 ha).1; omega
  back := h.back
  len := by have := h.len; omega
theorem WP.on (h : WP ks l ss b i row s ts) (hr : (restR s row).length ≠ 0) : WI ks l ss b (i + 1) row s ts where
  tell := h.tell
  stay := h.stay
  rest := by have := h.rest; omega
  back := h.back
  len := by have := h.len; omega
theorem page_more (hu : upT row) (h : pageD s row q = false) : (restR (pageS s row q) row).length ≠ 0 := by
  rw [page_done hu] at h
  rw [page_rest hu, List.length_drop]
  have : ¬ (restR s row).length ≤ pageN s row q := by simpa using h
  omega
theorem WP.end_ (h : WP ks l ss b i row s ts) (hr : restR s row = []) : (∀ k, k ∈ ss → k ∈ ts) ∧ ∀ (i : Nat) x y, ts[i - 1]? = some x → ts[i]? = some y → 0 < i → x ≠ y ∧ sLt y x = b :=
  ⟨stay_end h.stay hr, fun i x y hx hy hi => by have := tell_at h.tell hx hy hi; rw [h.back] at this; exact this⟩
theorem page_get (hu : upT row) {z : THit} (hz : (pageL s row q)[n]? = some z) : getL row z.key = (z.val, true) :=
  getL_mem_of hu (rest_mem ((List.take_sublist _ _).subset (List.mem_of_getElem? hz))).1
theorem page_five (h : q ≤ 5) : (pageL s row q).length ≤ 5 := by unfold pageL pageN; rw [List.length_take]; omega
theorem pick_five (n : Int) : 0 ≤ pickI n 5 ∧ pickI n 5 ≤ 4 := by
  have h1 := tmod_bounds (a := n) (b := 5) (by omega)
  have e : pickI n 5 = (n.tmod 5 + 5).tmod 5 := by unfold pickI; rw [if_neg (by omega)]
  have h2 := tmod_bounds (a := n.tmod 5 + 5) (b := 5) (by omega)
  have h3 : (n.tmod 5 + 5).tmod 5 = (n.tmod 5 + 5) % 5 := Int.tmod_eq_emod_of_nonneg (by omega)
  rw [e, h3]; omega
theorem page_100 (f t : ByteArray) (hr : row.length ≤ 100) : pageL ⟨f, t, false, sZ, false⟩ row 100 = restR ⟨f, t, false, sZ, false⟩ row ∧ pageL ⟨f, t, true, sZ, false⟩ row 100 = (restR ⟨f, t, false, sZ, false⟩ row).reverse := by
  have h1 := rest_le (s := ⟨f, t, false, sZ, false⟩) (row := row)
  have h2 := rest_le (s := ⟨f, t, true, sZ, false⟩) (row := row)
  exact ⟨page_all (Nat.le_trans h1 hr), by rw [page_all (q := 100) (Nat.le_trans h2 hr), rest_rev]⟩
theorem wn_z (h1 : sLt x f = false) (h2 : t = sZ) : withinS ⟨f, t, b, sZ, false⟩ x = true := by unfold withinS; simp [h1, h2]
theorem wn_t (h1 : sLt x f = false) (h3 : sLt x t = true) : withinS ⟨f, t, b, sZ, false⟩ x = true := by unfold withinS; simp [h1, h3]
theorem nth_zero {l : List ByteArray} : ∀ (j : Nat) u, j < 0 → l[j]? = some u → u ≠ x := fun _ _ hj => absurd hj (Nat.not_lt_zero _)
theorem nth_step {l : List ByteArray} {y : ByteArray} (h : ∀ (j : Nat) u, j < n → l[j]? = some u → u ≠ x) (hy : l[n]? = some y) (hk : y ≠ x) : ∀ (j : Nat) u, j < n + 1 → l[j]? = some u → u ≠ x := fun j u hj hu => by
  rcases Nat.lt_or_ge j n with hm | hm
  · exact h j u hm hu
  · have : j = n := by omega
    subst this; rw [hy] at hu; cases hu; exact hk
theorem nth_not {l : List ByteArray} (h : ∀ (j : Nat) u, j < n → l[j]? = some u → u ≠ x) (hn : l.length ≤ n) : ¬ x ∈ l := fun hx => by
  obtain ⟨j, hj⟩ := List.getElem?_of_mem hx
  exact h j x (by have := (List.getElem?_eq_some_iff.1 hj).1; omega) hj rfl
end
end Tp
set_option maxRecDepth 100000
namespace Go.Proofs
open Go Tp
theorem law13_walks {G : Nat → Prop} {w : World} (kv : Value) (ks : List ByteArray) (f : ByteArray) (t : ByteArray) (b : Bool) (v : Value) (l : List TAct) (n : Int)   (M : Mem G (fun _ => False) w [] [fS kv ks, SlAt 3 v l.length (l.flatMap actE)] w) : Rets Try.prog 3 #[kv, (vS f), (vS t), (vB b), v, (vI n)] w fun r w' => r = (vB true) ∧ Mem G (fun _ => False) w [] [] w' := by
 refine Rets.enter 293 _ Try.func3 rfl Try.ntmps3 Try.results3 (by simp) ?_
 have hle1 := SlAt.le' (M.rep 0 rfl)
 have hle2 := SlAt.le' (M.rep 1 rfl)
 have sl3 : IsSl kv := SlAt.isSl (Mem.rep M 0 rfl)
 have sl4 : IsSl v := SlAt.isSl (Mem.rep M 1 rfl)
 refine wR (wA (vB false) (WL.nil (W.seq' (wR (wM kv (wS (vI ↑ks.length) rfl (Step.lenSl Try.un22 rfl (M.rep 0 rfl)) (wP (vB (decide ((↑ks.length : Int) > (40 : Int)))) (wM (vB (decide ((↑ks.length : Int) > (40 : Int)))) ?_))))))))
 rcases Bool.eq_false_or_eq_true (decide ((↑ks.length : Int) > (40 : Int))) with h5 | h5
 ·
  have h5p := dT h5
  rw [h5]
  refine WL.pass rfl (WL.pass rfl (WL.pass rfl (wS (vB true) rfl (Step.pick (t := true) rfl rfl) (WL.nil ?_))))
  refine W.cond (t := true) rfl (fun _ => ?_) (fun h => by cases h)
  refine wR ?_
  refine WL.callX rfl (l13_works  (M.enterW0 trivial)) (CallsF.func Try.en12 rfl) ?_
  rintro _ w6 ⟨rfl, m⟩
  replace M := M.leaveW0 m
  clear m
  refine wA (vB true) (WL.nil ?_)
  refine W.ret ?_
  refine ⟨.inl rfl, (vB true), ?_, ?_⟩
  · exact ⟨rfl, (Res.r1 (show RV _ _ _ (.tmp 12) (vB true) from by exact rfl))⟩
  refine ⟨?_, M.close [] rfl (by decide) trivial⟩
  rfl
 ·
  have h5p := dF h5
  rw [h5]
  refine wM v ?_
  refine WL.callX rfl (l13_few v l 40 (M.enterW0 ⟨(M.wideR0 1 rfl), trivial⟩)) (CallsF.func Try.en11 rfl) ?_
  rintro _ w7 ⟨rfl, m⟩
  replace M := M.leaveW0 m
  clear m
  refine wP (vB (!(fewS l 40))) (wS (vB (!(fewS l 40))) rfl (Step.pick (t := false) rfl rfl) (WL.nil ?_))
  refine W.cond (t := !(fewS l 40)) rfl (fun h8 => ?_) (fun h8 => ?_)
  ·
   refine wR ?_
   refine WL.callX rfl (l13_works  (M.enterW0 trivial)) (CallsF.func Try.en12 rfl) ?_
   rintro _ w9 ⟨rfl, m⟩
   replace M := M.leaveW0 m
   clear m
   refine wA (vB true) (WL.nil ?_)
   refine W.ret ?_
   refine ⟨.inl rfl, (vB true), ?_, ?_⟩
   · exact ⟨rfl, (Res.r1 (show RV _ _ _ (.tmp 12) (vB true) from by exact rfl))⟩
   refine ⟨?_, M.close [] rfl (by decide) trivial⟩
   rfl
  ·
   have hfw_ := fewS_fact (show fewS l 40 = true by simpa using h8)
   refine W.skip (wR (wM kv ?_))
   refine WL.callX rfl (l13_planted kv ks (by first | omega | decide) (M.enter0 ⟨(M.shr' 0 rfl), trivial⟩)) (CallsF.func Try.en13 rfl) ?_
   rintro _ w13 ⟨tb10, S11, rv12, rfl, m⟩
   replace M := M.leave0 m
   clear m
   have sl14 : IsSl rv12 := SlAt.isSl (Mem.rep M 0 rfl)
   have hle15 := SlAt.le' (M.rep 0 rfl)
   refine wM (Value.tuple #[(vP tb10), rv12]) (wP (vP tb10) (wP rv12 (wA (vP tb10) (wA rv12 (WL.nil (wR (wA vZ (WL.nil (W.seq' (wR (wA (vI 0) (WL.nil (W.block ?_)))))))))))))
   replace M := M.ownNil 9 1
   replace M := M.facts (R' := [fS kv ks, SlAt 3 v l.length (l.flatMap actE)]) (Facts.all ⟨M.shr' 1 rfl, M.shr' 2 rfl, trivial⟩)
   refine W.loop (fun kk ρ w' => ∃ (i_ : Nat) (sv_ : Value) (ss_ : List ByteArray), ((i_ ≤ ks.length) ∧ (ss_.length ≤ i_) ∧ (stayP ks l (⟨f, t, b, sZ, false⟩ : Scn) ss_) ∧ kk = ks.length - i_) ∧ ρ.has [(0, kv), (1, (vS f)), (2, (vS t)), (3, (vB b)), (4, v), (5, (vI n)), (12, (vB false)), (13, (vP tb10)), (15, sv_), (16, (vI ↑i_))] ∧ Mem G (fun _ => False) w [oS sv_ ss_, tT S11 tb10 (rowE ks ks.length) ks.length] [fS kv ks, SlAt 3 v l.length (l.flatMap actE)]  w') _ ⟨0, vZ, ([] : List ByteArray), ⟨(Nat.zero_le _), (Nat.le_refl _), stayP_nil, rfl⟩, ⟨rfl, rfl, rfl, rfl, rfl, rfl, rfl, rfl, rfl, rfl, rfl, rfl⟩, M⟩ ?_
   rintro _ ρ17 w16 ⟨i_, sv_, ss_, ⟨hi18, hi19, hi20, rfl⟩, hρ, M⟩
   obtain ⟨ρ17, rfl⟩ := hρ.know
   clear hρ
   have sl21 : IsSl sv_ := SlAt.isSl (oW (M.chunk 0 rfl).inv)
   have hst_ : stayP ks l (⟨f, t, b, sZ, false⟩ : Scn) ss_ := hi20
   have hbss_ : ss_.length ≤ 100000 := by omega
   refine W.seq' (wR (wM (vI ↑i_) (wM kv (wS (vI ↑ks.length) rfl (Step.lenSl Try.un22 rfl (M.rep 0 rfl)) (wP (vB (decide ((↑i_ : Int) < (↑ks.length : Int)))) (WL.nil ?_))))))
   refine W.cond (t := decide ((↑i_ : Int) < (↑ks.length : Int))) rfl (fun h22 => ?_) (fun h22 => ?_)
   ·
    have h22p := dT h22
    refine W.skip (W.seq' (W.block (wR (wM kv (wM (vI ↑i_) ?_)))))
    obtain ⟨cap24, hb23⟩ := SlAt.base (M.rep 0 rfl) (by omega)
    refine wS (vQ kv i_ 1) rfl (sX i_ Try.un22 Try.el9 rfl rfl hb23) ?_
    obtain ⟨x25, hx25⟩ := elem_of_lt (xs := ks) (i := i_) (by omega)
    refine wS (vS x25) rfl (Step.loadE (k := 0) Try.sc9 (flat_ec (M.rep 0 rfl) hx25 strE_len) (by decide) rfl rfl) (wM (vS f) (wP (vB (sLt x25 f)) (wM (vB (sLt x25 f)) ?_)))
    rcases Bool.eq_false_or_eq_true (sLt x25 f) with h26 | h26
    ·
     rw [h26]
     refine WL.pass rfl (WL.pass rfl (WL.pass rfl (WL.pass rfl (WL.pass rfl (WL.pass rfl (WL.pass rfl (WL.pass rfl (WL.pass rfl (WL.pass rfl (wS (vB true) rfl (Step.pick (t := true) rfl rfl) (wA (vB true) (WL.nil (W.seq' (wR (wA (vI 0) (WL.nil (W.block ?_)))))))))))))))))
     refine W.loop (fun kk ρ w' => ∃ (k_ : Nat) (td_ : Bool), ((k_ ≤ l.length) ∧ (td_ = false → tchP l (⟨f, t, b, sZ, false⟩ : Scn) k_ x25) ∧ kk = l.length - k_) ∧ ρ.has [(0, kv), (1, (vS f)), (2, (vS t)), (3, (vB b)), (4, v), (5, (vI n)), (12, (vB false)), (13, (vP tb10)), (15, sv_), (16, (vI ↑i_)), (17, (vB td_)), (18, (vI ↑k_)), (50, (vI ↑i_)), (51, kv), (52, (vI ↑ks.length)), (53, (vB (decide ((↑i_ : Int) < (↑ks.length : Int))))), (56, kv), (57, (vI ↑i_)), (58, (vQ kv i_ 1)), (59, (vS x25)), (60, (vS f)), (61, (vB true)), (62, (vB true)), (73, (vB true))] ∧ Mem G (fun _ => False) w [oS sv_ ss_, tT S11 tb10 (rowE ks ks.length) ks.length] [fS kv ks, SlAt 3 v l.length (l.flatMap actE)]  w') _ ⟨0, true, ⟨(Nat.zero_le _), (fun h_ => by cases h_), rfl⟩, ⟨rfl, rfl, rfl, rfl, rfl, rfl, rfl, rfl, rfl, rfl, rfl, rfl, rfl, rfl, rfl, rfl, rfl, rfl, rfl, rfl, rfl, rfl, rfl, rfl, rfl, rfl⟩, M⟩ ?_
     rintro _ ρ28 w27 ⟨k_, td_, ⟨hi29, hi30, rfl⟩, hρ, M⟩
     obtain ⟨ρ28, rfl⟩ := hρ.know
     clear hρ
     have htd_ : td_ = false → tchP l (⟨f, t, b, sZ, false⟩ : Scn) k_ x25 := hi30
     refine W.seq' (wR (wM (vI ↑k_) (wM v (wS (vI ↑l.length) rfl (Step.lenSl Try.un23 rfl (M.rep 1 rfl)) (wP (vB (decide ((↑k_ : Int) < (↑l.length : Int)))) (WL.nil ?_))))))
     refine W.cond (t := decide ((↑k_ : Int) < (↑l.length : Int))) rfl (fun h31 => ?_) (fun h31 => ?_)
     ·
      have h31p := dT h31
      refine W.skip (W.seq' (W.block ?_))
      rcases Bool.eq_false_or_eq_true (td_) with h32 | h32
      ·
       refine W.drawn M [0, 1, 2, 3, 4, 5, 6, 7, 8, 9, 10, 11, 12, 13] [] [] _ _ (sY (sY sE)) (fun _ h => h) Try.mixed (by kernel_rfl) ?_
       refine tP (vB true) rfl (fun w => (Step.cast (congrArg Value.bool h32) (Step.move rfl))) (tM (vB true) rfl ?_)
       refine TW.skip rfl rfl ?_
       refine TW.skip rfl rfl ?_
       refine TW.skip rfl rfl ?_
       refine TW.skip rfl rfl ?_
       refine TW.skip rfl rfl ?_
       refine TW.skip rfl rfl ?_
       refine TW.skip rfl rfl ?_
       refine TW.skip rfl rfl ?_
       refine TW.skip rfl rfl ?_
       refine TW.skip rfl rfl ?_
       refine tP (vB true) rfl (fun w => (Step.pick (t := true) rfl rfl)) (tP (vB true) rfl (fun w => (Step.assign rfl)) ?_)
       refine TW.done (fun w33 M => ?_)
       refine W.region rfl (wM (vI ↑k_) (wS (vI (↑k_ + 1)) rfl (Step.add rfl rfl (wrap_i64 (by omega))) (wA (vI (↑k_ + 1)) (WL.nil ?_))))
       exact ⟨_, (by omega), k_ + 1, true, ⟨(by omega), (fun h_ => by cases h_), rfl⟩, ⟨rfl, rfl, rfl, rfl, rfl, rfl, rfl, rfl, rfl, rfl, rfl, rfl, rfl, rfl, rfl, rfl, rfl, rfl, rfl, rfl, rfl, rfl, rfl, rfl, rfl, rfl⟩, M⟩
      ·
       obtain ⟨cap35, hb34⟩ := SlAt.base (M.rep 1 rfl) (by omega)
       obtain ⟨x36, hx36⟩ := elem_of_lt (xs := l) (i := k_) (by omega)
       refine W.drawn M [0, 1, 2, 3, 4, 5, 6, 7, 8, 9, 10, 11, 12, 13] [] [] _ _ (sY (sY sE)) (fun _ h => h) Try.mixed (by kernel_rfl) ?_
       refine tP (vB false) rfl (fun w => (Step.cast (congrArg Value.bool h32) (Step.move rfl))) (tM (vB false) rfl (tM v rfl (tM (vI ↑k_) rfl (tP (vQ v k_ 3) rfl (fun w => (sX k_ Try.un23 Try.el31 rfl rfl hb34)) (tQ (vR v k_ 3 1) rfl (tR (vS x36.k) rfl (fun A w M => (Step.loadE (k := 1) Try.sc9 (flat_ec (M.rep 1 rfl) hx36 actE_len) (by decide) rfl rfl)) (tM kv rfl (tM (vI ↑i_) rfl (tP (vQ kv i_ 1) rfl (fun w => (sX i_ Try.un22 Try.el9 rfl rfl hb23)) (tR (vS x25) rfl (fun A w M => (Step.loadE (k := 0) Try.sc9 (flat_ec (M.rep 0 rfl) hx25 strE_len) (by decide) rfl rfl)) (tQ (vB (x36.k.toList == x25.toList)) rfl (tP (vB (x36.k.toList == x25.toList)) rfl (fun w => (Step.pick (t := false) rfl rfl)) (tP (vB (x36.k.toList == x25.toList)) rfl (fun w => (Step.assign rfl)) ?_)))))))))))))
       refine TW.done (fun w37 M => ?_)
       refine W.region rfl (wM (vI ↑k_) (wS (vI (↑k_ + 1)) rfl (Step.add rfl rfl (wrap_i64 (by omega))) (wA (vI (↑k_ + 1)) (WL.nil ?_))))
       exact ⟨_, (by omega), k_ + 1, (x36.k.toList == x25.toList), ⟨(by omega), (fun h_ => tchP_step (htd_ (by simpa using h32)) hx36 (by rw [sEq_dec] at h_; simpa using h_)), rfl⟩, ⟨rfl, rfl, rfl, rfl, rfl, rfl, rfl, rfl, rfl, rfl, rfl, rfl, rfl, rfl, rfl, rfl, rfl, rfl, rfl, rfl, rfl, rfl, rfl, rfl, rfl, rfl⟩, M⟩
     ·
      have h31p := dF h31
      refine W.exit (thn_exit (thn_exit ?_))
      refine inBlk_hit ?_
      refine wR (wM (vB td_) (wP (vB !td_) (WL.nil ?_)))
      refine W.cond (t := !td_) rfl (fun h38 => ?_) (fun h38 => ?_)
      ·
       refine W.region rfl (wM sv_ (wM kv (wM (vI ↑i_) (wS (vQ kv i_ 1) rfl (sX i_ Try.un22 Try.el9 rfl rfl hb23) (wS (vS x25) rfl (Step.loadE (k := 0) Try.sc9 (flat_ec (M.rep 0 rfl) hx25 strE_len) (by decide) rfl rfl) ?_)))))
       refine WL.new (obj := .cells #[(vS x25)] 9) (fun b => .slice (some ⟨b, 0, none⟩) 1 1) M rfl (fun w => Step.make (by kernel_rfl)) (fun b39 w40 hb39 M => ?_)
       refine WL.does rfl (M.appendF ss_ ([x25] : List ByteArray) (sv := (Value.slice (some ⟨b39, 0, none⟩) 1 1)) 1 Try.un22 Try.el9 rfl (by decide) rfl rfl rfl (SlAt.of_blk (M.blk 0 rfl) rfl (by decide)) strE_cel (by have := hbss_; simp only [maxLen, List.length_nil, List.length_cons, List.length_append]; omega) (by have := hbss_; (try simp only [List.length_nil, List.length_cons, List.length_append]); omega)) ?_
       rintro v41 w42 M
       have sl43 : IsSl v41 := SlAt.isSl (oW (M.chunk 1 rfl).inv)
       refine wA v41 (WL.nil (W.region rfl (wM (vI ↑i_) (wS (vI (↑i_ + 1)) rfl (Step.add rfl rfl (wrap_i64 (by omega))) (wA (vI (↑i_ + 1)) (WL.nil ?_))))))
       replace M := M.sel (L' := [oS v41 (ss_ ++ ([x25] : List ByteArray)), tT S11 tb10 (rowE ks ks.length) ks.length]) [1, 2] rfl (by decide)
       exact ⟨_, (by omega), i_ + 1, v41, ss_ ++ ([x25] : List ByteArray), ⟨(by omega), (by simp; omega), (stayP_add hst_ hx25 (htd_ (by simpa using h38)) (by omega)), rfl⟩, ⟨rfl, rfl, rfl, rfl, rfl, rfl, rfl, rfl, rfl, rfl, rfl, rfl⟩, M⟩
      ·
       refine W.skip (W.region rfl (wM (vI ↑i_) (wS (vI (↑i_ + 1)) rfl (Step.add rfl rfl (wrap_i64 (by omega))) (wA (vI (↑i_ + 1)) (WL.nil ?_)))))
       exact ⟨_, (by omega), i_ + 1, sv_, ss_, ⟨(by omega), (by omega), hst_, rfl⟩, ⟨rfl, rfl, rfl, rfl, rfl, rfl, rfl, rfl, rfl, rfl, rfl, rfl⟩, M⟩
    ·
     rw [h26]
     refine wM (vS t) (wP (vB (!(t.toList == sZ.toList))) (wM (vB (!(t.toList == sZ.toList))) ?_))
     rcases Bool.eq_false_or_eq_true (!(t.toList == sZ.toList)) with h44 | h44
     ·
      rw [h44]
      refine wM kv (wM (vI ↑i_) (wS (vQ kv i_ 1) rfl (sX i_ Try.un22 Try.el9 rfl rfl hb23) (wS (vS x25) rfl (Step.loadE (k := 0) Try.sc9 (flat_ec (M.rep 0 rfl) hx25 strE_len) (by decide) rfl rfl) (wM (vS t) (wP (vB (!(sLt x25 t))) (wS (vB (!(sLt x25 t))) rfl (Step.pick (t := true) rfl rfl) (wS (vB (!(sLt x25 t))) rfl (Step.pick (t := false) rfl rfl) (wA (vB (!(sLt x25 t))) (WL.nil (W.seq' (wR (wA (vI 0) (WL.nil (W.block ?_))))))))))))))
      refine W.loop (fun kk ρ w' => ∃ (k_ : Nat) (td_ : Bool), ((k_ ≤ l.length) ∧ (td_ = false → tchP l (⟨f, t, b, sZ, false⟩ : Scn) k_ x25) ∧ kk = l.length - k_) ∧ ρ.has [(0, kv), (1, (vS f)), (2, (vS t)), (3, (vB b)), (4, v), (5, (vI n)), (12, (vB false)), (13, (vP tb10)), (15, sv_), (16, (vI ↑i_)), (17, (vB td_)), (18, (vI ↑k_)), (50, (vI ↑i_)), (51, kv), (52, (vI ↑ks.length)), (53, (vB (decide ((↑i_ : Int) < (↑ks.length : Int))))), (56, kv), (57, (vI ↑i_)), (58, (vQ kv i_ 1)), (59, (vS x25)), (60, (vS f)), (61, (vB false)), (62, (vB false)), (63, (vS t)), (64, (vB true)), (65, (vB true)), (66, kv), (67, (vI ↑i_)), (68, (vQ kv i_ 1)), (69, (vS x25)), (70, (vS t)), (71, (vB (!(sLt x25 t)))), (72, (vB (!(sLt x25 t)))), (73, (vB (!(sLt x25 t))))] ∧ Mem G (fun _ => False) w [oS sv_ ss_, tT S11 tb10 (rowE ks ks.length) ks.length] [fS kv ks, SlAt 3 v l.length (l.flatMap actE)]  w') _ ⟨0, (!(sLt x25 t)), ⟨(Nat.zero_le _), (fun h_ => tchP_zero (wn_t (by simpa using h26) (by simpa using h_))), rfl⟩, ⟨rfl, rfl, rfl, rfl, rfl, rfl, rfl, rfl, rfl, rfl, rfl, rfl, rfl, rfl, rfl, rfl, rfl, rfl, rfl, rfl, rfl, rfl, rfl, rfl, rfl, rfl, rfl, rfl, rfl, rfl, rfl, rfl, rfl, rfl, rfl, rfl⟩, M⟩ ?_
      rintro _ ρ46 w45 ⟨k_, td_, ⟨hi47, hi48, rfl⟩, hρ, M⟩
      obtain ⟨ρ46, rfl⟩ := hρ.know
      clear hρ
      have htd_ : td_ = false → tchP l (⟨f, t, b, sZ, false⟩ : Scn) k_ x25 := hi48
      refine W.seq' (wR (wM (vI ↑k_) (wM v (wS (vI ↑l.length) rfl (Step.lenSl Try.un23 rfl (M.rep 1 rfl)) (wP (vB (decide ((↑k_ : Int) < (↑l.length : Int)))) (WL.nil ?_))))))
      refine W.cond (t := decide ((↑k_ : Int) < (↑l.length : Int))) rfl (fun h49 => ?_) (fun h49 => ?_)
      ·
       have h49p := dT h49
       refine W.skip (W.seq' (W.block ?_))
       rcases Bool.eq_false_or_eq_true (td_) with h50 | h50
       ·
        refine W.drawn M [0, 1, 2, 3, 4, 5, 6, 7, 8, 9, 10, 11, 12, 13] [] [] _ _ (sY (sY sE)) (fun _ h => h) Try.mixed (by kernel_rfl) ?_
        refine tP (vB true) rfl (fun w => (Step.cast (congrArg Value.bool h50) (Step.move rfl))) (tM (vB true) rfl ?_)
        refine TW.skip rfl rfl ?_
        refine TW.skip rfl rfl ?_
        refine TW.skip rfl rfl ?_
        refine TW.skip rfl rfl ?_
        refine TW.skip rfl rfl ?_
        refine TW.skip rfl rfl ?_
        refine TW.skip rfl rfl ?_
        refine TW.skip rfl rfl ?_
        refine TW.skip rfl rfl ?_
        refine TW.skip rfl rfl ?_
        refine tP (vB true) rfl (fun w => (Step.pick (t := true) rfl rfl)) (tP (vB true) rfl (fun w => (Step.assign rfl)) ?_)
        refine TW.done (fun w51 M => ?_)
        refine W.region rfl (wM (vI ↑k_) (wS (vI (↑k_ + 1)) rfl (Step.add rfl rfl (wrap_i64 (by omega))) (wA (vI (↑k_ + 1)) (WL.nil ?_))))
        exact ⟨_, (by omega), k_ + 1, true, ⟨(by omega), (fun h_ => by cases h_), rfl⟩, ⟨rfl, rfl, rfl, rfl, rfl, rfl, rfl, rfl, rfl, rfl, rfl, rfl, rfl, rfl, rfl, rfl, rfl, rfl, rfl, rfl, rfl, rfl, rfl, rfl, rfl, rfl, rfl, rfl, rfl, rfl, rfl, rfl, rfl, rfl, rfl, rfl⟩, M⟩
       ·
        obtain ⟨cap53, hb52⟩ := SlAt.base (M.rep 1 rfl) (by omega)
        obtain ⟨x54, hx54⟩ := elem_of_lt (xs := l) (i := k_) (by omega)
        refine W.drawn M [0, 1, 2, 3, 4, 5, 6, 7, 8, 9, 10, 11, 12, 13] [] [] _ _ (sY (sY sE)) (fun _ h => h) Try.mixed (by kernel_rfl) ?_
        refine tP (vB false) rfl (fun w => (Step.cast (congrArg Value.bool h50) (Step.move rfl))) (tM (vB false) rfl (tM v rfl (tM (vI ↑k_) rfl (tP (vQ v k_ 3) rfl (fun w => (sX k_ Try.un23 Try.el31 rfl rfl hb52)) (tQ (vR v k_ 3 1) rfl (tR (vS x54.k) rfl (fun A w M => (Step.loadE (k := 1) Try.sc9 (flat_ec (M.rep 1 rfl) hx54 actE_len) (by decide) rfl rfl)) (tM kv rfl (tM (vI ↑i_) rfl (tP (vQ kv i_ 1) rfl (fun w => (sX i_ Try.un22 Try.el9 rfl rfl hb23)) (tR (vS x25) rfl (fun A w M => (Step.loadE (k := 0) Try.sc9 (flat_ec (M.rep 0 rfl) hx25 strE_len) (by decide) rfl rfl)) (tQ (vB (x54.k.toList == x25.toList)) rfl (tP (vB (x54.k.toList == x25.toList)) rfl (fun w => (Step.pick (t := false) rfl rfl)) (tP (vB (x54.k.toList == x25.toList)) rfl (fun w => (Step.assign rfl)) ?_)))))))))))))
        refine TW.done (fun w55 M => ?_)
        refine W.region rfl (wM (vI ↑k_) (wS (vI (↑k_ + 1)) rfl (Step.add rfl rfl (wrap_i64 (by omega))) (wA (vI (↑k_ + 1)) (WL.nil ?_))))
        exact ⟨_, (by omega), k_ + 1, (x54.k.toList == x25.toList), ⟨(by omega), (fun h_ => tchP_step (htd_ (by simpa using h50)) hx54 (by rw [sEq_dec] at h_; simpa using h_)), rfl⟩, ⟨rfl, rfl, rfl, rfl, rfl, rfl, rfl, rfl, rfl, rfl, rfl, rfl, rfl, rfl, rfl, rfl, rfl, rfl, rfl, rfl, rfl, rfl, rfl, rfl, rfl, rfl, rfl, rfl, rfl, rfl, rfl, rfl, rfl, rfl, rfl, rfl⟩, M⟩
      ·
       have h49p := dF h49
       refine W.exit (thn_exit (thn_exit ?_))
       refine inBlk_hit ?_
       refine wR (wM (vB td_) (wP (vB !td_) (WL.nil ?_)))
       refine W.cond (t := !td_) rfl (fun h56 => ?_) (fun h56 => ?_)
       ·
        refine W.region rfl (wM sv_ (wM kv (wM (vI ↑i_) (wS (vQ kv i_ 1) rfl (sX i_ Try.un22 Try.el9 rfl rfl hb23) (wS (vS x25) rfl (Step.loadE (k := 0) Try.sc9 (flat_ec (M.rep 0 rfl) hx25 strE_len) (by decide) rfl rfl) ?_)))))
        refine WL.new (obj := .cells #[(vS x25)] 9) (fun b => .slice (some ⟨b, 0, none⟩) 1 1) M rfl (fun w => Step.make (by kernel_rfl)) (fun b57 w58 hb57 M => ?_)
        refine WL.does rfl (M.appendF ss_ ([x25] : List ByteArray) (sv := (Value.slice (some ⟨b57, 0, none⟩) 1 1)) 1 Try.un22 Try.el9 rfl (by decide) rfl rfl rfl (SlAt.of_blk (M.blk 0 rfl) rfl (by decide)) strE_cel (by have := hbss_; simp only [maxLen, List.length_nil, List.length_cons, List.length_append]; omega) (by have := hbss_; (try simp only [List.length_nil, List.length_cons, List.length_append]); omega)) ?_
        rintro v59 w60 M
        have sl61 : IsSl v59 := SlAt.isSl (oW (M.chunk 1 rfl).inv)
        refine wA v59 (WL.nil (W.region rfl (wM (vI ↑i_) (wS (vI (↑i_ + 1)) rfl (Step.add rfl rfl (wrap_i64 (by omega))) (wA (vI (↑i_ + 1)) (WL.nil ?_))))))
        replace M := M.sel (L' := [oS v59 (ss_ ++ ([x25] : List ByteArray)), tT S11 tb10 (rowE ks ks.length) ks.length]) [1, 2] rfl (by decide)
        exact ⟨_, (by omega), i_ + 1, v59, ss_ ++ ([x25] : List ByteArray), ⟨(by omega), (by simp; omega), (stayP_add hst_ hx25 (htd_ (by simpa using h56)) (by omega)), rfl⟩, ⟨rfl, rfl, rfl, rfl, rfl, rfl, rfl, rfl, rfl, rfl, rfl, rfl⟩, M⟩
       ·
        refine W.skip (W.region rfl (wM (vI ↑i_) (wS (vI (↑i_ + 1)) rfl (Step.add rfl rfl (wrap_i64 (by omega))) (wA (vI (↑i_ + 1)) (WL.nil ?_)))))
        exact ⟨_, (by omega), i_ + 1, sv_, ss_, ⟨(by omega), (by omega), hst_, rfl⟩, ⟨rfl, rfl, rfl, rfl, rfl, rfl, rfl, rfl, rfl, rfl, rfl, rfl⟩, M⟩
     ·
      rw [h44]
      refine WL.pass rfl (WL.pass rfl (WL.pass rfl (WL.pass rfl (WL.pass rfl (WL.pass rfl (wS (vB false) rfl (Step.pick (t := false) rfl rfl) (wS (vB false) rfl (Step.pick (t := false) rfl rfl) (wA (vB false) (WL.nil (W.seq' (wR (wA (vI 0) (WL.nil (W.block ?_))))))))))))))
      refine W.loop (fun kk ρ w' => ∃ (k_ : Nat) (td_ : Bool), ((k_ ≤ l.length) ∧ (td_ = false → tchP l (⟨f, t, b, sZ, false⟩ : Scn) k_ x25) ∧ kk = l.length - k_) ∧ ρ.has [(0, kv), (1, (vS f)), (2, (vS t)), (3, (vB b)), (4, v), (5, (vI n)), (12, (vB false)), (13, (vP tb10)), (15, sv_), (16, (vI ↑i_)), (17, (vB td_)), (18, (vI ↑k_)), (50, (vI ↑i_)), (51, kv), (52, (vI ↑ks.length)), (53, (vB (decide ((↑i_ : Int) < (↑ks.length : Int))))), (56, kv), (57, (vI ↑i_)), (58, (vQ kv i_ 1)), (59, (vS x25)), (60, (vS f)), (61, (vB false)), (62, (vB false)), (63, (vS t)), (64, (vB false)), (65, (vB false)), (72, (vB false)), (73, (vB false))] ∧ Mem G (fun _ => False) w [oS sv_ ss_, tT S11 tb10 (rowE ks ks.length) ks.length] [fS kv ks, SlAt 3 v l.length (l.flatMap actE)]  w') _ ⟨0, false, ⟨(Nat.zero_le _), (fun _ => tchP_zero (wn_z (by simpa using h26) (by have h2_ := h44; simp only [bne, sEq_dec] at h2_; simpa using h2_))), rfl⟩, ⟨rfl, rfl, rfl, rfl, rfl, rfl, rfl, rfl, rfl, rfl, rfl, rfl, rfl, rfl, rfl, rfl, rfl, rfl, rfl, rfl, rfl, rfl, rfl, rfl, rfl, rfl, rfl, rfl, rfl, rfl⟩, M⟩ ?_
      rintro _ ρ63 w62 ⟨k_, td_, ⟨hi64, hi65, rfl⟩, hρ, M⟩
      obtain ⟨ρ63, rfl⟩ := hρ.know
      clear hρ
      have htd_ : td_ = false → tchP l (⟨f, t, b, sZ, false⟩ : Scn) k_ x25 := hi65
      refine W.seq' (wR (wM (vI ↑k_) (wM v (wS (vI ↑l.length) rfl (Step.lenSl Try.un23 rfl (M.rep 1 rfl)) (wP (vB (decide ((↑k_ : Int) < (↑l.length : Int)))) (WL.nil ?_))))))
      refine W.cond (t := decide ((↑k_ : Int) < (↑l.length : Int))) rfl (fun h66 => ?_) (fun h66 => ?_)
      ·
       have h66p := dT h66
       refine W.skip (W.seq' (W.block ?_))
       rcases Bool.eq_false_or_eq_true (td_) with h67 | h67
       ·
        refine W.drawn M [0, 1, 2, 3, 4, 5, 6, 7, 8, 9, 10, 11, 12, 13] [] [] _ _ (sY (sY sE)) (fun _ h => h) Try.mixed (by kernel_rfl) ?_
        refine tP (vB true) rfl (fun w => (Step.cast (congrArg Value.bool h67) (Step.move rfl))) (tM (vB true) rfl ?_)
        refine TW.skip rfl rfl ?_
        refine TW.skip rfl rfl ?_
        refine TW.skip rfl rfl ?_
        refine TW.skip rfl rfl ?_
        refine TW.skip rfl rfl ?_
        refine TW.skip rfl rfl ?_
        refine TW.skip rfl rfl ?_
        refine TW.skip rfl rfl ?_
        refine TW.skip rfl rfl ?_
        refine TW.skip rfl rfl ?_
        refine tP (vB true) rfl (fun w => (Step.pick (t := true) rfl rfl)) (tP (vB true) rfl (fun w => (Step.assign rfl)) ?_)
        refine TW.done (fun w68 M => ?_)
        refine W.region rfl (wM (vI ↑k_) (wS (vI (↑k_ + 1)) rfl (Step.add rfl rfl (wrap_i64 (by omega))) (wA (vI (↑k_ + 1)) (WL.nil ?_))))
        exact ⟨_, (by omega), k_ + 1, true, ⟨(by omega), (fun h_ => by cases h_), rfl⟩, ⟨rfl, rfl, rfl, rfl, rfl, rfl, rfl, rfl, rfl, rfl, rfl, rfl, rfl, rfl, rfl, rfl, rfl, rfl, rfl, rfl, rfl, rfl, rfl, rfl, rfl, rfl, rfl, rfl, rfl, rfl⟩, M⟩
       ·
        obtain ⟨cap70, hb69⟩ := SlAt.base (M.rep 1 rfl) (by omega)
        obtain ⟨x71, hx71⟩ := elem_of_lt (xs := l) (i := k_) (by omega)
        refine W.drawn M [0, 1, 2, 3, 4, 5, 6, 7, 8, 9, 10, 11, 12, 13] [] [] _ _ (sY (sY sE)) (fun _ h => h) Try.mixed (by kernel_rfl) ?_
        refine tP (vB false) rfl (fun w => (Step.cast (congrArg Value.bool h67) (Step.move rfl))) (tM (vB false) rfl (tM v rfl (tM (vI ↑k_) rfl (tP (vQ v k_ 3) rfl (fun w => (sX k_ Try.un23 Try.el31 rfl rfl hb69)) (tQ (vR v k_ 3 1) rfl (tR (vS x71.k) rfl (fun A w M => (Step.loadE (k := 1) Try.sc9 (flat_ec (M.rep 1 rfl) hx71 actE_len) (by decide) rfl rfl)) (tM kv rfl (tM (vI ↑i_) rfl (tP (vQ kv i_ 1) rfl (fun w => (sX i_ Try.un22 Try.el9 rfl rfl hb23)) (tR (vS x25) rfl (fun A w M => (Step.loadE (k := 0) Try.sc9 (flat_ec (M.rep 0 rfl) hx25 strE_len) (by decide) rfl rfl)) (tQ (vB (x71.k.toList == x25.toList)) rfl (tP (vB (x71.k.toList == x25.toList)) rfl (fun w => (Step.pick (t := false) rfl rfl)) (tP (vB (x71.k.toList == x25.toList)) rfl (fun w => (Step.assign rfl)) ?_)))))))))))))
        refine TW.done (fun w72 M => ?_)
        refine W.region rfl (wM (vI ↑k_) (wS (vI (↑k_ + 1)) rfl (Step.add rfl rfl (wrap_i64 (by omega))) (wA (vI (↑k_ + 1)) (WL.nil ?_))))
        exact ⟨_, (by omega), k_ + 1, (x71.k.toList == x25.toList), ⟨(by omega), (fun h_ => tchP_step (htd_ (by simpa using h67)) hx71 (by rw [sEq_dec] at h_; simpa using h_)), rfl⟩, ⟨rfl, rfl, rfl, rfl, rfl, rfl, rfl, rfl, rfl, rfl, rfl, rfl, rfl, rfl, rfl, rfl, rfl, rfl, rfl, rfl, rfl, rfl, rfl, rfl, rfl, rfl, rfl, rfl, rfl, rfl⟩, M⟩
      ·
       have h66p := dF h66
       refine W.exit (thn_exit (thn_exit ?_))
       refine inBlk_hit ?_
       refine wR (wM (vB td_) (wP (vB !td_) (WL.nil ?_)))
       refine W.cond (t := !td_) rfl (fun h73 => ?_) (fun h73 => ?_)
       ·
        refine W.region rfl (wM sv_ (wM kv (wM (vI ↑i_) (wS (vQ kv i_ 1) rfl (sX i_ Try.un22 Try.el9 rfl rfl hb23) (wS (vS x25) rfl (Step.loadE (k := 0) Try.sc9 (flat_ec (M.rep 0 rfl) hx25 strE_len) (by decide) rfl rfl) ?_)))))
        refine WL.new (obj := .cells #[(vS x25)] 9) (fun b => .slice (some ⟨b, 0, none⟩) 1 1) M rfl (fun w => Step.make (by kernel_rfl)) (fun b74 w75 hb74 M => ?_)
        refine WL.does rfl (M.appendF ss_ ([x25] : List ByteArray) (sv := (Value.slice (some ⟨b74, 0, none⟩) 1 1)) 1 Try.un22 Try.el9 rfl (by decide) rfl rfl rfl (SlAt.of_blk (M.blk 0 rfl) rfl (by decide)) strE_cel (by have := hbss_; simp only [maxLen, List.length_nil, List.length_cons, List.length_append]; omega) (by have := hbss_; (try simp only [List.length_nil, List.length_cons, List.length_append]); omega)) ?_
        rintro v76 w77 M
        have sl78 : IsSl v76 := SlAt.isSl (oW (M.chunk 1 rfl).inv)
        refine wA v76 (WL.nil (W.region rfl (wM (vI ↑i_) (wS (vI (↑i_ + 1)) rfl (Step.add rfl rfl (wrap_i64 (by omega))) (wA (vI (↑i_ + 1)) (WL.nil ?_))))))
        replace M := M.sel (L' := [oS v76 (ss_ ++ ([x25] : List ByteArray)), tT S11 tb10 (rowE ks ks.length) ks.length]) [1, 2] rfl (by decide)
        exact ⟨_, (by omega), i_ + 1, v76, ss_ ++ ([x25] : List ByteArray), ⟨(by omega), (by simp; omega), (stayP_add hst_ hx25 (htd_ (by simpa using h73)) (by omega)), rfl⟩, ⟨rfl, rfl, rfl, rfl, rfl, rfl, rfl, rfl, rfl, rfl, rfl, rfl⟩, M⟩
       ·
        refine W.skip (W.region rfl (wM (vI ↑i_) (wS (vI (↑i_ + 1)) rfl (Step.add rfl rfl (wrap_i64 (by omega))) (wA (vI (↑i_ + 1)) (WL.nil ?_)))))
        exact ⟨_, (by omega), i_ + 1, sv_, ss_, ⟨(by omega), (by omega), hst_, rfl⟩, ⟨rfl, rfl, rfl, rfl, rfl, rfl, rfl, rfl, rfl, rfl, rfl, rfl⟩, M⟩
   ·
    have h22p := dF h22
    refine W.exit (thn_exit (thn_exit ?_))
    refine inBlk_hit ?_
    refine wR (wM (vS f) (wM (vS t) (wM (vB b) ?_)))
    refine WL.callX rfl (sc_new f t b (M.enterW0 trivial)) (CallsF.func Try.en14 rfl) ?_
    rintro _ w80 ⟨sb79, rfl, m⟩
    replace M := M.leaveW0 m
    clear m
    refine wA (vP sb79) (WL.nil (wR (wA vZ (WL.nil (W.seq' (wR (wA (vI 0) (WL.nil (W.block ?_)))))))))
    replace M := M.ownNil 9 1
    replace M := M.sel (L' := [tT S11 tb10 (rowE ks ks.length) ks.length, bk sb79 #[(vS ((⟨f, t, b, sZ, false⟩ : Scn).frm)), (vS ((⟨f, t, b, sZ, false⟩ : Scn).to_)), (vB ((⟨f, t, b, sZ, false⟩ : Scn).back)), (vS ((⟨f, t, b, sZ, false⟩ : Scn).at_)), (vB ((⟨f, t, b, sZ, false⟩ : Scn).told))] 88, oS vZ ([] : List ByteArray), oS sv_ ss_]) [3, 1, 0, 2] rfl (by decide)
    obtain ⟨hup0_, hrc0_⟩ := tabC_up (M.chunk 0 rfl).inv
    have hwi0_ := WI.init (by omega) hrc0_ hst_
    have hp5_ := pick_five n
    obtain ⟨q_, hq_, hq1_, hq5_⟩ : ∃ q : Int, (1 : Int) + pickI n 5 = q ∧ 1 ≤ q ∧ q ≤ 5 := ⟨_, rfl, by omega, by omega⟩
    refine W.loop (fun kk ρ w' => ∃ (r_ : Nat) (row_ : List THit) (s_ : Scn) (ts_ : List ByteArray) (tv_ : Value) (S_ : Nat → Prop) (c_ : Nat), ((r_ ≤ 100) ∧ (c_ ≤ ks.length + r_) ∧ (c_ ≤ ks.length + l.length) ∧ (WI ks l ss_ b r_ row_ s_ ts_) ∧ kk = 100 - r_) ∧ ρ.has [(1, (vS f)), (2, (vS t)), (3, (vB b)), (4, v), (5, (vI n)), (13, (vP tb10)), (15, sv_), (19, (vP sb79)), (20, tv_), (21, (vI ↑r_))] ∧ Mem G (fun _ => False) w [tT S_ tb10 row_ c_, bk sb79 #[(vS s_.frm), (vS s_.to_), (vB s_.back), (vS s_.at_), (vB s_.told)] 88, oS tv_ ts_, oS sv_ ss_] [fS kv ks, SlAt 3 v l.length (l.flatMap actE)]  w') _ ⟨0, rowE ks ks.length, (⟨f, t, b, sZ, false⟩ : Scn), ([] : List ByteArray), vZ, S11, ks.length, ⟨(Nat.zero_le _), (Nat.le_refl _), (by omega), hwi0_, rfl⟩, ⟨rfl, rfl, rfl, rfl, rfl, rfl, rfl, rfl, rfl, rfl, rfl, rfl⟩, M⟩ ?_
    rintro _ ρ82 w81 ⟨r_, row_, s_, ts_, tv_, S_, c_, ⟨hi83, hi84, hi85, hi86, rfl⟩, hρ, M⟩
    obtain ⟨ρ82, rfl⟩ := hρ.know
    clear hρ
    have sl87 : IsSl tv_ := SlAt.isSl (oW (M.chunk 2 rfl).inv)
    have hwi_ : WI ks l ss_ b r_ row_ s_ ts_ := hi86
    have hln_ := hwi_.len
    have hrs_ := hwi_.rest
    obtain ⟨hup_, hrc_⟩ := tabC_up (M.chunk 0 rfl).inv
    refine W.seq' (wR (wM (vI ↑r_) (wP (vB (decide ((↑r_ : Int) < (100 : Int)))) (WL.nil ?_))))
    refine W.cond (t := decide ((↑r_ : Int) < (100 : Int))) rfl (fun h88 => ?_) (fun h88 => ?_)
    ·
     have h88p := dT h88
     refine W.skip (W.seq' (W.block (wR (wM (vP sb79) (wM (vP tb10) (wM (vI n) ?_))))))
     refine WL.callX rfl (kit_pick n 5 (by omega) (M.enterW0 trivial)) (CallsF.func Try.en16 rfl) ?_
     rintro _ w89 ⟨rfl, m⟩
     replace M := M.leaveW0 m
     clear m
     refine wS (vI q_) rfl (Step.cast (congrArg (Value.int .i64) hq_) (Step.add rfl rfl (wrap_i64 (by omega)))) ?_
     have fq := M.frm [bk sb79 #[(vS s_.frm), (vS s_.to_), (vB s_.back), (vS s_.at_), (vB s_.told)] 88, tT S_ tb10 row_ c_] [oS tv_ ts_, oS sv_ ss_] [1, 0, 2, 3] rfl
     refine WL.callX rfl (sc_page sb79 s_ tb10 S_ row_ c_ q_ (by first | assumption | omega) (M.eF fq trivial)) (CallsF.func Try.en15 rfl) ?_
     rintro _ w91 ⟨v90, rfl, m⟩
     replace M := M.lF fq m
     clear m
     have sl92 : IsSl v90 := SlAt.isSl (oW (Mem.chunk M 2 rfl).inv)
     have hle93 := SlAt.le' (oW (Mem.chunk M 2 rfl).inv)
     have hwp_ := hwi_.page hup_ hq1_ hq5_
     have hpl5_ := page_five (s := s_) (row := row_) hq5_
     refine wM (Value.tuple #[v90, (vB (pageD s_ row_ q_))]) (wP v90 (wP (vB (pageD s_ row_ q_)) (wA v90 (wA (vB (pageD s_ row_ q_)) (WL.nil (W.seq' (wR (wA (vI 0) (WL.nil (W.block ?_))))))))))
     replace M : Mem _ _ _ [bk sb79 #[(vS ((pageS s_ row_ q_).frm)), (vS ((pageS s_ row_ q_).to_)), (vB ((pageS s_ row_ q_).back)), (vS ((pageS s_ row_ q_).at_)), (vB ((pageS s_ row_ q_).told))] 88, tT S_ tb10 row_ c_, oR v90 (pageL s_ row_ q_), oS tv_ ts_, oS sv_ ss_] [fS kv ks, SlAt 3 v l.length (l.flatMap actE)] _ := M
     replace M := M.rechunk 3 (c' := oS tv_ (ts_ ++ ((pageL s_ row_ q_).take 0).map THit.key)) rfl (by simp)
     replace M := M.sel (L' := [oS tv_ (ts_ ++ ((pageL s_ row_ q_).take 0).map THit.key), bk sb79 #[(vS ((pageS s_ row_ q_).frm)), (vS ((pageS s_ row_ q_).to_)), (vB ((pageS s_ row_ q_).back)), (vS ((pageS s_ row_ q_).at_)), (vB ((pageS s_ row_ q_).told))] 88, tT S_ tb10 row_ c_, oR v90 (pageL s_ row_ q_), oS sv_ ss_]) [3, 0, 1, 2, 4] rfl (by decide)
     refine W.loop (fun kk ρ w' => ∃ (k_ : Nat) (acck_ : Value), ((k_ ≤ (pageL s_ row_ q_).length) ∧ kk = (pageL s_ row_ q_).length - k_) ∧ ρ.has [(1, (vS f)), (2, (vS t)), (3, (vB b)), (4, v), (5, (vI n)), (13, (vP tb10)), (15, sv_), (19, (vP sb79)), (20, acck_), (21, (vI ↑r_)), (22, v90), (23, (vB (pageD s_ row_ q_))), (24, (vI ↑k_)), (106, (vI ↑r_)), (107, (vB (decide ((↑r_ : Int) < (100 : Int))))), (110, (Value.tuple #[v90, (vB (pageD s_ row_ q_))])), (111, (vP sb79)), (112, (vP tb10)), (113, (vI n)), (114, (vI (pickI n 5))), (115, (vI q_)), (116, (Value.tuple #[v90, (vB (pageD s_ row_ q_))])), (117, v90), (118, (vB (pageD s_ row_ q_)))] ∧ Mem G (fun _ => False) w [oS acck_ (ts_ ++ ((pageL s_ row_ q_).take k_).map THit.key), bk sb79 #[(vS ((pageS s_ row_ q_).frm)), (vS ((pageS s_ row_ q_).to_)), (vB ((pageS s_ row_ q_).back)), (vS ((pageS s_ row_ q_).at_)), (vB ((pageS s_ row_ q_).told))] 88, tT S_ tb10 row_ c_, oR v90 (pageL s_ row_ q_), oS sv_ ss_] [fS kv ks, SlAt 3 v l.length (l.flatMap actE)]  w') _ ⟨0, _, ⟨(Nat.zero_le _), rfl⟩, ⟨rfl, rfl, rfl, rfl, rfl, rfl, rfl, rfl, rfl, rfl, rfl, rfl, rfl, rfl, rfl, rfl, rfl, rfl, rfl, rfl, rfl, rfl, rfl, rfl, rfl, rfl⟩, M⟩ ?_
     rintro _ ρ95 w94 ⟨k_, acck_, ⟨hi96, rfl⟩, hρ, M⟩
     obtain ⟨ρ95, rfl⟩ := hρ.know
     clear hρ
     have sl97 : IsSl acck_ := SlAt.isSl (oW (M.chunk 0 rfl).inv)
     have hacl : (ts_ ++ ((pageL s_ row_ q_).take k_).map THit.key).length ≤ 400000 := by rw [List.length_append, List.length_map, List.length_take]; omega
     have hacn := hacl
     rw [List.length_append] at hacn
     refine W.seq' (wR (wM (vI ↑k_) (wM v90 (wS (vI (↑((pageL s_ row_ q_).length))) rfl (Step.lenSl Try.un34 rfl (oW (M.chunk 3 rfl).inv)) (wP (vB (decide ((↑k_ : Int) < (↑((pageL s_ row_ q_).length) : Int)))) (WL.nil ?_))))))
     refine W.cond (t := decide ((↑k_ : Int) < (↑((pageL s_ row_ q_).length) : Int))) rfl (fun h98 => ?_) (fun h98 => ?_)
     ·
      have h98p := dT h98
      refine W.skip (W.seq' (W.block (wR (wM (vP tb10) (wM v90 (wM (vI ↑k_) ?_))))))
      obtain ⟨cap100, hb99⟩ := SlAt.base (oW (M.chunk 3 rfl).inv) (by omega)
      refine wS (vQ v90 k_ 2) rfl (sX k_ Try.un34 Try.el41 rfl rfl hb99) (wP (vQ v90 k_ 2) ?_)
      obtain ⟨x101, hx101⟩ := elem_of_lt (xs := pageL s_ row_ q_) (i := k_) (by omega)
      refine wS (vS x101.key) rfl (Step.loadE (k := 0) Try.sc9 (flat_ec (oW (M.chunk 3 rfl).inv) hx101 hitE_len) (by decide) rfl rfl) ?_
      have fq := M.frm [tT S_ tb10 row_ c_] [oS acck_ (ts_ ++ ((pageL s_ row_ q_).take k_).map THit.key), bk sb79 #[(vS ((pageS s_ row_ q_).frm)), (vS ((pageS s_ row_ q_).to_)), (vB ((pageS s_ row_ q_).back)), (vS ((pageS s_ row_ q_).at_)), (vB ((pageS s_ row_ q_).told))] 88, oR v90 (pageL s_ row_ q_), oS sv_ ss_] [2, 0, 1, 3, 4] rfl
      refine WL.callX rfl (T_get tb10 S_ row_ c_ x101.key (by first | assumption | omega) (M.eF fq trivial)) (CallsF.func Try.en17 rfl) ?_
      rintro _ w102 ⟨rfl, m⟩
      replace M := M.lF fq m
      clear m
      refine wM (Value.tuple #[(vI ((getL row_ x101.key).1)), (vB ((getL row_ x101.key).2))]) (wS (vI x101.val) rfl (Step.cast (congrArg (Value.int .i64) (show ((getL row_ x101.key).1 : Int) = x101.val by rw [page_get hup_ hx101])) sP) (wS (vB true) rfl (Step.cast (congrArg Value.bool (show ((getL row_ x101.key).2) = true by rw [page_get hup_ hx101])) sP) (wA (vI x101.val) (wA (vB true) (WL.nil (W.seq' (wR (wM (vB true) (wP (vB false) (wM (vB false) (wM (vI x101.val) (wM v90 (wM (vI ↑k_) (wS (vQ v90 k_ 2) rfl (sX k_ Try.un34 Try.el41 rfl rfl hb99) (wP (vR v90 k_ 2 1) (wS (vI x101.val) rfl (Step.loadE (k := 1) Try.sc3 (flat_ec (oW (M.chunk 3 rfl).inv) hx101 hitE_len) (by decide) rfl rfl) (wS (vB false) rfl (Step.cast (congrArg Value.bool (show ((x101.val : Int) != (x101.val : Int)) = false by simp)) sP) (wS (vB false) rfl (Step.pick (t := false) rfl rfl) (WL.nil ?_)))))))))))))))))))
      refine W.cond (t := false) rfl (fun h => by cases h) (fun _ => ?_)
      refine W.skip (W.region rfl (wM acck_ (wM v90 (wM (vI ↑k_) (wS (vQ v90 k_ 2) rfl (sX k_ Try.un34 Try.el41 rfl rfl hb99) (wP (vQ v90 k_ 2) (wS (vS x101.key) rfl (Step.loadE (k := 0) Try.sc9 (flat_ec (oW (M.chunk 3 rfl).inv) hx101 hitE_len) (by decide) rfl rfl) ?_)))))))
      refine WL.new (obj := .cells #[(vS x101.key)] 9) (fun b => .slice (some ⟨b, 0, none⟩) 1 1) M rfl (fun w => Step.make (by kernel_rfl)) (fun b103 w104 hb103 M => ?_)
      refine WL.does rfl (M.appendF (ts_ ++ ((pageL s_ row_ q_).take k_).map THit.key) ([x101.key] : List ByteArray) (sv := (Value.slice (some ⟨b103, 0, none⟩) 1 1)) 2 Try.un22 Try.el9 rfl (by decide) rfl rfl rfl (SlAt.of_blk (M.blk 0 rfl) rfl (by decide)) strE_cel (by have := hacn; simp only [maxLen, List.length_nil, List.length_cons, List.length_append]; omega) (by have := hacn; (try simp only [List.length_nil, List.length_cons, List.length_append]); omega)) ?_
      rintro v105 w106 M
      have sl107 : IsSl v105 := SlAt.isSl (oW (M.chunk 2 rfl).inv)
      refine wA v105 (WL.nil (W.region rfl (wM (vI ↑k_) (wS (vI (↑k_ + 1)) rfl (Step.add rfl rfl (wrap_i64 (by omega))) (wA (vI (↑k_ + 1)) (WL.nil ?_))))))
      replace M := M.rechunk 2 (c' := oS v105 (ts_ ++ ((pageL s_ row_ q_).take (k_ + 1)).map THit.key)) rfl (by rw [map_snoc hx101, ← List.append_assoc])
      replace M := M.sel (L' := [oS v105 (ts_ ++ ((pageL s_ row_ q_).take (k_ + 1)).map THit.key), bk sb79 #[(vS ((pageS s_ row_ q_).frm)), (vS ((pageS s_ row_ q_).to_)), (vB ((pageS s_ row_ q_).back)), (vS ((pageS s_ row_ q_).at_)), (vB ((pageS s_ row_ q_).told))] 88, tT S_ tb10 row_ c_, oR v90 (pageL s_ row_ q_), oS sv_ ss_]) [2, 3, 1, 4, 5] rfl (by decide)
      exact ⟨_, (by omega), k_ + 1, v105, ⟨(by omega), rfl⟩, ⟨rfl, rfl, rfl, rfl, rfl, rfl, rfl, rfl, rfl, rfl, rfl, rfl, rfl, rfl, rfl, rfl, rfl, rfl, rfl, rfl, rfl, rfl, rfl, rfl, rfl, rfl⟩, M⟩
     ·
      have h98p := dF h98
      refine W.exit (thn_exit (thn_exit ?_))
      refine inBlk_hit ?_
      refine W.seq' (W.seq' ?_)
      obtain ⟨ts2_, hts2_⟩ : ∃ z, ts_ ++ (pageL s_ row_ q_).map THit.key = z := ⟨_, rfl⟩
      obtain ⟨s2_, hs2_⟩ : ∃ z, pageS s_ row_ q_ = z := ⟨_, rfl⟩
      rw [hts2_, hs2_] at hwp_
      have hln2_ := hwp_.len
      replace M := M.rechunk 0 (c' := oS acck_ ts2_) rfl (by rw [← hts2_, List.take_of_length_le (by omega)])
      replace M := M.rechunk 1 (c' := bk sb79 #[(vS s2_.frm), (vS s2_.to_), (vB s2_.back), (vS s2_.at_), (vB s2_.told)] 88) rfl (by rw [hs2_])
      replace M := M.sel (L' := [oS acck_ ts2_, bk sb79 #[(vS s2_.frm), (vS s2_.to_), (vB s2_.back), (vS s2_.at_), (vB s2_.told)] 88, tT S_ tb10 row_ c_, oS sv_ ss_]) [0, 1, 2, 4] rfl (by decide)
      refine W.region rfl (wM (vB (pageD s_ row_ q_)) (wM (vB (pageD s_ row_ q_)) ?_))
      rcases Bool.eq_false_or_eq_true (pageD s_ row_ q_) with h108 | h108
      ·
       rw [h108]
       refine wM (vI ↑r_) (wM v (wS (vI ↑l.length) rfl (Step.lenSl Try.un23 rfl (M.rep 1 rfl)) (wP (vB (decide ((↑r_ : Int) ≥ (↑l.length : Int)))) (wS (vB (decide ((↑r_ : Int) ≥ (↑l.length : Int)))) rfl (Step.pick (t := true) rfl rfl) (WL.nil ?_)))))
       refine W.cond (t := decide ((↑r_ : Int) ≥ (↑l.length : Int))) rfl (fun h109 => ?_) (fun h109 => ?_)
       ·
        have h109p := dT h109
        refine W.exit (thn_exit ?_)
        refine inBlk_miss (by decide) ?_
        refine thn_exit (thn_exit ?_)
        refine inBlk_hit ?_
        refine W.seq' (W.seq' ?_)
        have hend_ := hwp_.end_ (by rw [← hs2_]; exact page_end hup_ (by simpa using h108))
        refine W.region rfl (wA (vI 1) (WL.nil (W.block ?_)))
        refine W.loop (fun kk ρ w' => ∃ (m_ : Nat), ((1 ≤ m_) ∧ kk = ts2_.length - m_) ∧ ρ.has [(1, (vS f)), (2, (vS t)), (3, (vB b)), (13, (vP tb10)), (15, sv_), (20, acck_), (27, (vI ↑m_))] ∧ Mem G (fun _ => False) w [oS acck_ ts2_, bk sb79 #[(vS s2_.frm), (vS s2_.to_), (vB s2_.back), (vS s2_.at_), (vB s2_.told)] 88, tT S_ tb10 row_ c_, oS sv_ ss_] [fS kv ks, SlAt 3 v l.length (l.flatMap actE)]  w') _ ⟨1, ⟨(Nat.le_refl _), rfl⟩, ⟨rfl, rfl, rfl, rfl, rfl, rfl, rfl, rfl, rfl⟩, M⟩ ?_
        rintro _ ρ111 w110 ⟨m_, ⟨hi112, rfl⟩, hρ, M⟩
        obtain ⟨ρ111, rfl⟩ := hρ.know
        clear hρ
        refine W.seq' (wR (wM (vI ↑m_) (wM acck_ (wS (vI ↑ts2_.length) rfl (Step.lenSl Try.un22 rfl (oW (M.chunk 0 rfl).inv)) (wP (vB (decide ((↑m_ : Int) < (↑ts2_.length : Int)))) (WL.nil ?_))))))
        refine W.cond (t := decide ((↑m_ : Int) < (↑ts2_.length : Int))) rfl (fun h113 => ?_) (fun h113 => ?_)
        ·
         have h113p := dT h113
         refine W.skip (W.seq' (W.block (W.seq' ?_)))
         obtain ⟨cap115, hb114⟩ := SlAt.base (oW (M.chunk 0 rfl).inv) (by omega)
         obtain ⟨x116, hx116⟩ := elem_of_lt (xs := ts2_) (i := m_ - 1) (by omega)
         obtain ⟨x117, hx117⟩ := elem_of_lt (xs := ts2_) (i := m_) (by omega)
         have h4_ := hend_.2 m_ x116 x117 hx116 hx117 (by omega)
         refine W.drawn M [0, 1, 2, 3, 4, 5, 6, 7, 8, 9, 10, 11, 12, 13, 14, 15, 16, 17, 18, 19, 20, 21, 22, 23] [] [] _ _ (sY (sY (sY (sY sE)))) (fun _ h => h) Try.mixed (by kernel_rfl) ?_
         refine tM acck_ rfl (tM (vI ↑m_) rfl (tP (vI (↑(m_ - 1))) rfl (fun w => (Step.cast (congrArg (Value.int .i64) (show ((↑m_ : Int) - 1 : Int) = ↑(m_ - 1) by omega)) (Step.sub rfl rfl (wrap_i64 (by omega))))) (tP (vQ acck_ (m_ - 1) 1) rfl (fun w => (sX (m_ - 1) Try.un22 Try.el9 rfl rfl hb114)) (tR (vS x116) rfl (fun A w M => (Step.loadE (k := 0) Try.sc9 (flat_ec (oW (M.chunk 1 rfl).inv) hx116 strE_len) (by decide) rfl rfl)) (tM acck_ rfl (tM (vI ↑m_) rfl (tP (vQ acck_ m_ 1) rfl (fun w => (sX m_ Try.un22 Try.el9 rfl rfl hb114)) (tR (vS x117) rfl (fun A w M => (Step.loadE (k := 0) Try.sc9 (flat_ec (oW (M.chunk 1 rfl).inv) hx117 strE_len) (by decide) rfl rfl)) (tP (vB false) rfl (fun w => (Step.cast (congrArg Value.bool (show (x116.toList == x117.toList) = false by rw [sEq_dec]; simp [h4_.1])) sP)) (tM (vB false) rfl (tM acck_ rfl (tM (vI ↑m_) rfl (tP (vI (↑(m_ - 1))) rfl (fun w => (Step.cast (congrArg (Value.int .i64) (show ((↑m_ : Int) - 1 : Int) = ↑(m_ - 1) by omega)) (Step.sub rfl rfl (wrap_i64 (by omega))))) (tP (vQ acck_ (m_ - 1) 1) rfl (fun w => (sX (m_ - 1) Try.un22 Try.el9 rfl rfl hb114)) (tR (vS x116) rfl (fun A w M => (Step.loadE (k := 0) Try.sc9 (flat_ec (oW (M.chunk 1 rfl).inv) hx116 strE_len) (by decide) rfl rfl)) (tM acck_ rfl (tM (vI ↑m_) rfl (tP (vQ acck_ m_ 1) rfl (fun w => (sX m_ Try.un22 Try.el9 rfl rfl hb114)) (tR (vS x117) rfl (fun A w M => (Step.loadE (k := 0) Try.sc9 (flat_ec (oW (M.chunk 1 rfl).inv) hx117 strE_len) (by decide) rfl rfl)) (tQ (vB (!(sLt x116 x117 || x116.toList == x117.toList))) rfl (tM (vB b) rfl (tP (vB false) rfl (fun w => (Step.cast (congrArg Value.bool (show (!((!(sLt x116 x117 || x116.toList == x117.toList)) == b)) = false by rw [sGt, h4_.2]; simp)) sP)) (tP (vB false) rfl (fun w => (Step.pick (t := false) rfl rfl)) ?_)))))))))))))))))))))))
         refine TW.done (fun w118 M => ?_)
         refine W.cond (t := false) rfl (fun h => by cases h) (fun _ => ?_)
         refine W.skip (W.region rfl (wM (vI ↑m_) (wS (vI (↑m_ + 1)) rfl (Step.add rfl rfl (wrap_i64 (by omega))) (wA (vI (↑m_ + 1)) (WL.nil ?_)))))
         exact ⟨_, (by omega), m_ + 1, ⟨(by omega), rfl⟩, ⟨rfl, rfl, rfl, rfl, rfl, rfl, rfl, rfl, rfl⟩, M⟩
        ·
         have h113p := dF h113
         refine W.exit (thn_exit (thn_exit ?_))
         refine inBlk_hit ?_
         refine W.seq' (wR (wA (vI 0) (WL.nil (W.block ?_))))
         refine W.loop (fun kk ρ w' => ∃ (j_ : Nat), ((j_ ≤ ss_.length) ∧ kk = ss_.length - j_) ∧ ρ.has [(1, (vS f)), (2, (vS t)), (13, (vP tb10)), (15, sv_), (20, acck_), (28, (vI ↑j_))] ∧ Mem G (fun _ => False) w [oS acck_ ts2_, bk sb79 #[(vS s2_.frm), (vS s2_.to_), (vB s2_.back), (vS s2_.at_), (vB s2_.told)] 88, tT S_ tb10 row_ c_, oS sv_ ss_] [fS kv ks, SlAt 3 v l.length (l.flatMap actE)]  w') _ ⟨0, ⟨(Nat.zero_le _), rfl⟩, ⟨rfl, rfl, rfl, rfl, rfl, rfl, rfl, rfl⟩, M⟩ ?_
         rintro _ ρ120 w119 ⟨j_, ⟨hi121, rfl⟩, hρ, M⟩
         obtain ⟨ρ120, rfl⟩ := hρ.know
         clear hρ
         refine W.seq' (wR (wM (vI ↑j_) (wM sv_ (wS (vI ↑ss_.length) rfl (Step.lenSl Try.un22 rfl (oW (M.chunk 3 rfl).inv)) (wP (vB (decide ((↑j_ : Int) < (↑ss_.length : Int)))) (WL.nil ?_))))))
         refine W.cond (t := decide ((↑j_ : Int) < (↑ss_.length : Int))) rfl (fun h122 => ?_) (fun h122 => ?_)
         ·
          have h122p := dT h122
          refine W.skip (W.seq' (W.block (wR (wA (vB false) (WL.nil (W.seq' (W.seq' ?_)))))))
          obtain ⟨y_, hy_⟩ := elem_of_lt (xs := ss_) (i := j_) (by omega)
          refine W.region rfl (wA (vI 0) (WL.nil (W.block ?_)))
          refine W.loop (fun kk ρ w' => ∃ (e_ : Nat) (th_ : Bool), ((e_ ≤ ts2_.length) ∧ (th_ = false → ∀ (j : Nat) u, j < e_ → ts2_[j]? = some u → u ≠ y_) ∧ kk = ts2_.length - e_) ∧ ρ.has [(1, (vS f)), (2, (vS t)), (13, (vP tb10)), (15, sv_), (20, acck_), (28, (vI ↑j_)), (29, (vB th_)), (30, (vI ↑e_)), (217, (vI ↑j_)), (218, sv_), (219, (vI ↑ss_.length)), (220, (vB (decide ((↑j_ : Int) < (↑ss_.length : Int)))))] ∧ Mem G (fun _ => False) w [oS acck_ ts2_, bk sb79 #[(vS s2_.frm), (vS s2_.to_), (vB s2_.back), (vS s2_.at_), (vB s2_.told)] 88, tT S_ tb10 row_ c_, oS sv_ ss_] [fS kv ks, SlAt 3 v l.length (l.flatMap actE)]  w') _ ⟨0, false, ⟨(Nat.zero_le _), (fun _ => nth_zero), rfl⟩, ⟨rfl, rfl, rfl, rfl, rfl, rfl, rfl, rfl, rfl, rfl, rfl, rfl, rfl, rfl⟩, M⟩ ?_
          rintro _ ρ124 w123 ⟨e_, th_, ⟨hi125, hi126, rfl⟩, hρ, M⟩
          obtain ⟨ρ124, rfl⟩ := hρ.know
          clear hρ
          have hth_ : th_ = false → ∀ (j : Nat) u, j < e_ → ts2_[j]? = some u → u ≠ y_ := hi126
          refine W.seq' (wR (wM (vI ↑e_) (wM acck_ (wS (vI ↑ts2_.length) rfl (Step.lenSl Try.un22 rfl (oW (M.chunk 0 rfl).inv)) (wP (vB (decide ((↑e_ : Int) < (↑ts2_.length : Int)))) (WL.nil ?_))))))
          refine W.cond (t := decide ((↑e_ : Int) < (↑ts2_.length : Int))) rfl (fun h127 => ?_) (fun h127 => ?_)
          ·
           have h127p := dT h127
           refine W.skip (W.seq' (W.block ?_))
           rcases Bool.eq_false_or_eq_true (th_) with h128 | h128
           ·
            refine W.drawn M [0, 1, 2, 3, 4, 5, 6, 7, 8, 9, 10, 11, 12] [] [] _ _ (sY (sY (sY (sY sE)))) (fun _ h => h) Try.mixed (by kernel_rfl) ?_
            refine tP (vB true) rfl (fun w => (Step.cast (congrArg Value.bool h128) (Step.move rfl))) (tM (vB true) rfl ?_)
            refine TW.skip rfl rfl ?_
            refine TW.skip rfl rfl ?_
            refine TW.skip rfl rfl ?_
            refine TW.skip rfl rfl ?_
            refine TW.skip rfl rfl ?_
            refine TW.skip rfl rfl ?_
            refine TW.skip rfl rfl ?_
            refine TW.skip rfl rfl ?_
            refine TW.skip rfl rfl ?_
            refine tP (vB true) rfl (fun w => (Step.pick (t := true) rfl rfl)) (tP (vB true) rfl (fun w => (Step.assign rfl)) ?_)
            refine TW.done (fun w129 M => ?_)
            refine W.region rfl (wM (vI ↑e_) (wS (vI (↑e_ + 1)) rfl (Step.add rfl rfl (wrap_i64 (by omega))) (wA (vI (↑e_ + 1)) (WL.nil ?_))))
            exact ⟨_, (by omega), e_ + 1, true, ⟨(by omega), (fun h_ => by cases h_), rfl⟩, ⟨rfl, rfl, rfl, rfl, rfl, rfl, rfl, rfl, rfl, rfl, rfl, rfl, rfl, rfl⟩, M⟩
           ·
            obtain ⟨cap131, hb130⟩ := SlAt.base (oW (M.chunk 0 rfl).inv) (by omega)
            obtain ⟨x132, hx132⟩ := elem_of_lt (xs := ts2_) (i := e_) (by omega)
            obtain ⟨cap134, hb133⟩ := SlAt.base (oW (M.chunk 3 rfl).inv) (by omega)
            refine W.drawn M [0, 1, 2, 3, 4, 5, 6, 7, 8, 9, 10, 11, 12] [] [] _ _ (sY (sY (sY (sY sE)))) (fun _ h => h) Try.mixed (by kernel_rfl) ?_
            refine tP (vB false) rfl (fun w => (Step.cast (congrArg Value.bool h128) (Step.move rfl))) (tM (vB false) rfl (tM acck_ rfl (tM (vI ↑e_) rfl (tP (vQ acck_ e_ 1) rfl (fun w => (sX e_ Try.un22 Try.el9 rfl rfl hb130)) (tR (vS x132) rfl (fun A w M => (Step.loadE (k := 0) Try.sc9 (flat_ec (oW (M.chunk 1 rfl).inv) hx132 strE_len) (by decide) rfl rfl)) (tM sv_ rfl (tM (vI ↑j_) rfl (tP (vQ sv_ j_ 1) rfl (fun w => (sX j_ Try.un22 Try.el9 rfl rfl hb133)) (tR (vS y_) rfl (fun A w M => (Step.loadE (k := 0) Try.sc9 (flat_ec (oW (M.chunk 4 rfl).inv) hy_ strE_len) (by decide) rfl rfl)) (tQ (vB (x132.toList == y_.toList)) rfl (tP (vB (x132.toList == y_.toList)) rfl (fun w => (Step.pick (t := false) rfl rfl)) (tP (vB (x132.toList == y_.toList)) rfl (fun w => (Step.assign rfl)) ?_))))))))))))
            refine TW.done (fun w135 M => ?_)
            refine W.region rfl (wM (vI ↑e_) (wS (vI (↑e_ + 1)) rfl (Step.add rfl rfl (wrap_i64 (by omega))) (wA (vI (↑e_ + 1)) (WL.nil ?_))))
            exact ⟨_, (by omega), e_ + 1, (x132.toList == y_.toList), ⟨(by omega), (fun h_ => nth_step (hth_ (by simpa using h128)) hx132 (by rw [sEq_dec] at h_; simpa using h_)), rfl⟩, ⟨rfl, rfl, rfl, rfl, rfl, rfl, rfl, rfl, rfl, rfl, rfl, rfl, rfl, rfl⟩, M⟩
          ·
           have h127p := dF h127
           refine W.exit (thn_exit (thn_exit ?_))
           refine inBlk_hit ?_
           refine wR (wM (vB th_) (wP (vB !th_) (WL.nil ?_)))
           refine W.cond (t := !th_) rfl (fun h136 => ?_) (fun h136 => ?_)
           ·
            exact absurd (hend_.1 y_ (List.mem_of_getElem? hy_)) (nth_not (hth_ (by simpa using h136)) (by omega))
           ·
            refine W.skip (W.region rfl (wM (vI ↑j_) (wS (vI (↑j_ + 1)) rfl (Step.add rfl rfl (wrap_i64 (by omega))) (wA (vI (↑j_ + 1)) (WL.nil ?_)))))
            exact ⟨_, (by omega), j_ + 1, ⟨(by omega), rfl⟩, ⟨rfl, rfl, rfl, rfl, rfl, rfl, rfl, rfl⟩, M⟩
         ·
          have h122p := dF h122
          refine W.exit (thn_exit (thn_exit ?_))
          refine inBlk_hit ?_
          refine W.seq' ?_
          obtain ⟨R_, hR_⟩ : ∃ z, restR (⟨f, t, false, sZ, false⟩ : Scn) row_ = z := ⟨_, rfl⟩
          obtain ⟨hpf_, hpb_⟩ := page_100 (row := row_) f t (by omega)
          rw [hR_] at hpf_ hpb_
          have hRl_ : R_.length ≤ row_.length := by rw [← hR_]; exact rest_le
          have hRr_ : R_.reverse.length = R_.length := List.length_reverse ..
          refine W.region rfl (wM (vS f) (wM (vS t) ?_))
          refine WL.callX rfl (sc_new f t false (M.enterW0 trivial)) (CallsF.func Try.en14 rfl) ?_
          rintro _ w138 ⟨sb137, rfl, m⟩
          replace M := M.leaveW0 m
          clear m
          refine wM (vP tb10) ?_
          have fq := M.frm [bk sb137 #[(vS ((⟨f, t, false, sZ, false⟩ : Scn).frm)), (vS ((⟨f, t, false, sZ, false⟩ : Scn).to_)), (vB ((⟨f, t, false, sZ, false⟩ : Scn).back)), (vS ((⟨f, t, false, sZ, false⟩ : Scn).at_)), (vB ((⟨f, t, false, sZ, false⟩ : Scn).told))] 88, tT S_ tb10 row_ c_] [oS acck_ ts2_, bk sb79 #[(vS s2_.frm), (vS s2_.to_), (vB s2_.back), (vS s2_.at_), (vB s2_.told)] 88, oS sv_ ss_] [0, 3, 1, 2, 4] rfl
          refine WL.callX rfl (sc_page sb137 (⟨f, t, false, sZ, false⟩ : Scn) tb10 S_ row_ c_ 100 (by first | assumption | omega) (M.eF fq trivial)) (CallsF.func Try.en15 rfl) ?_
          rintro _ w140 ⟨v139, rfl, m⟩
          replace M := M.lF fq m
          clear m
          have sl141 : IsSl v139 := SlAt.isSl (oW (Mem.chunk M 2 rfl).inv)
          have hle142 := SlAt.le' (oW (Mem.chunk M 2 rfl).inv)
          replace M := M.rechunk 2 (c' := oR v139 R_) rfl (by rw [show pageL (⟨f, t, false, sZ, false⟩ : Scn) row_ 100 = R_ from hpf_])
          refine wM (Value.tuple #[v139, (vB (pageD (⟨f, t, false, sZ, false⟩ : Scn) row_ 100))]) (wP v139 (wP (vB (pageD (⟨f, t, false, sZ, false⟩ : Scn) row_ 100)) (wA v139 (wA (vB (pageD (⟨f, t, false, sZ, false⟩ : Scn) row_ 100)) (WL.nil (W.seq' ?_))))))
          replace M := M.loseI 0
          refine W.region rfl (wM (vS f) (wM (vS t) ?_))
          refine WL.callX rfl (sc_new f t true (M.enterW0 trivial)) (CallsF.func Try.en14 rfl) ?_
          rintro _ w144 ⟨sb143, rfl, m⟩
          replace M := M.leaveW0 m
          clear m
          refine wM (vP tb10) ?_
          have fq := M.frm [bk sb143 #[(vS ((⟨f, t, true, sZ, false⟩ : Scn).frm)), (vS ((⟨f, t, true, sZ, false⟩ : Scn).to_)), (vB ((⟨f, t, true, sZ, false⟩ : Scn).back)), (vS ((⟨f, t, true, sZ, false⟩ : Scn).at_)), (vB ((⟨f, t, true, sZ, false⟩ : Scn).told))] 88, tT S_ tb10 row_ c_] [oR v139 R_, oS acck_ ts2_, bk sb79 #[(vS s2_.frm), (vS s2_.to_), (vB s2_.back), (vS s2_.at_), (vB s2_.told)] 88, oS sv_ ss_] [0, 1, 2, 3, 4, 5] rfl
          refine WL.callX rfl (sc_page sb143 (⟨f, t, true, sZ, false⟩ : Scn) tb10 S_ row_ c_ 100 (by first | assumption | omega) (M.eF fq trivial)) (CallsF.func Try.en15 rfl) ?_
          rintro _ w146 ⟨v145, rfl, m⟩
          replace M := M.lF fq m
          clear m
          have sl147 : IsSl v145 := SlAt.isSl (oW (Mem.chunk M 2 rfl).inv)
          have hle148 := SlAt.le' (oW (Mem.chunk M 2 rfl).inv)
          replace M := M.rechunk 2 (c' := oR v145 R_.reverse) rfl (by rw [show pageL (⟨f, t, true, sZ, false⟩ : Scn) row_ 100 = R_.reverse from hpb_])
          refine wM (Value.tuple #[v145, (vB (pageD (⟨f, t, true, sZ, false⟩ : Scn) row_ 100))]) (wP v145 (wP (vB (pageD (⟨f, t, true, sZ, false⟩ : Scn) row_ 100)) (wA v145 (wA (vB (pageD (⟨f, t, true, sZ, false⟩ : Scn) row_ 100)) (WL.nil (W.seq' (W.seq' ?_)))))))
          replace M := M.loseI 0
          refine W.region rfl (wM v139 (wS (vI ↑R_.length) rfl (Step.lenSl Try.un34 rfl (oW (M.chunk 2 rfl).inv)) (wM v145 (wS (vI ↑R_.length) rfl (Step.cast (congrArg (Value.int .i64) (show (↑R_.reverse.length : Int) = ↑R_.length by omega)) (Step.lenSl Try.un34 rfl (oW (M.chunk 1 rfl).inv))) (wS (vB false) rfl (Step.cast (congrArg Value.bool (show ((↑R_.length : Int) != (↑R_.length : Int)) = false by simp)) sP) (wM (vB false) (wM v139 (wS (vI ↑R_.length) rfl (Step.lenSl Try.un34 rfl (oW (M.chunk 2 rfl).inv)) (wM (vP tb10) (wM (vS f) (wM (vS t) ?_)))))))))))
          have fq := M.frm [tT S_ tb10 row_ c_] [oR v145 R_.reverse, oR v139 R_, oS acck_ ts2_, bk sb79 #[(vS s2_.frm), (vS s2_.to_), (vB s2_.back), (vS s2_.at_), (vB s2_.told)] 88, oS sv_ ss_] [0, 1, 2, 3, 4, 5] rfl
          refine WL.callX rfl (sc_count tb10 S_ row_ c_ f t (by first | assumption | omega) (M.eF fq trivial)) (CallsF.func Try.en20 rfl) ?_
          rintro _ w149 ⟨rfl, m⟩
          replace M := M.lF fq m
          clear m
          rw [(show (↑(countR row_ f t) : Int) = ↑R_.length by rw [← hR_]; rfl)]
          refine wS (vB false) rfl (Step.cast (congrArg Value.bool (show ((↑R_.length : Int) != (↑R_.length : Int)) = false by simp)) sP) (wS (vB false) rfl (Step.pick (t := false) rfl rfl) (WL.nil ?_))
          refine W.cond (t := false) rfl (fun h => by cases h) (fun _ => ?_)
          refine W.skip (W.seq' (wR (wA (vI 0) (WL.nil (W.block ?_)))))
          refine W.loop (fun kk ρ w' => ∃ (z_ : Nat), ((z_ ≤ R_.length) ∧ kk = R_.length - z_) ∧ ρ.has [(31, v139), (33, v145), (35, (vI ↑z_))] ∧ Mem G (fun _ => False) w [tT S_ tb10 row_ c_, oR v145 R_.reverse, oR v139 R_, oS acck_ ts2_, bk sb79 #[(vS s2_.frm), (vS s2_.to_), (vB s2_.back), (vS s2_.at_), (vB s2_.told)] 88, oS sv_ ss_] [fS kv ks, SlAt 3 v l.length (l.flatMap actE)]  w') _ ⟨0, ⟨(Nat.zero_le _), rfl⟩, ⟨rfl, rfl, rfl, rfl, rfl⟩, M⟩ ?_
          rintro _ ρ151 w150 ⟨z_, ⟨hi152, rfl⟩, hρ, M⟩
          obtain ⟨ρ151, rfl⟩ := hρ.know
          clear hρ
          refine W.seq' (wR (wM (vI ↑z_) (wM v139 (wS (vI ↑R_.length) rfl (Step.lenSl Try.un34 rfl (oW (M.chunk 2 rfl).inv)) (wP (vB (decide ((↑z_ : Int) < (↑R_.length : Int)))) (WL.nil ?_))))))
          refine W.cond (t := decide ((↑z_ : Int) < (↑R_.length : Int))) rfl (fun h153 => ?_) (fun h153 => ?_)
          ·
           have h153p := dT h153
           refine W.skip (W.seq' (W.block (W.seq' ?_)))
           obtain ⟨cap155, hb154⟩ := SlAt.base (oW (M.chunk 2 rfl).inv) (by omega)
           obtain ⟨x156, hx156⟩ := elem_of_lt (xs := R_) (i := z_) (by omega)
           obtain ⟨cap158, hb157⟩ := SlAt.base (oW (M.chunk 1 rfl).inv) (by omega)
           obtain ⟨x159, hx159⟩ := elem_of_lt (xs := R_.reverse) (i := R_.length - 1 - z_) (by omega)
           have hxy_ : x156 = x159 := Option.some.inj (hx156.symm.trans ((rev_at (by omega)).symm.trans hx159))
           refine W.drawn M [0, 1, 2, 3, 4, 5, 6, 7, 8, 9, 10, 11, 12] [] [] _ _ (sY (sY (sY (sY (sY (sY sE)))))) (fun _ h => h) Try.mixed (by kernel_rfl) ?_
           refine tM v139 rfl (tM (vI ↑z_) rfl (tP (vQ v139 z_ 2) rfl (fun w => (sX z_ Try.un34 Try.el41 rfl rfl hb154)) (tR (Value.agg #[(vS x156.key), (vI x156.val)]) rfl (fun A w M => (Step.loadEN (k := 0) (cs' := [(vS x156.key), (vI x156.val)]) Try.ag41 (flat_ec (oW (M.chunk 3 rfl).inv) hx156 hitE_len) (by decide) rfl rfl rfl)) (tM v145 rfl (tM v145 rfl (tR (vI ↑R_.length) rfl (fun A w M => (Step.cast (congrArg (Value.int .i64) (show (↑R_.reverse.length : Int) = ↑R_.length by omega)) (Step.lenSl Try.un34 rfl (oW (M.chunk 2 rfl).inv)))) (tP (vI ((↑R_.length : Int) - 1)) rfl (fun w => (Step.sub rfl rfl (wrap_i64 (by omega)))) (tM (vI ↑z_) rfl (tP (vI (↑(R_.length - 1 - z_))) rfl (fun w => (Step.cast (congrArg (Value.int .i64) (show (((↑R_.length : Int) - 1 : Int) - ↑z_ : Int) = ↑(R_.length - 1 - z_) by omega)) (Step.sub rfl rfl (wrap_i64 (by omega))))) (tP (vQ v145 (R_.length - 1 - z_) 2) rfl (fun w => (sX (R_.length - 1 - z_) Try.un34 Try.el41 rfl rfl hb157)) (tR (Value.agg #[(vS x159.key), (vI x159.val)]) rfl (fun A w M => (Step.loadEN (k := 0) (cs' := [(vS x159.key), (vI x159.val)]) Try.ag41 (flat_ec (oW (M.chunk 2 rfl).inv) hx159 hitE_len) (by decide) rfl rfl rfl)) (tP (vB false) rfl (fun w => (Step.cast (congrArg Value.bool (show (!decide (x156 = x159)) = false by simp [hxy_])) (Step.cast (congrArg (fun z => Value.bool (!z)) (hit_eqB x156 x159)) (Step.neqAgg Try.eg41 rfl rfl rfl (Try.eq41 9998 x156.key (x156.val : Int) x159.key (x159.val : Int)))))) ?_))))))))))))
           refine TW.done (fun w160 M => ?_)
           refine W.cond (t := false) rfl (fun h => by cases h) (fun _ => ?_)
           refine W.skip (W.region rfl (wM (vI ↑z_) (wS (vI (↑z_ + 1)) rfl (Step.add rfl rfl (wrap_i64 (by omega))) (wA (vI (↑z_ + 1)) (WL.nil ?_)))))
           exact ⟨_, (by omega), z_ + 1, ⟨(by omega), rfl⟩, ⟨rfl, rfl, rfl, rfl, rfl⟩, M⟩
          ·
           have h153p := dF h153
           refine W.exit (thn_exit (thn_exit ?_))
           refine inBlk_hit ?_
           refine wR ?_
           refine WL.callX rfl (l13_works  (M.enterW0 trivial)) (CallsF.func Try.en12 rfl) ?_
           rintro _ w161 ⟨rfl, m⟩
           replace M := M.leaveW0 m
           clear m
           refine wA (vB true) (WL.nil ?_)
           refine W.ret ?_
           refine ⟨.inl rfl, (vB true), ?_, ?_⟩
           · exact ⟨rfl, (Res.r1 (show RV _ _ _ (.tmp 12) (vB true) from by exact rfl))⟩
           refine ⟨?_, M.close [] rfl (by decide) trivial⟩
           rfl
       ·
        have h109p := dF h109
        refine W.skip (wR (wM (vI ↑r_) (wM v (wS (vI ↑l.length) rfl (Step.lenSl Try.un23 rfl (M.rep 1 rfl)) (wP (vB (decide ((↑r_ : Int) < (↑l.length : Int)))) (WL.nil ?_))))))
        refine W.cond (t := decide ((↑r_ : Int) < (↑l.length : Int))) rfl (fun h162 => ?_) (fun h162 => ?_)
        ·
         have h162p := dT h162
         refine wR (wM v (wM (vI ↑r_) ?_))
         obtain ⟨cap164, hb163⟩ := SlAt.base (M.rep 1 rfl) (by omega)
         refine wS (vQ v r_ 3) rfl (sX r_ Try.un23 Try.el31 rfl rfl hb163) (wP (vQ v r_ 3) ?_)
         obtain ⟨x165, hx165⟩ := elem_of_lt (xs := l) (i := r_) (by omega)
         refine wS (vI x165.do_) rfl (Step.loadE (k := 0) Try.sc3 (flat_ec (M.rep 1 rfl) hx165 actE_len) (by decide) rfl rfl) (wS (vI (x165.do_.tmod 2)) rfl (Step.rem rfl rfl (by omega)) (wP (vB ((x165.do_.tmod 2 : Int) == (0 : Int))) (WL.nil ?_)))
         refine W.cond (t := (x165.do_.tmod 2 : Int) == (0 : Int)) rfl (fun h166 => ?_) (fun h166 => ?_)
         ·
          have h166p : (x165.do_.tmod 2 : Int) = (0 : Int) := by simpa using h166
          refine W.region rfl (wM (vP tb10) (wM v (wM (vI ↑r_) (wS (vQ v r_ 3) rfl (sX r_ Try.un23 Try.el31 rfl rfl hb163) (wP (vR v r_ 3 1) (wS (vS x165.k) rfl (Step.loadE (k := 1) Try.sc9 (flat_ec (M.rep 1 rfl) hx165 actE_len) (by decide) rfl rfl) (wM (vI ↑r_) ?_)))))))
          have fq := M.frm [tT S_ tb10 row_ c_] [oS acck_ ts2_, bk sb79 #[(vS s2_.frm), (vS s2_.to_), (vB s2_.back), (vS s2_.at_), (vB s2_.told)] 88, oS sv_ ss_] [2, 0, 1, 3] rfl
          refine WL.callX rfl (T_put tb10 S_ row_ c_ x165.k ↑r_ (by first | assumption | omega) (M.eF fq trivial)) (CallsF.func Try.en18 rfl) ?_
          rintro _ w168 ⟨S167, rfl, m⟩
          replace M := M.lF fq m
          clear m
          refine WL.nil (W.region rfl (wM (vI ↑r_) (wS (vI (↑r_ + 1)) rfl (Step.add rfl rfl (wrap_i64 (by omega))) (wA (vI (↑r_ + 1)) (WL.nil ?_)))))
          replace M := M.sel (L' := [tT S167 tb10 (putR row_ (⟨x165.k, ↑r_⟩ : THit)) (c_ + 1), bk sb79 #[(vS s2_.frm), (vS s2_.to_), (vB s2_.back), (vS s2_.at_), (vB s2_.told)] 88, oS acck_ ts2_, oS sv_ ss_]) [0, 2, 1, 3] rfl (by decide)
          exact ⟨_, (by omega), r_ + 1, (putR row_ (⟨x165.k, ↑r_⟩ : THit)), s2_, ts2_, acck_, S167, (c_ + 1), ⟨(by omega), (by omega), (by omega), (hwp_.put hup_ hst_ hx165 (by omega)), rfl⟩, ⟨rfl, rfl, rfl, rfl, rfl, rfl, rfl, rfl, rfl, rfl, rfl, rfl⟩, M⟩
         ·
          have h166p : ¬ (x165.do_.tmod 2 : Int) = (0 : Int) := by simpa using h166
          refine W.region rfl (wM (vP tb10) (wM v (wM (vI ↑r_) (wS (vQ v r_ 3) rfl (sX r_ Try.un23 Try.el31 rfl rfl hb163) (wP (vR v r_ 3 1) (wS (vS x165.k) rfl (Step.loadE (k := 1) Try.sc9 (flat_ec (M.rep 1 rfl) hx165 actE_len) (by decide) rfl rfl) ?_))))))
          have fq := M.frm [tT S_ tb10 row_ c_] [oS acck_ ts2_, bk sb79 #[(vS s2_.frm), (vS s2_.to_), (vB s2_.back), (vS s2_.at_), (vB s2_.told)] 88, oS sv_ ss_] [2, 0, 1, 3] rfl
          refine WL.callX rfl (T_delete tb10 S_ row_ c_ x165.k (by first | assumption | omega) (M.eF fq trivial)) (CallsF.func Try.en19 rfl) ?_
          rintro _ w170 ⟨S169, rfl, m⟩
          replace M := M.lF fq m
          clear m
          refine WL.nil (W.region rfl (wM (vI ↑r_) (wS (vI (↑r_ + 1)) rfl (Step.add rfl rfl (wrap_i64 (by omega))) (wA (vI (↑r_ + 1)) (WL.nil ?_)))))
          replace M := M.sel (L' := [tT S169 tb10 (delL row_ x165.k) c_, bk sb79 #[(vS s2_.frm), (vS s2_.to_), (vB s2_.back), (vS s2_.at_), (vB s2_.told)] 88, oS acck_ ts2_, oS sv_ ss_]) [0, 2, 1, 3] rfl (by decide)
          exact ⟨_, (by omega), r_ + 1, (delL row_ x165.k), s2_, ts2_, acck_, S169, c_, ⟨(by omega), (by omega), (by omega), (hwp_.del hst_ hx165 (by omega)), rfl⟩, ⟨rfl, rfl, rfl, rfl, rfl, rfl, rfl, rfl, rfl, rfl, rfl, rfl⟩, M⟩
        ·
         have h162p := dF h162
         omega
      ·
       rw [h108]
       refine WL.pass rfl (WL.pass rfl (WL.pass rfl (WL.pass rfl (wS (vB false) rfl (Step.pick (t := false) rfl rfl) (WL.nil ?_)))))
       refine W.cond (t := false) rfl (fun h => by cases h) (fun _ => ?_)
       refine W.skip (wR (wM (vI ↑r_) (wM v (wS (vI ↑l.length) rfl (Step.lenSl Try.un23 rfl (M.rep 1 rfl)) (wP (vB (decide ((↑r_ : Int) < (↑l.length : Int)))) (WL.nil ?_))))))
       refine W.cond (t := decide ((↑r_ : Int) < (↑l.length : Int))) rfl (fun h171 => ?_) (fun h171 => ?_)
       ·
        have h171p := dT h171
        refine wR (wM v (wM (vI ↑r_) ?_))
        obtain ⟨cap173, hb172⟩ := SlAt.base (M.rep 1 rfl) (by omega)
        refine wS (vQ v r_ 3) rfl (sX r_ Try.un23 Try.el31 rfl rfl hb172) (wP (vQ v r_ 3) ?_)
        obtain ⟨x174, hx174⟩ := elem_of_lt (xs := l) (i := r_) (by omega)
        refine wS (vI x174.do_) rfl (Step.loadE (k := 0) Try.sc3 (flat_ec (M.rep 1 rfl) hx174 actE_len) (by decide) rfl rfl) (wS (vI (x174.do_.tmod 2)) rfl (Step.rem rfl rfl (by omega)) (wP (vB ((x174.do_.tmod 2 : Int) == (0 : Int))) (WL.nil ?_)))
        refine W.cond (t := (x174.do_.tmod 2 : Int) == (0 : Int)) rfl (fun h175 => ?_) (fun h175 => ?_)
        ·
         have h175p : (x174.do_.tmod 2 : Int) = (0 : Int) := by simpa using h175
         refine W.region rfl (wM (vP tb10) (wM v (wM (vI ↑r_) (wS (vQ v r_ 3) rfl (sX r_ Try.un23 Try.el31 rfl rfl hb172) (wP (vR v r_ 3 1) (wS (vS x174.k) rfl (Step.loadE (k := 1) Try.sc9 (flat_ec (M.rep 1 rfl) hx174 actE_len) (by decide) rfl rfl) (wM (vI ↑r_) ?_)))))))
         have fq := M.frm [tT S_ tb10 row_ c_] [oS acck_ ts2_, bk sb79 #[(vS s2_.frm), (vS s2_.to_), (vB s2_.back), (vS s2_.at_), (vB s2_.told)] 88, oS sv_ ss_] [2, 0, 1, 3] rfl
         refine WL.callX rfl (T_put tb10 S_ row_ c_ x174.k ↑r_ (by first | assumption | omega) (M.eF fq trivial)) (CallsF.func Try.en18 rfl) ?_
         rintro _ w177 ⟨S176, rfl, m⟩
         replace M := M.lF fq m
         clear m
         refine WL.nil (W.region rfl (wM (vI ↑r_) (wS (vI (↑r_ + 1)) rfl (Step.add rfl rfl (wrap_i64 (by omega))) (wA (vI (↑r_ + 1)) (WL.nil ?_)))))
         replace M := M.sel (L' := [tT S176 tb10 (putR row_ (⟨x174.k, ↑r_⟩ : THit)) (c_ + 1), bk sb79 #[(vS s2_.frm), (vS s2_.to_), (vB s2_.back), (vS s2_.at_), (vB s2_.told)] 88, oS acck_ ts2_, oS sv_ ss_]) [0, 2, 1, 3] rfl (by decide)
         exact ⟨_, (by omega), r_ + 1, (putR row_ (⟨x174.k, ↑r_⟩ : THit)), s2_, ts2_, acck_, S176, (c_ + 1), ⟨(by omega), (by omega), (by omega), (hwp_.put hup_ hst_ hx174 (by omega)), rfl⟩, ⟨rfl, rfl, rfl, rfl, rfl, rfl, rfl, rfl, rfl, rfl, rfl, rfl⟩, M⟩
        ·
         have h175p : ¬ (x174.do_.tmod 2 : Int) = (0 : Int) := by simpa using h175
         refine W.region rfl (wM (vP tb10) (wM v (wM (vI ↑r_) (wS (vQ v r_ 3) rfl (sX r_ Try.un23 Try.el31 rfl rfl hb172) (wP (vR v r_ 3 1) (wS (vS x174.k) rfl (Step.loadE (k := 1) Try.sc9 (flat_ec (M.rep 1 rfl) hx174 actE_len) (by decide) rfl rfl) ?_))))))
         have fq := M.frm [tT S_ tb10 row_ c_] [oS acck_ ts2_, bk sb79 #[(vS s2_.frm), (vS s2_.to_), (vB s2_.back), (vS s2_.at_), (vB s2_.told)] 88, oS sv_ ss_] [2, 0, 1, 3] rfl
         refine WL.callX rfl (T_delete tb10 S_ row_ c_ x174.k (by first | assumption | omega) (M.eF fq trivial)) (CallsF.func Try.en19 rfl) ?_
         rintro _ w179 ⟨S178, rfl, m⟩
         replace M := M.lF fq m
         clear m
         refine WL.nil (W.region rfl (wM (vI ↑r_) (wS (vI (↑r_ + 1)) rfl (Step.add rfl rfl (wrap_i64 (by omega))) (wA (vI (↑r_ + 1)) (WL.nil ?_)))))
         replace M := M.sel (L' := [tT S178 tb10 (delL row_ x174.k) c_, bk sb79 #[(vS s2_.frm), (vS s2_.to_), (vB s2_.back), (vS s2_.at_), (vB s2_.told)] 88, oS acck_ ts2_, oS sv_ ss_]) [0, 2, 1, 3] rfl (by decide)
         exact ⟨_, (by omega), r_ + 1, (delL row_ x174.k), s2_, ts2_, acck_, S178, c_, ⟨(by omega), (by omega), (by omega), (hwp_.del hst_ hx174 (by omega)), rfl⟩, ⟨rfl, rfl, rfl, rfl, rfl, rfl, rfl, rfl, rfl, rfl, rfl, rfl⟩, M⟩
       ·
        have h171p := dF h171
        refine W.skip (W.region rfl (wM (vI ↑r_) (wS (vI (↑r_ + 1)) rfl (Step.add rfl rfl (wrap_i64 (by omega))) (wA (vI (↑r_ + 1)) (WL.nil ?_)))))
        replace M := M.sel (L' := [tT S_ tb10 row_ c_, bk sb79 #[(vS s2_.frm), (vS s2_.to_), (vB s2_.back), (vS s2_.at_), (vB s2_.told)] 88, oS acck_ ts2_, oS sv_ ss_]) [2, 1, 0, 3] rfl (by decide)
        exact ⟨_, (by omega), r_ + 1, row_, s2_, ts2_, acck_, S_, c_, ⟨(by omega), (by omega), (by omega), (hwp_.on (by rw [← hs2_]; exact page_more hup_ (by simpa using h108))), rfl⟩, ⟨rfl, rfl, rfl, rfl, rfl, rfl, rfl, rfl, rfl, rfl, rfl, rfl⟩, M⟩
    ·
     have h88p := dF h88
     omega
end Go.Proofs
set_option maxRecDepth 100000
namespace Go.Proofs
open Go Tp
theorem Try.en3 : Enters Try.prog 3 := fun _ _ => by kernel_rfl
theorem Try.en4 : Enters Try.prog 4 := fun _ _ => by kernel_rfl
theorem Try.en5 : Enters Try.prog 5 := fun _ _ => by kernel_rfl
def kB (i_ k_ : Nat) : Prop := (i_ = 0 ∧ k_ ≤ 98) ∨ (i_ = 1 ∧ k_ ≤ 150) ∨ (i_ = 2 ∧ k_ ≤ 235) ∨ (i_ = 3 ∧ k_ ≤ 370) ∨ (i_ = 4 ∧ k_ ≤ 575) ∨ (i_ = 5 ∧ k_ ≤ 890) ∨ (i_ = 6 ∧ k_ ≤ 1365) ∨ (i_ = 7 ∧ k_ ≤ 2085) ∨ (i_ = 8 ∧ k_ ≤ 3165)
theorem kB_zero {n : Nat} (h : n ≤ 98) : kB 0 n := .inl ⟨rfl, h⟩
theorem kB_step {i k : Nat} (h : kB i k) (hi : i < 8) : kB (i + 1) (k * 3 / 2 + 5 * i) := by
  unfold kB at h
  rcases h with ⟨rfl, h⟩ | ⟨rfl, h⟩ | ⟨rfl, h⟩ | ⟨rfl, h⟩ | ⟨rfl, h⟩ | ⟨rfl, h⟩ | ⟨rfl, h⟩ | ⟨rfl, h⟩ | ⟨rfl, h⟩
  · exact .inr (.inl ⟨rfl, by omega⟩)
  · exact .inr (.inr (.inl ⟨rfl, by omega⟩))
  · exact .inr (.inr (.inr (.inl ⟨rfl, by omega⟩)))
  · exact .inr (.inr (.inr (.inr (.inl ⟨rfl, by omega⟩))))
  · exact .inr (.inr (.inr (.inr (.inr (.inl ⟨rfl, by omega⟩)))))
  · exact .inr (.inr (.inr (.inr (.inr (.inr (.inl ⟨rfl, by omega⟩))))))
  · exact .inr (.inr (.inr (.inr (.inr (.inr (.inr (.inl ⟨rfl, by omega⟩)))))))
  · exact .inr (.inr (.inr (.inr (.inr (.inr (.inr (.inr ⟨rfl, by omega⟩)))))))
  · omega
theorem kB_le {i k : Nat} (h : kB i k) : k ≤ 3165 := by unfold kB at h; rcases h with ⟨_, h⟩ | ⟨_, h⟩ | ⟨_, h⟩ | ⟨_, h⟩ | ⟨_, h⟩ | ⟨_, h⟩ | ⟨_, h⟩ | ⟨_, h⟩ | ⟨_, h⟩ <;> omega
theorem law13_known {G : Nat → Prop} {w : World}    (M : Mem G (fun _ => False) w [] [] w) : Rets Try.prog 6 #[] w fun r w' => r = (vB true) ∧ Mem G (fun _ => False) w [] [] w' := by
 refine Rets.enter 93 _ Try.func6 rfl Try.ntmps6 Try.results6 (by simp) ?_
 refine wR (wA (vB false) (WL.nil (wR ?_)))
 refine WL.new (obj := .cells #[(vS sZ), (vS (⟨#[97]⟩ : ByteArray)), (vS (⟨#[97, 98]⟩ : ByteArray)), (vS (⟨#[98]⟩ : ByteArray)), (vS (⟨#[99]⟩ : ByteArray)), (vS (⟨#[99, 97]⟩ : ByteArray)), (vS (⟨#[100]⟩ : ByteArray))] 9) (fun b => .slice (some ⟨b, 0, none⟩) 7 7) M rfl (fun w => Step.make (by kernel_rfl)) (fun b1 w2 hb1 M => ?_)
 refine wA (Value.slice (some ⟨b1, 0, none⟩) 7 7) (WL.nil (W.seq' (wR (wA (vI 0) (WL.nil (W.block ?_))))))
 replace M := M.shareBlk 0 (n := 7) (size := 1) rfl rfl (by decide)
 replace M : Mem _ _ _ [] [fS (Value.slice (some ⟨b1, 0, none⟩) 7 7) ([sZ, (⟨#[97]⟩ : ByteArray), (⟨#[97, 98]⟩ : ByteArray), (⟨#[98]⟩ : ByteArray), (⟨#[99]⟩ : ByteArray), (⟨#[99, 97]⟩ : ByteArray), (⟨#[100]⟩ : ByteArray)] : List ByteArray)] _ := M
 refine W.loop (fun kk ρ w' => ∃ (n_ : Nat) (wv_ : Value) (ws_ : List ByteArray), ((n_ ≤ 98) ∧ (ws_.length = 7) ∧ kk = 98 - n_) ∧ ρ.has [(1, wv_), (2, (vI ↑n_))] ∧ Mem G (fun _ => False) w [] [fS wv_ ws_]  w') _ ⟨0, (Value.slice (some ⟨b1, 0, none⟩) 7 7), ([sZ, (⟨#[97]⟩ : ByteArray), (⟨#[97, 98]⟩ : ByteArray), (⟨#[98]⟩ : ByteArray), (⟨#[99]⟩ : ByteArray), (⟨#[99, 97]⟩ : ByteArray), (⟨#[100]⟩ : ByteArray)] : List ByteArray), ⟨(Nat.zero_le _), rfl, rfl⟩, ⟨rfl, rfl, rfl, rfl⟩, M⟩ ?_
 rintro _ ρ4 w3 ⟨n_, wv_, ws_, ⟨hi5, hi6, rfl⟩, hρ, M⟩
 obtain ⟨ρ4, rfl⟩ := hρ.know
 clear hρ
 have sl7 : IsSl wv_ := SlAt.isSl (M.rep 0 rfl)
 refine W.seq' (wR (wM (vI ↑n_) (wP (vB (decide ((↑n_ : Int) < (98 : Int)))) (WL.nil ?_))))
 refine W.cond (t := decide ((↑n_ : Int) < (98 : Int))) rfl (fun h8 => ?_) (fun h8 => ?_)
 ·
  have h8p := dT h8
  refine W.skip (W.seq' (W.block (W.seq' ?_)))
  obtain ⟨cap10, hb9⟩ := SlAt.base (M.rep 0 rfl) (by omega)
  obtain ⟨x11, hx11⟩ := elem_of_lt (xs := ws_) (i := (n_ ) % 7) (by omega)
  obtain ⟨x12, hx12⟩ := elem_of_lt (xs := ws_) (i := (((n_ ) / 7) ) % 7) (by omega)
  refine W.drawn M [0, 1, 2, 3, 4, 5, 6, 7, 8, 9, 10, 11, 12] [] [] _ _ sE (fun _ h => h) Try.mixed (by kernel_rfl) ?_
  refine tM wv_ rfl (tM (vI ↑n_) rfl (tP (vI (↑((n_ ) % 7))) rfl (fun w => (Step.cast (congrArg (Value.int .i64) (show ((↑n_ : Int) % 7 : Int) = ↑((n_ ) % 7) by omega)) (Step.remN rfl rfl (by omega) (by decide)))) (tP (vQ wv_ ((n_ ) % 7) 1) rfl (fun w => (sX ((n_ ) % 7) Try.un22 Try.el9 rfl rfl hb9)) (tR (vS x11) rfl (fun A w M => (Step.loadE (k := 0) Try.sc9 (flat_ec (M.rep 0 rfl) hx11 strE_len) (by decide) rfl rfl)) (tM wv_ rfl (tM (vI ↑n_) rfl (tP (vI (↑((n_ ) / 7))) rfl (fun w => (Step.cast (congrArg (Value.int .i64) (show ((↑n_ : Int) / 7 : Int) = ↑((n_ ) / 7) by omega)) (Step.quoN rfl rfl (by omega) (by decide) (wrap_i64 (by omega))))) (tP (vI (↑((((n_ ) / 7) ) % 7))) rfl (fun w => (Step.cast (congrArg (Value.int .i64) (show ((↑((n_ ) / 7) : Int) % 7 : Int) = ↑((((n_ ) / 7) ) % 7) by omega)) (Step.remN rfl rfl (by omega) (by decide)))) (tP (vQ wv_ ((((n_ ) / 7) ) % 7) 1) rfl (fun w => (sX ((((n_ ) / 7) ) % 7) Try.un22 Try.el9 rfl rfl hb9)) (tR (vS x12) rfl (fun A w M => (Step.loadE (k := 0) Try.sc9 (flat_ec (M.rep 0 rfl) hx12 strE_len) (by decide) rfl rfl)) (tP (vS x11) rfl (fun w => (Step.assign rfl)) (tP (vS x12) rfl (fun w => (Step.assign rfl)) ?_))))))))))))
  refine TW.done (fun w13 M => ?_)
  refine wR (wM (vI ↑n_) (wS (vI (↑((n_ ) / 49))) rfl (Step.cast (congrArg (Value.int .i64) (show ((↑n_ : Int) / 49 : Int) = ↑((n_ ) / 49) by omega)) (Step.quoN rfl rfl (by omega) (by decide) (wrap_i64 (by omega)))) (wP (vB ((↑((n_ ) / 49) : Int) == (1 : Int))) (wA (vB ((↑((n_ ) / 49) : Int) == (1 : Int))) (WL.nil (wR (wA vZ (WL.nil (wR (wM (vI ↑n_) (wA (vI ↑n_) (WL.nil (W.seq' (wR (wA (vI 0) (WL.nil (W.block ?_)))))))))))))))))
  replace M := M.ownNil 31 3
  replace M : Mem _ _ _ [own 31 3 vZ (([] : List TAct).length) (([] : List TAct).flatMap actE)] [fS wv_ ws_] _ := M
  replace M := M.sel (L' := [own 31 3 vZ (([] : List TAct).length) (([] : List TAct).flatMap actE)]) [0] rfl (by decide)
  refine W.loop (fun kk ρ w' => ∃ (i_ : Nat) (k_ : Nat) (lv_ : Value) (ls_ : List TAct), ((i_ ≤ 8) ∧ (ls_.length = i_) ∧ (kB i_ k_) ∧ kk = 8 - i_) ∧ ρ.has [(1, wv_), (2, (vI ↑n_)), (3, (vS x11)), (4, (vS x12)), (5, (vB ((↑((n_ ) / 49) : Int) == (1 : Int)))), (6, lv_), (7, (vI ↑k_)), (8, (vI ↑i_)), (10, (vI ↑n_)), (11, (vB (decide ((↑n_ : Int) < (98 : Int))))), (14, wv_), (15, (vI ↑n_)), (16, (vI (↑((n_ ) % 7)))), (17, (vQ wv_ ((n_ ) % 7) 1)), (18, (vS x11)), (19, wv_), (20, (vI ↑n_)), (21, (vI (↑((n_ ) / 7)))), (22, (vI (↑((((n_ ) / 7) ) % 7)))), (23, (vQ wv_ ((((n_ ) / 7) ) % 7) 1)), (24, (vS x12)), (25, (vI ↑n_)), (26, (vI (↑((n_ ) / 49)))), (27, (vB ((↑((n_ ) / 49) : Int) == (1 : Int)))), (28, (vI ↑n_))] ∧ Mem G (fun _ => False) w [own 31 3 lv_ ls_.length (ls_.flatMap actE)] [fS wv_ ws_]  w') _ ⟨0, n_, vZ, ([] : List TAct), ⟨(Nat.zero_le _), rfl, (kB_zero (by omega)), rfl⟩, ⟨rfl, rfl, rfl, rfl, rfl, rfl, rfl, rfl, rfl, rfl, rfl, rfl, rfl, rfl, rfl, rfl, rfl, rfl, rfl, rfl, rfl, rfl, rfl, rfl, rfl, rfl, rfl⟩, M⟩ ?_
  rintro _ ρ15 w14 ⟨i_, k_, lv_, ls_, ⟨hi16, hi17, hi18, rfl⟩, hρ, M⟩
  obtain ⟨ρ15, rfl⟩ := hρ.know
  clear hρ
  have sl19 : IsSl lv_ := SlAt.isSl (oW (M.chunk 0 rfl).inv)
  have hbls_ : ls_.length ≤ 100000 := by omega
  have hkb_ : kB i_ k_ := hi18
  have hkl_ := kB_le hkb_
  refine W.seq' (wR (wM (vI ↑i_) (wP (vB (decide ((↑i_ : Int) < (8 : Int)))) (WL.nil ?_))))
  refine W.cond (t := decide ((↑i_ : Int) < (8 : Int))) rfl (fun h20 => ?_) (fun h20 => ?_)
  ·
   have h20p := dT h20
   refine W.skip (W.seq' (W.block (wR (wM lv_ (wM (vI ↑k_) (wS (vI (↑((k_ ) % 7))) rfl (Step.cast (congrArg (Value.int .i64) (show ((↑k_ : Int) % 7 : Int) = ↑((k_ ) % 7) by omega)) (Step.remN rfl rfl (by omega) (by decide))) (wM wv_ (wM (vI ↑k_) (wM (vI ↑i_) (wS (vI (↑k_ + ↑i_)) rfl (Step.add rfl rfl (wrap_i64 (by omega))) (wS (vI (↑((k_ + i_ ) % 7))) rfl (Step.cast (congrArg (Value.int .i64) (show ((↑k_ + ↑i_ : Int) % 7 : Int) = ↑((k_ + i_ ) % 7) by omega)) (Step.remN rfl rfl (by omega) (by decide))) ?_)))))))))))
   obtain ⟨x21, hx21⟩ := elem_of_lt (xs := ws_) (i := (k_ + i_ ) % 7) (by omega)
   refine wS (vQ wv_ ((k_ + i_ ) % 7) 1) rfl (sX ((k_ + i_ ) % 7) Try.un22 Try.el9 rfl rfl hb9) (wS (vS x21) rfl (Step.loadE (k := 0) Try.sc9 (flat_ec (M.rep 0 rfl) hx21 strE_len) (by decide) rfl rfl) (wM (vI ↑k_) (wS (vI (↑((k_ ) % 4))) rfl (Step.cast (congrArg (Value.int .i64) (show ((↑k_ : Int) % 4 : Int) = ↑((k_ ) % 4) by omega)) (Step.remN rfl rfl (by omega) (by decide))) (wS (vI ((↑((k_ ) % 4) : Int) - 1)) rfl (Step.sub rfl rfl (wrap_i64 (by omega))) (wP (Value.agg #[(vI (↑((k_ ) % 7))), (vS x21), (vI ((↑((k_ ) % 4) : Int) - 1))]) ?_)))))
   refine WL.new (obj := .cells #[(vI (↑((k_ ) % 7))), (vS x21), (vI ((↑((k_ ) % 4) : Int) - 1))] 31) (fun b => .slice (some ⟨b, 0, none⟩) 1 1) M rfl (fun w => Step.make (by kernel_rfl)) (fun b22 w23 hb22 M => ?_)
   refine WL.does rfl (M.appendF ls_ ([(⟨↑((k_ ) % 7), x21, (↑((k_ ) % 4) : Int) - 1⟩ : TAct)] : List TAct) (sv := (Value.slice (some ⟨b22, 0, none⟩) 1 1)) 1 Try.un23 Try.el31 rfl (by decide) rfl rfl rfl (SlAt.of_blk (M.blk 0 rfl) rfl (by decide)) actE_cel (by have := hbls_; simp only [maxLen, List.length_nil, List.length_cons, List.length_append]; omega) (by have := hbls_; (try simp only [List.length_nil, List.length_cons, List.length_append]); omega)) ?_
   rintro v24 w25 M
   have sl26 : IsSl v24 := SlAt.isSl (oW (M.chunk 1 rfl).inv)
   refine wA v24 (WL.nil (W.region rfl (wM (vI ↑k_) (wS (vI (↑k_ * 3)) rfl (Step.mul rfl rfl (wrap_i64 (by omega))) (wS (vI (↑((k_ * 3 ) / 2))) rfl (Step.cast (congrArg (Value.int .i64) (show ((↑k_ * 3 : Int) / 2 : Int) = ↑((k_ * 3 ) / 2) by omega)) (Step.quoN rfl rfl (by omega) (by decide) (wrap_i64 (by omega)))) (wM (vI ↑i_) (wS (vI (5 * ↑i_)) rfl (Step.mul rfl rfl (wrap_i64 (by omega))) (wS (vI (↑(((k_ * 3 ) / 2) + (5 * i_)))) rfl (Step.cast (congrArg (Value.int .i64) (show (↑((k_ * 3 ) / 2) + (5 * ↑i_) : Int) = ↑(((k_ * 3 ) / 2) + (5 * i_)) by omega)) (Step.add rfl rfl (wrap_i64 (by omega)))) (wA (vI (↑(((k_ * 3 ) / 2) + (5 * i_)))) (WL.nil (W.region rfl (wM (vI ↑i_) (wS (vI (↑i_ + 1)) rfl (Step.add rfl rfl (wrap_i64 (by omega))) (wA (vI (↑i_ + 1)) (WL.nil ?_)))))))))))))))
   replace M := M.sel (L' := [own 31 3 v24 ((ls_ ++ ([(⟨↑((k_ ) % 7), x21, (↑((k_ ) % 4) : Int) - 1⟩ : TAct)] : List TAct)).length) ((ls_ ++ ([(⟨↑((k_ ) % 7), x21, (↑((k_ ) % 4) : Int) - 1⟩ : TAct)] : List TAct)).flatMap actE)]) [1] rfl (by decide)
   exact ⟨_, (by omega), i_ + 1, (k_ * 3 / 2 + 5 * i_), v24, ls_ ++ ([(⟨↑((k_ ) % 7), x21, (↑((k_ ) % 4) : Int) - 1⟩ : TAct)] : List TAct), ⟨(by omega), (by simp; omega), (kB_step hkb_ (by omega)), rfl⟩, ⟨rfl, rfl, rfl, rfl, rfl, rfl, rfl, rfl, rfl, rfl, rfl, rfl, rfl, rfl, rfl, rfl, rfl, rfl, rfl, rfl, rfl, rfl, rfl, rfl, rfl, rfl, rfl⟩, M⟩
  ·
   have h20p := dF h20
   refine W.exit (thn_exit (thn_exit ?_))
   refine inBlk_hit ?_
   refine wR (wM wv_ (wM (vI ↑n_) (wS (vI (↑((n_ ) % 3))) rfl (Step.cast (congrArg (Value.int .i64) (show ((↑n_ : Int) % 3 : Int) = ↑((n_ ) % 3) by omega)) (Step.remN rfl rfl (by omega) (by decide))) ?_)))
   have hsh27 := SlAt.shp (M.rep 0 rfl)
   have hsh27c := hsh27
   obtain ⟨_, _, hsh27l, hsh27m⟩ := hsh27c
   refine wS (vSlice 1 ((n_ ) % 3) ws_.length (vCap wv_) wv_) rfl (Step.sliceFromP (l := (n_ ) % 3) Try.un22 Try.el9.sized rfl rfl (by omega) hsh27 (by omega)) (wM (vS x11) (wM (vS x12) (wM (vB ((↑((n_ ) / 49) : Int) == (1 : Int))) (wM lv_ ?_))))
   refine WL.callX rfl (law13_plays (vSlice 1 ((n_ ) % 3) ws_.length (vCap wv_) wv_) ((ws_.drop ((n_ ) % 3)).take (ws_.length - ((n_ ) % 3))) x11 x12 ((↑((n_ ) / 49) : Int) == (1 : Int)) lv_ ls_ (M.enterW0 ⟨(((M.wideR0 0 rfl)).imp fun _ h => slat_sliceF strE_len (l := (n_ ) % 3) (h := ws_.length) h (by omega) (by omega) (Nat.le_trans (by omega) (SlAt.cap h).1) (Nat.le_refl _)), ((M.wideC0 0 rfl).imp fun _ h => oW h), trivial⟩)) (CallsF.func Try.en4 rfl) ?_
   rintro _ w28 ⟨rfl, m⟩
   replace M := M.leaveW0 m
   clear m
   refine wP (vB false) (wM (vB false) (wM wv_ (wM (vS x11) (wM (vS x12) (wM (vB ((↑((n_ ) / 49) : Int) == (1 : Int))) (wM lv_ (wM (vI ↑n_) (wS (vI (↑((n_ ) % 8))) rfl (Step.cast (congrArg (Value.int .i64) (show ((↑n_ : Int) % 8 : Int) = ↑((n_ ) % 8) by omega)) (Step.remN rfl rfl (by omega) (by decide))) ?_))))))))
   have hsh29 := SlAt.shp (oW (M.chunk 0 rfl).inv)
   have hsh29c := hsh29
   obtain ⟨_, _, hsh29l, hsh29m⟩ := hsh29c
   refine wS (vSlice 3 ((n_ ) % 8) ls_.length (vCap lv_) lv_) rfl (Step.sliceFromP (l := (n_ ) % 8) Try.un23 Try.el31.sized rfl rfl (by omega) hsh29 (by omega)) (wM (vI ↑n_) ?_)
   refine WL.callX rfl (law13_walks wv_ ws_ x11 x12 ((↑((n_ ) / 49) : Int) == (1 : Int)) (vSlice 3 ((n_ ) % 8) ls_.length (vCap lv_) lv_) ((ls_.drop ((n_ ) % 8)).take (ls_.length - ((n_ ) % 8))) ↑n_ (M.enterW0 ⟨(M.wideR0 0 rfl), ((((M.wideC0 0 rfl).imp fun _ h => oW h)).imp fun _ h => slat_sliceF actE_len (l := (n_ ) % 8) (h := ls_.length) h (by omega) (by omega) (Nat.le_trans (by omega) (SlAt.cap h).1) (Nat.le_refl _)), trivial⟩)) (CallsF.func Try.en3 rfl) ?_
   rintro _ w30 ⟨rfl, m⟩
   replace M := M.leaveW0 m
   clear m
   refine wP (vB false) (wS (vB false) rfl (Step.pick (t := false) rfl rfl) (wM (vB false) (wM (vS x11) (wM (vS x12) (wM (vB ((↑((n_ ) / 49) : Int) == (1 : Int))) (wM lv_ ?_))))))
   refine WL.callX rfl (law13_plays vZ ([] : List ByteArray) x11 x12 ((↑((n_ ) / 49) : Int) == (1 : Int)) lv_ ls_ (M.enterW0 ⟨(Sh.pure fun w => SlAt.nil 1 w), ((M.wideC0 0 rfl).imp fun _ h => oW h), trivial⟩)) (CallsF.func Try.en4 rfl) ?_
   rintro _ w31 ⟨rfl, m⟩
   replace M := M.leaveW0 m
   clear m
   refine wP (vB false) (wS (vB false) rfl (Step.pick (t := false) rfl rfl) (WL.nil ?_))
   refine W.cond (t := false) rfl (fun h => by cases h) (fun _ => ?_)
   refine W.skip (W.region rfl (wM (vI ↑n_) (wS (vI (↑n_ + 1)) rfl (Step.add rfl rfl (wrap_i64 (by omega))) (wA (vI (↑n_ + 1)) (WL.nil ?_)))))
   replace M := M.sel (L' := []) [] rfl (by decide)
   exact ⟨_, (by omega), n_ + 1, wv_, ws_, ⟨(by omega), (by assumption), rfl⟩, ⟨rfl, rfl, rfl, rfl⟩, M⟩
 ·
  have h8p := dF h8
  refine W.exit (thn_exit (thn_exit ?_))
  refine inBlk_hit ?_
  refine wR ?_
  refine WL.callX rfl (law13_none (⟨#[97]⟩ : ByteArray) (⟨#[98]⟩ : ByteArray) true 3 (M.enterW0 trivial)) (CallsF.func Try.en5 rfl) ?_
  rintro _ w32 ⟨rfl, m⟩
  replace M := M.leaveW0 m
  clear m
  refine wM (vB true) ?_
  refine WL.callX rfl (law13_walks vZ ([] : List ByteArray) sZ sZ true vZ ([] : List TAct) 0 (M.enterW0 ⟨(Sh.pure fun w => SlAt.nil 1 w), (Sh.pure fun w => SlAt.nil 3 w), trivial⟩)) (CallsF.func Try.en3 rfl) ?_
  rintro _ w33 ⟨rfl, m⟩
  replace M := M.leaveW0 m
  clear m
  refine wS (vB true) rfl (Step.pick (t := true) rfl rfl) (wM (vB true) ?_)
  refine WL.callX rfl (l13_works  (M.enterW0 trivial)) (CallsF.func Try.en12 rfl) ?_
  rintro _ w34 ⟨rfl, m⟩
  replace M := M.leaveW0 m
  clear m
  refine wS (vB true) rfl (Step.pick (t := true) rfl rfl) (wA (vB true) (WL.nil ?_))
  refine W.ret ?_
  refine ⟨.inl rfl, (vB true), ?_, ?_⟩
  · exact ⟨rfl, (Res.r1 (show RV _ _ _ (.tmp 0) (vB true) from by exact rfl))⟩
  refine ⟨?_, M.close [] rfl (by decide) trivial⟩
  rfl
end Go.Proofs
