/- Proved here: lemmas and walks on which the claim stands (part 7 of 7). No condition. -/
import Derived.Test.YtnlnpfpfggbheaaSp6
set_option linter.all false
set_option maxRecDepth 100000
namespace Go.Proofs
open Go Tp
theorem Try.en15 : Enters Try.prog 15 := fun _ _ => by kernel_rfl
theorem Try.en26 : Enters Try.prog 26 := fun _ _ => by kernel_rfl
theorem Try.en27 : Enters Try.prog 27 := fun _ _ => by kernel_rfl
theorem Try.en52 : Enters Try.prog 52 := fun _ _ => by kernel_rfl
theorem Try.en53 : Enters Try.prog 53 := fun _ _ => by kernel_rfl
theorem Try.en54 : Enters Try.prog 54 := fun _ _ => by kernel_rfl
theorem l13_does {G X : Nat → Prop} {w : World} (tb : Nat) (S : Nat → Prop) (row : List THit) (c : Nat) (rv : Value) (sb : Nat) (s : Scn) (a : TAct)  (hc : c ≤ 800) (M : Mem G X w [tT S tb row c, bk sb #[(vS s.frm), (vS s.to_), (vB s.back), (vS s.at_), (vB s.told)] 88] [fR rv row] w) : Rets Try.prog 21 #[(vP tb), rv, (vP sb), (Value.agg #[(vS s.frm), (vS s.to_), (vB s.back), (vS s.at_), (vB s.told)]), (Value.agg #[(vI a.do_), (vS a.k), (vI a.v)])] w fun r w' => ∃ (rv' : Value) (S' : Nat → Prop), r = (Value.tuple #[rv', (Value.agg #[(vS ((doesSS s row a).frm)), (vS ((doesSS s row a).to_)), (vB ((doesSS s row a).back)), (vS ((doesSS s row a).at_)), (vB ((doesSS s row a).told))]), (vB true)]) ∧ Mem G X w [tT S' tb (doesSR row a) (c + 1), bk sb #[(vS ((doesSS s row a).frm)), (vS ((doesSS s row a).to_)), (vB ((doesSS s row a).back)), (vS ((doesSS s row a).at_)), (vB ((doesSS s row a).told))] 88] [fR rv' (doesSR row a)] w' := by
 refine Rets.enter 201 _ Try.func21 rfl Try.ntmps21 Try.results21 (by simp) ?_
 have hle1 := SlAt.le' (M.rep 0 rfl)
 have sl2 : IsSl rv := SlAt.isSl (Mem.rep M 0 rfl)
 obtain ⟨hup0_, hrc_⟩ := tabC_up (M.chunk 0 rfl).inv
 refine wR ?_
 refine WL.box (v := (Value.agg #[(vS s.frm), (vS s.to_), (vB s.back), (vS s.at_), (vB s.told)])) (c := #[(vS s.frm), (vS s.to_), (vB s.back), (vS s.at_), (vB s.told)]) M rfl rfl rfl (fun b3 w4 hb3 M => ?_)
 refine WL.box (v := (Value.agg #[(vI a.do_), (vS a.k), (vI a.v)])) (c := #[(vI a.do_), (vS a.k), (vI a.v)]) M rfl rfl rfl (fun b5 w6 hb5 M => ?_)
 refine wA vZ ?_
 refine WL.alloc (c := #[(vS sZ), (vS sZ), (vB false), (vS sZ), (vB false)]) M rfl Try.el46.zero rfl (fun b7 w8 hb7 M => ?_)
 refine wA (vB false) (WL.nil (W.seq' (wR (wP (vP b5) (wS (vI a.do_) rfl (Step.load1 Try.sc3 rfl ((M.cell 1 rfl 0).trans rfl)) ?_)))))
 refine WL.callX rfl (kit_pick a.do_ 7 (by omega) (M.enterW0 trivial)) (CallsF.func Try.en16 rfl) ?_
 rintro _ w9 ⟨rfl, m⟩
 replace M := M.leaveW0 m
 clear m
 refine WL.nil (W.block (wR (wP (vB ((pickI a.do_ 7 : Int) == (0 : Int))) (wA (vB ((pickI a.do_ 7 : Int) == (0 : Int))) (WL.nil ?_)))))
 refine W.cond (t := (pickI a.do_ 7 : Int) == (0 : Int)) rfl (fun h10 => ?_) (fun h10 => ?_)
 ·
  have h10p : (pickI a.do_ 7 : Int) = (0 : Int) := by simpa using h10
  refine wR (wM (vP sb) (wM (vP tb) ?_))
  have fq := M.frm [bk sb #[(vS s.frm), (vS s.to_), (vB s.back), (vS s.at_), (vB s.told)] 88, tT S tb row c] [bk b7 #[(vS sZ), (vS sZ), (vB false), (vS sZ), (vB false)] 46, bk b5 #[(vI a.do_), (vS a.k), (vI a.v)] 31, bk b3 #[(vS s.frm), (vS s.to_), (vB s.back), (vS s.at_), (vB s.told)] 46] [4, 3, 0, 1, 2] rfl
  refine WL.callX rfl (sc_next sb s tb S row c (by first | assumption | omega) (M.eF fq trivial)) (CallsF.func Try.en24 rfl) ?_
  rintro _ w11 ⟨rfl, m⟩
  replace M := M.lF fq m
  clear m
  refine wM (Value.tuple #[(Value.agg #[(vS (((peekR s row).1).key)), (vI (((peekR s row).1).val))]), (vB ((peekR s row).2))]) (wP (Value.agg #[(vS (((peekR s row).1).key)), (vI (((peekR s row).1).val))]) (wP (vB ((peekR s row).2)) ?_))
  refine WL.alloc (c := #[(vS sZ), (vI 0)]) M rfl Try.el41.zero rfl (fun b12 w13 hb12 M => ?_)
  refine WL.store (v := (Value.agg #[(vS (((peekR s row).1).key)), (vI (((peekR s row).1).val))])) (cs := [(vS (((peekR s row).1).key)), (vI (((peekR s row).1).val))]) (c' := #[(vS (((peekR s row).1).key)), (vI (((peekR s row).1).val))]) M 0 rfl rfl Try.el41.sized rfl rfl rfl rfl (Nat.le_of_ble_eq_true rfl) (cel_cons rfl (cel_cons rfl cel_nil)) rfl rfl (fun w14 M => ?_)
  refine wA (vB ((peekR s row).2)) (WL.nil (wR (wS (Value.agg #[(vS s.frm), (vS s.to_), (vB s.back), (vS s.at_), (vB s.told)]) rfl (Step.loadN Try.ag46 rfl (M.blk 5 rfl) (Nat.le_of_ble_eq_true rfl) rfl) (wM rv ?_))))
  refine WL.callX rfl (r_next s rv row (M.enterW0 ⟨(M.wideR0 0 rfl), trivial⟩)) (CallsF.func Try.en51 rfl) ?_
  rintro _ w15 ⟨rfl, m⟩
  replace M := M.leaveW0 m
  clear m
  refine wM (Value.tuple #[(Value.agg #[(vS ((nextR s row).frm)), (vS ((nextR s row).to_)), (vB ((nextR s row).back)), (vS ((nextR s row).at_)), (vB ((nextR s row).told))]), (Value.agg #[(vS (((peekR s row).1).key)), (vI (((peekR s row).1).val))]), (vB ((peekR s row).2))]) (wP (Value.agg #[(vS ((nextR s row).frm)), (vS ((nextR s row).to_)), (vB ((nextR s row).back)), (vS ((nextR s row).at_)), (vB ((nextR s row).told))]) (wP (Value.agg #[(vS (((peekR s row).1).key)), (vI (((peekR s row).1).val))]) (wP (vB ((peekR s row).2)) ?_)))
  refine WL.alloc (c := #[(vS sZ), (vS sZ), (vB false), (vS sZ), (vB false)]) M rfl Try.el46.zero rfl (fun b16 w17 hb16 M => ?_)
  refine WL.alloc (c := #[(vS sZ), (vI 0)]) M rfl Try.el108.zero rfl (fun b18 w19 hb18 M => ?_)
  refine WL.store (v := (Value.agg #[(vS ((nextR s row).frm)), (vS ((nextR s row).to_)), (vB ((nextR s row).back)), (vS ((nextR s row).at_)), (vB ((nextR s row).told))])) (cs := [(vS ((nextR s row).frm)), (vS ((nextR s row).to_)), (vB ((nextR s row).back)), (vS ((nextR s row).at_)), (vB ((nextR s row).told))]) (c' := #[(vS ((nextR s row).frm)), (vS ((nextR s row).to_)), (vB ((nextR s row).back)), (vS ((nextR s row).at_)), (vB ((nextR s row).told))]) M 1 rfl rfl Try.el46.sized rfl rfl rfl rfl (Nat.le_of_ble_eq_true rfl) (cel_cons rfl (cel_cons rfl (cel_cons rfl (cel_cons rfl (cel_cons rfl cel_nil))))) rfl rfl (fun w20 M => ?_)
  refine WL.store (v := (Value.agg #[(vS (((peekR s row).1).key)), (vI (((peekR s row).1).val))])) (cs := [(vS (((peekR s row).1).key)), (vI (((peekR s row).1).val))]) (c' := #[(vS (((peekR s row).1).key)), (vI (((peekR s row).1).val))]) M 0 rfl rfl Try.el108.sized rfl rfl rfl rfl (Nat.le_of_ble_eq_true rfl) (cel_cons rfl (cel_cons rfl cel_nil)) rfl rfl (fun w21 M => ?_)
  refine wA (vB ((peekR s row).2)) (WL.nil (W.seq' ?_))
  refine W.drawn M [0, 1, 2, 3, 4, 5, 6, 7, 8, 9, 10, 11, 12] [4, 11] [] _ _ (sY (sY (sY (sY (sY (sN (sY (sY sE)))))))) (fun _ h => h) Try.mixed (by kernel_rfl) ?_
  refine tP rv rfl (fun w => (Step.move rfl)) ?_
  refine tR (Value.agg #[(vS ((nextR s row).frm)), (vS ((nextR s row).to_)), (vB ((nextR s row).back)), (vS ((nextR s row).at_)), (vB ((nextR s row).told))]) rfl (fun A w M => (Step.loadN Try.ag46 rfl (M.blk 2 rfl) (Nat.le_of_ble_eq_true rfl) rfl)) ?_
  refine tR (Value.agg #[(vS (((peekR s row).1).key)), (vI (((peekR s row).1).val))]) rfl (fun A w M => (Step.loadN Try.ag41 rfl (M.blk 3 rfl) (Nat.le_of_ble_eq_true rfl) rfl)) ?_
  refine tR (Value.agg #[(vS (((peekR s row).1).key)), (vI (((peekR s row).1).val))]) rfl (fun A w M => (Step.loadN Try.ag108 rfl (M.blk 1 rfl) (Nat.le_of_ble_eq_true rfl) rfl)) ?_
  let Q : List Chunk := [bk b18 #[(vS (((peekR s row).1).key)), (vI (((peekR s row).1).val))] 108, bk b16 #[(vS ((nextR s row).frm)), (vS ((nextR s row).to_)), (vB ((nextR s row).back)), (vS ((nextR s row).at_)), (vB ((nextR s row).told))] 46, bk b12 #[(vS (((peekR s row).1).key)), (vI (((peekR s row).1).val))] 41, bk sb #[(vS ((nextR s row).frm)), (vS ((nextR s row).to_)), (vB ((nextR s row).back)), (vS ((nextR s row).at_)), (vB ((nextR s row).told))] 88, tT S tb row c, bk b7 #[(vS sZ), (vS sZ), (vB false), (vS sZ), (vB false)] 46, bk b5 #[(vI a.do_), (vS a.k), (vI a.v)] 31, bk b3 #[(vS s.frm), (vS s.to_), (vB s.back), (vS s.at_), (vB s.told)] 46]
  refine TW.callX (ι := Unit) (fun jx v_ => v_ = (vB true)) (fun jx => Q) (fun jx => [fR rv row]) rfl (by decide) rfl (fun jx => (sY (sY (sY (sY (sY (sN (sY (sY sE))))))))) (fun jx r h => h) (fun A w M => Rets.mono (l13_hit1 ((peekR s row).1) (M.enterW0 trivial)) (fun v_ w_ ⟨e_, m⟩ => ⟨(), e_, (M.leaveW0 m).sel [0, 1, 2, 3, 4, 5, 6, 7, 8] rfl (by decide), fun b hb => M.k0F m b hb⟩)) (fun w => CallsF.func Try.en52 rfl) (fun jx v hp hin => ?_)
  replace hp := hp.symm; subst hp
  clear hin
  refine tP (vB true) rfl (fun w => (Step.move rfl)) ?_
  refine tP (vB ((peekR s row).2)) rfl (fun w => (Step.move rfl)) ?_
  refine tP (vB ((peekR s row).2)) rfl (fun w => (Step.move rfl)) ?_
  refine tP (vB true) rfl (fun w => (Step.cast (congrArg Value.bool (by simp)) (Step.pure (v := .bool ((((peekR s row).2) == ((peekR s row).2)))) (by kernel_rfl)))) ?_
  refine tP (vB true) rfl (fun w => (Step.pick (t := true) rfl rfl)) ?_
  refine tP rv rfl (fun w => (Step.assign rfl)) ?_
  refine TW.store (v := (Value.agg #[(vS ((nextR s row).frm)), (vS ((nextR s row).to_)), (vB ((nextR s row).back)), (vS ((nextR s row).at_)), (vB ((nextR s row).told))])) (cs := [(vS ((nextR s row).frm)), (vS ((nextR s row).to_)), (vB ((nextR s row).back)), (vS ((nextR s row).at_)), (vB ((nextR s row).told))]) (c' := #[(vS ((nextR s row).frm)), (vS ((nextR s row).to_)), (vB ((nextR s row).back)), (vS ((nextR s row).at_)), (vB ((nextR s row).told))]) 5 rfl rfl (by decide) rfl Try.el46.sized rfl rfl rfl rfl (Nat.le_of_ble_eq_true rfl) (cel_cons rfl (cel_cons rfl (cel_cons rfl (cel_cons rfl (cel_cons rfl cel_nil))))) rfl rfl (sY (sY (sY (sY (sY (sN (sY (sY sE)))))))) (fun r h => h) ?_
  refine tP (vB true) rfl (fun w => (Step.assign rfl)) ?_
  refine TW.done (fun w24 M => ?_)
  refine W.ret ?_
  refine ⟨.inl rfl, (Value.tuple #[rv, (Value.agg #[(vS ((nextR s row).frm)), (vS ((nextR s row).to_)), (vB ((nextR s row).back)), (vS ((nextR s row).at_)), (vB ((nextR s row).told))]), (vB true)]), ?_, ?_⟩
  · exact ⟨rfl, (Res.r3 (show RV _ _ _ (.tmp 10) rv from by exact rfl) (RV.cellN Try.ag46 rfl (M.blk 5 rfl) rfl) (show RV _ _ _ (.tmp 12) (vB true) from by exact rfl))⟩
  replace M := M.sel (L' := [tT S tb row c, bk b18 #[(vS (((peekR s row).1).key)), (vI (((peekR s row).1).val))] 108, bk b16 #[(vS ((nextR s row).frm)), (vS ((nextR s row).to_)), (vB ((nextR s row).back)), (vS ((nextR s row).at_)), (vB ((nextR s row).told))] 46, bk b12 #[(vS (((peekR s row).1).key)), (vI (((peekR s row).1).val))] 41, bk sb #[(vS ((nextR s row).frm)), (vS ((nextR s row).to_)), (vB ((nextR s row).back)), (vS ((nextR s row).at_)), (vB ((nextR s row).told))] 88, bk b7 #[(vS ((nextR s row).frm)), (vS ((nextR s row).to_)), (vB ((nextR s row).back)), (vS ((nextR s row).at_)), (vB ((nextR s row).told))] 46, bk b5 #[(vI a.do_), (vS a.k), (vI a.v)] 31, bk b3 #[(vS s.frm), (vS s.to_), (vB s.back), (vS s.at_), (vB s.told)] 46]) [4, 0, 1, 2, 3, 5, 6, 7] rfl (by decide)
  replace M := M.tabUp
  have e25 : doesSR row a = row := by
   rw [(sd_next (s := s) (row := row) h10p).1]
  replace M := M.rechunk 0 (c' := tT S tb (doesSR row a) (c + 1)) rfl (by rw [e25])
  have e26 : (bk sb #[(vS ((doesSS s row a).frm)), (vS ((doesSS s row a).to_)), (vB ((doesSS s row a).back)), (vS ((doesSS s row a).at_)), (vB ((doesSS s row a).told))] 88 : Chunk) = (bk sb #[(vS ((nextR s row).frm)), (vS ((nextR s row).to_)), (vB ((nextR s row).back)), (vS ((nextR s row).at_)), (vB ((nextR s row).told))] 88 : Chunk) := by
   rw [(sd_next (s := s) (row := row) h10p).2]
  replace M := M.rechunk 4 (c' := bk sb #[(vS ((doesSS s row a).frm)), (vS ((doesSS s row a).to_)), (vB ((doesSS s row a).back)), (vS ((doesSS s row a).at_)), (vB ((doesSS s row a).told))] 88) rfl e26.symm
  have e27 : doesSR row a = row := by
   rw [(sd_next (s := s) (row := row) h10p).1]
  have hf28 := Sh.reList e27 (M.shr' 0 rfl)
  refine ⟨rv, S, ?_, M.close [0, 4] rfl (by decide) ⟨hf28, trivial⟩⟩
  rw [(sd_next (s := s) (row := row) h10p).2]
 ·
  have h10p : ¬ (pickI a.do_ 7 : Int) = (0 : Int) := by simpa using h10
  refine wR (wP (vB ((pickI a.do_ 7 : Int) == (1 : Int))) (wA (vB ((pickI a.do_ 7 : Int) == (1 : Int))) (WL.nil ?_)))
  refine W.cond (t := (pickI a.do_ 7 : Int) == (1 : Int)) rfl (fun h29 => ?_) (fun h29 => ?_)
  ·
   have h29p : (pickI a.do_ 7 : Int) = (1 : Int) := by simpa using h29
   refine wR (wM (vP sb) (wM (vP tb) (wP (Value.pointer (some ⟨b5, 2, none⟩)) (wS (vI a.v) rfl (Step.load1 Try.sc3 rfl ((M.cell 1 rfl 2).trans rfl)) ?_))))
   have fq := M.frm [bk sb #[(vS s.frm), (vS s.to_), (vB s.back), (vS s.at_), (vB s.told)] 88, tT S tb row c] [bk b7 #[(vS sZ), (vS sZ), (vB false), (vS sZ), (vB false)] 46, bk b5 #[(vI a.do_), (vS a.k), (vI a.v)] 31, bk b3 #[(vS s.frm), (vS s.to_), (vB s.back), (vS s.at_), (vB s.told)] 46] [4, 3, 0, 1, 2] rfl
   refine WL.callX rfl (sc_page sb s tb S row c a.v (by first | assumption | omega) (M.eF fq trivial)) (CallsF.func Try.en15 rfl) ?_
   rintro _ w31 ⟨v30, rfl, m⟩
   replace M := M.lF fq m
   clear m
   have sl32 : IsSl v30 := SlAt.isSl (own_slAt (Mem.chunk M 2 rfl).inv)
   have hle33 := SlAt.le' (own_slAt (Mem.chunk M 2 rfl).inv)
   refine wM (Value.tuple #[v30, (vB (pageD s row a.v))]) (wP v30 (wP (vB (pageD s row a.v)) (wA v30 (wA (vB (pageD s row a.v)) (WL.nil ?_)))))
   refine wR (wS (Value.agg #[(vS s.frm), (vS s.to_), (vB s.back), (vS s.at_), (vB s.told)]) rfl (Step.loadN Try.ag46 rfl (M.blk 5 rfl) (Nat.le_of_ble_eq_true rfl) rfl) (wM rv (wP (Value.pointer (some ⟨b5, 2, none⟩)) (wS (vI a.v) rfl (Step.load1 Try.sc3 rfl ((M.cell 4 rfl 2).trans rfl)) ?_))))
   refine WL.callX rfl (r_page s rv row a.v (by omega) (by assumption) (M.enter0 ⟨(M.shr' 0 rfl), trivial⟩)) (CallsF.func Try.en53 rfl) ?_
   rintro _ w35 ⟨pv34, rfl, m⟩
   replace M := M.leave0 m
   clear m
   have sl36 : IsSl pv34 := SlAt.isSl (Mem.rep M 0 rfl)
   have hle37 := SlAt.le' (M.rep 0 rfl)
   refine wM (Value.tuple #[(Value.agg #[(vS ((pageS s row a.v).frm)), (vS ((pageS s row a.v).to_)), (vB ((pageS s row a.v).back)), (vS ((pageS s row a.v).at_)), (vB ((pageS s row a.v).told))]), pv34, (vB (pageD s row a.v))]) (wP (Value.agg #[(vS ((pageS s row a.v).frm)), (vS ((pageS s row a.v).to_)), (vB ((pageS s row a.v).back)), (vS ((pageS s row a.v).at_)), (vB ((pageS s row a.v).told))]) (wP pv34 (wP (vB (pageD s row a.v)) ?_)))
   refine WL.alloc (c := #[(vS sZ), (vS sZ), (vB false), (vS sZ), (vB false)]) M rfl Try.el46.zero rfl (fun b38 w39 hb38 M => ?_)
   refine WL.store (v := (Value.agg #[(vS ((pageS s row a.v).frm)), (vS ((pageS s row a.v).to_)), (vB ((pageS s row a.v).back)), (vS ((pageS s row a.v).at_)), (vB ((pageS s row a.v).told))])) (cs := [(vS ((pageS s row a.v).frm)), (vS ((pageS s row a.v).to_)), (vB ((pageS s row a.v).back)), (vS ((pageS s row a.v).at_)), (vB ((pageS s row a.v).told))]) (c' := #[(vS ((pageS s row a.v).frm)), (vS ((pageS s row a.v).to_)), (vB ((pageS s row a.v).back)), (vS ((pageS s row a.v).at_)), (vB ((pageS s row a.v).told))]) M 0 rfl rfl Try.el46.sized rfl rfl rfl rfl (Nat.le_of_ble_eq_true rfl) (cel_cons rfl (cel_cons rfl (cel_cons rfl (cel_cons rfl (cel_cons rfl cel_nil))))) rfl rfl (fun w40 M => ?_)
   refine wA pv34 (wA (vB (pageD s row a.v)) (WL.nil (W.seq' (wR (wM v30 ?_)))))
   refine wS (vI (↑((pageL s row a.v).length))) rfl (Step.lenSl Try.un34 rfl (own_slAt (M.chunk 3 rfl).inv)) (wM pv34 (wS (vI (↑((pageL s row a.v).length))) rfl (Step.lenSl Try.un27 rfl (M.rep 0 rfl)) (wS (vB false) rfl (Step.cast (congrArg Value.bool (show ((↑((pageL s row a.v).length) : Int) != (↑((pageL s row a.v).length) : Int)) = false by simp)) sP) (wM (vB false) (wM (vB (pageD s row a.v)) ?_)))))
   refine wM (vB (pageD s row a.v)) (wS (vB false) rfl (Step.cast (congrArg Value.bool (by simp)) (Step.pure (v := .bool (!((pageD s row a.v) == (pageD s row a.v)))) (by kernel_rfl))) (wS (vB false) rfl (Step.pick (t := false) rfl rfl) (WL.nil ?_)))
   refine W.cond (t := false) rfl (fun h => by cases h) (fun _ => ?_)
   refine W.skip (W.seq' (wR (wA (vI 0) (WL.nil (W.block ?_)))))
   replace M := M.sel (L' := [oR v30 (pageL s row a.v), bk b38 #[(vS ((pageS s row a.v).frm)), (vS ((pageS s row a.v).to_)), (vB ((pageS s row a.v).back)), (vS ((pageS s row a.v).at_)), (vB ((pageS s row a.v).told))] 46, bk sb #[(vS ((pageS s row a.v).frm)), (vS ((pageS s row a.v).to_)), (vB ((pageS s row a.v).back)), (vS ((pageS s row a.v).at_)), (vB ((pageS s row a.v).told))] 88, tT S tb row c, bk b7 #[(vS sZ), (vS sZ), (vB false), (vS sZ), (vB false)] 46, bk b5 #[(vI a.do_), (vS a.k), (vI a.v)] 31, bk b3 #[(vS s.frm), (vS s.to_), (vB s.back), (vS s.at_), (vB s.told)] 46]) [3, 0, 1, 2, 4, 5, 6] rfl (by decide)
   refine W.loop (fun kk ρ w' => ∃ (q_ : Nat) (hs_ : List THit), ((hs_.length = (pageL s row a.v).length) ∧ (q_ ≤ (pageL s row a.v).length) ∧ (∀ j, q_ ≤ j → hs_[j]? = (pageL s row a.v)[j]?) ∧ kk = (pageL s row a.v).length - q_) ∧ ρ.has [(0, (vP tb)), (1, rv), (2, (vP sb)), (8, (vP b3)), (9, (vP b5)), (11, (vP b7)), (18, v30), (20, (vP b38)), (21, pv34), (23, (vI ↑q_)), (36, (vI (pickI a.do_ 7)))] ∧ Mem G X w [oR v30 hs_, bk b38 #[(vS ((pageS s row a.v).frm)), (vS ((pageS s row a.v).to_)), (vB ((pageS s row a.v).back)), (vS ((pageS s row a.v).at_)), (vB ((pageS s row a.v).told))] 46, bk sb #[(vS ((pageS s row a.v).frm)), (vS ((pageS s row a.v).to_)), (vB ((pageS s row a.v).back)), (vS ((pageS s row a.v).at_)), (vB ((pageS s row a.v).told))] 88, tT S tb row c, bk b7 #[(vS sZ), (vS sZ), (vB false), (vS sZ), (vB false)] 46, bk b5 #[(vI a.do_), (vS a.k), (vI a.v)] 31, bk b3 #[(vS s.frm), (vS s.to_), (vB s.back), (vS s.at_), (vB s.told)] 46] [fR pv34 (pageL s row a.v), fR rv row]  w') _ ⟨0, pageL s row a.v, ⟨rfl, (Nat.zero_le _), (fun _ _ => rfl), rfl⟩, ⟨rfl, rfl, rfl, rfl, rfl, rfl, rfl, rfl, rfl, rfl, rfl, rfl, rfl⟩, M⟩ ?_
   rintro _ ρ42 w41 ⟨q_, hs_, ⟨hi43, hi44, hi45, rfl⟩, hρ, M⟩
   obtain ⟨ρ42, rfl⟩ := hρ.know
   clear hρ
   have hsq_ : ∀ j, q_ ≤ j → hs_[j]? = (pageL s row a.v)[j]? := hi45
   refine W.seq' (wR (wM (vI ↑q_) (wM v30 (wS (vI ↑hs_.length) rfl (Step.lenSl Try.un34 rfl (own_slAt (M.chunk 0 rfl).inv)) (wP (vB (decide ((↑q_ : Int) < (↑hs_.length : Int)))) ?_)))))
   refine WL.nil ?_
   refine W.cond (t := decide ((↑q_ : Int) < (↑hs_.length : Int))) rfl (fun h46 => ?_) (fun h46 => ?_)
   ·
    have h46p := of_decide_eq_true h46
    refine W.skip (W.seq' (W.block (W.seq' (W.seq' ?_))))
    obtain ⟨cap48, hb47⟩ := SlAt.base (own_slAt (M.chunk 0 rfl).inv) (by omega)
    obtain ⟨x49, hx49⟩ := elem_of_lt (xs := hs_) (i := q_) (by omega)
    obtain ⟨cap51, hb50⟩ := SlAt.base (M.rep 0 rfl) (by omega)
    obtain ⟨x52, hx52⟩ := elem_of_lt (xs := pageL s row a.v) (i := q_) (by omega)
    have hxy_ : x49 = x52 := Option.some.inj (hx49.symm.trans ((hsq_ q_ (Nat.le_refl _)).trans hx52))
    refine W.drawn M [0, 1, 2, 3, 4, 5, 6, 7, 8, 9] [8] [] _ _ (sY (sY (sY (sY (sY (sY (sY sE))))))) (fun _ h => h) Try.mixed (by kernel_rfl) ?_
    refine tP v30 rfl (fun w => (Step.move rfl)) ?_
    refine tP (vI ↑q_) rfl (fun w => (Step.move rfl)) ?_
    refine tP (vQ v30 q_ 2) rfl (fun w => (sX q_ Try.un34 Try.el41 rfl rfl hb47)) ?_
    refine tR (Value.agg #[(vS x49.key), (vI x49.val)]) rfl (fun A w M => (Step.loadEN (k := 0) (cs' := [(vS x49.key), (vI x49.val)]) Try.ag41 (flat_ec (own_slAt (M.chunk 1 rfl).inv) hx49 hitE_len) (by decide) rfl rfl rfl)) ?_
    refine tP pv34 rfl (fun w => (Step.move rfl)) ?_
    refine tP (vI ↑q_) rfl (fun w => (Step.move rfl)) ?_
    refine tP (vQ pv34 q_ 2) rfl (fun w => (sX q_ Try.un27 Try.el108 rfl rfl hb50)) ?_
    refine tR (Value.agg #[(vS x52.key), (vI x52.val)]) rfl (fun A w M => (Step.loadEN (k := 0) (cs' := [(vS x52.key), (vI x52.val)]) Try.ag108 (flat_ec (M.rep 0 rfl) hx52 hitE_len) (by decide) rfl rfl rfl)) ?_
    let Q : List Chunk := [oR v30 hs_, bk b38 #[(vS ((pageS s row a.v).frm)), (vS ((pageS s row a.v).to_)), (vB ((pageS s row a.v).back)), (vS ((pageS s row a.v).at_)), (vB ((pageS s row a.v).told))] 46, bk sb #[(vS ((pageS s row a.v).frm)), (vS ((pageS s row a.v).to_)), (vB ((pageS s row a.v).back)), (vS ((pageS s row a.v).at_)), (vB ((pageS s row a.v).told))] 88, tT S tb row c, bk b7 #[(vS sZ), (vS sZ), (vB false), (vS sZ), (vB false)] 46, bk b5 #[(vI a.do_), (vS a.k), (vI a.v)] 31, bk b3 #[(vS s.frm), (vS s.to_), (vB s.back), (vS s.at_), (vB s.told)] 46]
    refine TW.callX (ι := Unit) (fun jx v_ => v_ = (vB (decide (x49 = x52)))) (fun jx => Q) (fun jx => [fR pv34 (pageL s row a.v), fR rv row]) rfl (by decide) rfl (fun jx => (sY (sY (sY (sY (sY (sY (sY sE)))))))) (fun jx r h => h) (fun A w M => Rets.mono (l13_hit2 x49 x52 (M.enterW0 trivial)) (fun v_ w_ ⟨e_, m⟩ => ⟨(), e_, (M.leaveW0 m).sel [0, 1, 2, 3, 4, 5, 6, 7] rfl (by decide), fun b hb => M.k0F m b hb⟩)) (fun w => CallsF.func Try.en52 rfl) (fun jx v hp hin => ?_)
    replace hp := hp.symm; subst hp
    clear hin
    rw [(show (decide (x49 = x52)) = true by simp [hxy_])]
    refine tP (vB false) rfl (fun w => sP) ?_
    refine TW.done (fun w53 M => ?_)
    refine W.cond (t := false) rfl (fun h => by cases h) (fun _ => ?_)
    refine W.skip (W.region rfl (wM v30 (wM (vI ↑q_) (wP (Value.agg #[(vS sZ), (vI 0)]) (wS (vQ v30 q_ 2) rfl (sX q_ Try.un34 Try.el41 rfl rfl hb47) ?_)))))
    obtain ⟨pre54, post55, hcs56, hpre57, hback58⟩ := flat_open hitE_len hx49
    replace M := M.rechunk 0 (c' := own 41 2 v30 hs_.length (pre54 ++ ([(vS x49.key), (vI x49.val)] ++ post55))) rfl (by show own 41 2 v30 hs_.length (hs_.flatMap hitE) = _; rw [hcs56]; rfl)
    refine WL.act rfl (M.storeAt (cells := [(vS x49.key), (vI x49.val)]) (cells' := [(vS sZ), (vI 0)]) (new := [(vS sZ), (vI 0)]) (k := 0) 0 rfl hpre57 Try.el41.sized rfl rfl rfl (cel_cons rfl (cel_cons rfl cel_nil)) (by first | omega | (simp only [List.length_set, List.length_append, List.length_cons, List.length_nil]; omega)) (Nat.le_of_ble_eq_true rfl) rfl rfl) ?_
    rintro w59 ⟨M, -⟩
    refine WL.nil (W.region rfl (wM (vI ↑q_) (wS (vI (↑q_ + 1)) rfl (Step.add rfl rfl (wrap_i64 (by omega))) (wA (vI (↑q_ + 1)) (WL.nil ?_)))))
    replace M := M.rechunk 0 (c' := own 41 2 v30 (hs_.length) ((hs_.set q_ (⟨sZ, 0⟩ : THit)).flatMap hitE)) rfl (by rw [← hback58]; rfl)
    replace M := M.rechunk 0 (c' := oR v30 (hs_.set q_ (⟨sZ, 0⟩ : THit))) rfl (by show _ = own 41 2 v30 ((hs_.set q_ (⟨sZ, 0⟩ : THit)).length) ((hs_.set q_ (⟨sZ, 0⟩ : THit)).flatMap hitE); rw [List.length_set])
    exact ⟨_, (by omega), q_ + 1, hs_.set q_ (⟨sZ, 0⟩ : THit), ⟨(by rw [List.length_set]; assumption), (by omega), (fun j hj => by rw [List.getElem?_set_ne (by omega)]; exact hsq_ j (by omega)), rfl⟩, ⟨rfl, rfl, rfl, rfl, rfl, rfl, rfl, rfl, rfl, rfl, rfl, rfl, rfl⟩, M⟩
   ·
    have h46p := of_decide_eq_false h46
    refine W.exit ?_
    refine thn_exit ?_
    refine thn_exit ?_
    refine inBlk_hit ?_
    refine W.seq' ?_
    refine W.drawn M [0, 1, 2, 3, 4] [3] [] _ _ (sY (sY (sY (sY (sN (sY (sY sE))))))) (fun _ h => h) Try.mixed (by kernel_rfl) ?_
    refine tP rv rfl (fun w => (Step.move rfl)) ?_
    refine tR (Value.agg #[(vS ((pageS s row a.v).frm)), (vS ((pageS s row a.v).to_)), (vB ((pageS s row a.v).back)), (vS ((pageS s row a.v).at_)), (vB ((pageS s row a.v).told))]) rfl (fun A w M => (Step.loadN Try.ag46 rfl (M.blk 2 rfl) (Nat.le_of_ble_eq_true rfl) rfl)) ?_
    refine tP rv rfl (fun w => (Step.assign rfl)) ?_
    refine TW.store (v := (Value.agg #[(vS ((pageS s row a.v).frm)), (vS ((pageS s row a.v).to_)), (vB ((pageS s row a.v).back)), (vS ((pageS s row a.v).at_)), (vB ((pageS s row a.v).told))])) (cs := [(vS ((pageS s row a.v).frm)), (vS ((pageS s row a.v).to_)), (vB ((pageS s row a.v).back)), (vS ((pageS s row a.v).at_)), (vB ((pageS s row a.v).told))]) (c' := #[(vS ((pageS s row a.v).frm)), (vS ((pageS s row a.v).to_)), (vB ((pageS s row a.v).back)), (vS ((pageS s row a.v).at_)), (vB ((pageS s row a.v).told))]) 4 rfl rfl (by decide) rfl Try.el46.sized rfl rfl rfl rfl (Nat.le_of_ble_eq_true rfl) (cel_cons rfl (cel_cons rfl (cel_cons rfl (cel_cons rfl (cel_cons rfl cel_nil))))) rfl rfl (sY (sY (sY (sY (sN (sY (sY sE))))))) (fun r h => h) ?_
    refine tP (vB true) rfl (fun w => (Step.assign rfl)) ?_
    refine TW.done (fun w62 M => ?_)
    refine W.ret ?_
    refine ⟨.inl rfl, (Value.tuple #[rv, (Value.agg #[(vS ((pageS s row a.v).frm)), (vS ((pageS s row a.v).to_)), (vB ((pageS s row a.v).back)), (vS ((pageS s row a.v).at_)), (vB ((pageS s row a.v).told))]), (vB true)]), ?_, ?_⟩
    · exact ⟨rfl, (Res.r3 (show RV _ _ _ (.tmp 10) rv from by exact rfl) (RV.cellN Try.ag46 rfl (M.blk 4 rfl) rfl) (show RV _ _ _ (.tmp 12) (vB true) from by exact rfl))⟩
    replace M := M.sel (L' := [tT S tb row c, oR v30 hs_, bk b38 #[(vS ((pageS s row a.v).frm)), (vS ((pageS s row a.v).to_)), (vB ((pageS s row a.v).back)), (vS ((pageS s row a.v).at_)), (vB ((pageS s row a.v).told))] 46, bk sb #[(vS ((pageS s row a.v).frm)), (vS ((pageS s row a.v).to_)), (vB ((pageS s row a.v).back)), (vS ((pageS s row a.v).at_)), (vB ((pageS s row a.v).told))] 88, bk b7 #[(vS ((pageS s row a.v).frm)), (vS ((pageS s row a.v).to_)), (vB ((pageS s row a.v).back)), (vS ((pageS s row a.v).at_)), (vB ((pageS s row a.v).told))] 46, bk b5 #[(vI a.do_), (vS a.k), (vI a.v)] 31, bk b3 #[(vS s.frm), (vS s.to_), (vB s.back), (vS s.at_), (vB s.told)] 46]) [3, 0, 1, 2, 4, 5, 6] rfl (by decide)
    replace M := M.tabUp
    have e63 : doesSR row a = row := by
     rw [(sd_page (s := s) (row := row) h10p h29p).1]
    replace M := M.rechunk 0 (c' := tT S tb (doesSR row a) (c + 1)) rfl (by rw [e63])
    have e64 : (bk sb #[(vS ((doesSS s row a).frm)), (vS ((doesSS s row a).to_)), (vB ((doesSS s row a).back)), (vS ((doesSS s row a).at_)), (vB ((doesSS s row a).told))] 88 : Chunk) = (bk sb #[(vS ((pageS s row a.v).frm)), (vS ((pageS s row a.v).to_)), (vB ((pageS s row a.v).back)), (vS ((pageS s row a.v).at_)), (vB ((pageS s row a.v).told))] 88 : Chunk) := by
     rw [(sd_page (s := s) (row := row) h10p h29p).2]
    replace M := M.rechunk 3 (c' := bk sb #[(vS ((doesSS s row a).frm)), (vS ((doesSS s row a).to_)), (vB ((doesSS s row a).back)), (vS ((doesSS s row a).at_)), (vB ((doesSS s row a).told))] 88) rfl e64.symm
    have e65 : doesSR row a = row := by
     rw [(sd_page (s := s) (row := row) h10p h29p).1]
    have hf66 := Sh.reList e65 (M.shr' 1 rfl)
    refine ⟨rv, S, ?_, M.close [0, 3] rfl (by decide) ⟨hf66, trivial⟩⟩
    rw [(sd_page (s := s) (row := row) h10p h29p).2]
  ·
   have h29p : ¬ (pickI a.do_ 7 : Int) = (1 : Int) := by simpa using h29
   refine wR (wP (vB ((pickI a.do_ 7 : Int) == (2 : Int))) (wA (vB ((pickI a.do_ 7 : Int) == (2 : Int))) (WL.nil ?_)))
   refine W.cond (t := (pickI a.do_ 7 : Int) == (2 : Int)) rfl (fun h67 => ?_) (fun h67 => ?_)
   ·
    have h67p : (pickI a.do_ 7 : Int) = (2 : Int) := by simpa using h67
    refine wR (wM (vP sb) (wP (Value.pointer (some ⟨b5, 1, none⟩)) (wS (vS a.k) rfl (Step.load1 Try.sc9 rfl ((M.cell 1 rfl 1).trans rfl)) ?_)))
    have fq := M.frm [bk sb #[(vS s.frm), (vS s.to_), (vB s.back), (vS s.at_), (vB s.told)] 88] [bk b7 #[(vS sZ), (vS sZ), (vB false), (vS sZ), (vB false)] 46, bk b5 #[(vI a.do_), (vS a.k), (vI a.v)] 31, bk b3 #[(vS s.frm), (vS s.to_), (vB s.back), (vS s.at_), (vB s.told)] 46, tT S tb row c] [4, 0, 1, 2, 3] rfl
    refine WL.callX rfl (sc_skip sb s a.k (M.eF fq trivial)) (CallsF.func Try.en26 rfl) ?_
    rintro _ w68 ⟨rfl, m⟩
    replace M := M.lF fq m
    clear m
    refine wA (vB ((skipS s a.k).2)) (WL.nil (wR (wS (Value.agg #[(vS s.frm), (vS s.to_), (vB s.back), (vS s.at_), (vB s.told)]) rfl (Step.loadN Try.ag46 rfl (M.blk 3 rfl) (Nat.le_of_ble_eq_true rfl) rfl) (wP (Value.pointer (some ⟨b5, 1, none⟩)) (wS (vS a.k) rfl (Step.load1 Try.sc9 rfl ((M.cell 2 rfl 1).trans rfl)) ?_)))))
    refine WL.callX rfl (r_skip s a.k (M.enterW0 trivial)) (CallsF.func Try.en54 rfl) ?_
    rintro _ w69 ⟨rfl, m⟩
    replace M := M.leaveW0 m
    clear m
    refine wM (Value.tuple #[(Value.agg #[(vS (((skipS s a.k).1).frm)), (vS (((skipS s a.k).1).to_)), (vB (((skipS s a.k).1).back)), (vS (((skipS s a.k).1).at_)), (vB (((skipS s a.k).1).told))]), (vB ((skipS s a.k).2))]) (wP (Value.agg #[(vS (((skipS s a.k).1).frm)), (vS (((skipS s a.k).1).to_)), (vB (((skipS s a.k).1).back)), (vS (((skipS s a.k).1).at_)), (vB (((skipS s a.k).1).told))]) (wP (vB ((skipS s a.k).2)) ?_))
    refine WL.alloc (c := #[(vS sZ), (vS sZ), (vB false), (vS sZ), (vB false)]) M rfl Try.el46.zero rfl (fun b70 w71 hb70 M => ?_)
    refine WL.store (v := (Value.agg #[(vS (((skipS s a.k).1).frm)), (vS (((skipS s a.k).1).to_)), (vB (((skipS s a.k).1).back)), (vS (((skipS s a.k).1).at_)), (vB (((skipS s a.k).1).told))])) (cs := [(vS (((skipS s a.k).1).frm)), (vS (((skipS s a.k).1).to_)), (vB (((skipS s a.k).1).back)), (vS (((skipS s a.k).1).at_)), (vB (((skipS s a.k).1).told))]) (c' := #[(vS (((skipS s a.k).1).frm)), (vS (((skipS s a.k).1).to_)), (vB (((skipS s a.k).1).back)), (vS (((skipS s a.k).1).at_)), (vB (((skipS s a.k).1).told))]) M 0 rfl rfl Try.el46.sized rfl rfl rfl rfl (Nat.le_of_ble_eq_true rfl) (cel_cons rfl (cel_cons rfl (cel_cons rfl (cel_cons rfl (cel_cons rfl cel_nil))))) rfl rfl (fun w72 M => ?_)
    refine wA (vB ((skipS s a.k).2)) (WL.nil (W.seq' ?_))
    refine W.drawn M [0, 1, 2, 3, 4, 5, 6, 7] [6] [] _ _ (sY (sY (sN (sY (sY (sY sE)))))) (fun _ h => h) Try.mixed (by kernel_rfl) ?_
    refine tP rv rfl (fun w => (Step.move rfl)) ?_
    refine tR (Value.agg #[(vS (((skipS s a.k).1).frm)), (vS (((skipS s a.k).1).to_)), (vB (((skipS s a.k).1).back)), (vS (((skipS s a.k).1).at_)), (vB (((skipS s a.k).1).told))]) rfl (fun A w M => (Step.loadN Try.ag46 rfl (M.blk 1 rfl) (Nat.le_of_ble_eq_true rfl) rfl)) ?_
    refine tP (vB ((skipS s a.k).2)) rfl (fun w => (Step.move rfl)) ?_
    refine tP (vB ((skipS s a.k).2)) rfl (fun w => (Step.move rfl)) ?_
    refine tP (vB true) rfl (fun w => (Step.cast (congrArg Value.bool (by simp)) (Step.pure (v := .bool ((((skipS s a.k).2) == ((skipS s a.k).2)))) (by kernel_rfl)))) ?_
    refine tP rv rfl (fun w => (Step.assign rfl)) ?_
    refine TW.store (v := (Value.agg #[(vS (((skipS s a.k).1).frm)), (vS (((skipS s a.k).1).to_)), (vB (((skipS s a.k).1).back)), (vS (((skipS s a.k).1).at_)), (vB (((skipS s a.k).1).told))])) (cs := [(vS (((skipS s a.k).1).frm)), (vS (((skipS s a.k).1).to_)), (vB (((skipS s a.k).1).back)), (vS (((skipS s a.k).1).at_)), (vB (((skipS s a.k).1).told))]) (c' := #[(vS (((skipS s a.k).1).frm)), (vS (((skipS s a.k).1).to_)), (vB (((skipS s a.k).1).back)), (vS (((skipS s a.k).1).at_)), (vB (((skipS s a.k).1).told))]) 2 rfl rfl (by decide) rfl Try.el46.sized rfl rfl rfl rfl (Nat.le_of_ble_eq_true rfl) (cel_cons rfl (cel_cons rfl (cel_cons rfl (cel_cons rfl (cel_cons rfl cel_nil))))) rfl rfl (sY (sY (sN (sY (sY (sY sE)))))) (fun r h => h) ?_
    refine tP (vB true) rfl (fun w => (Step.assign rfl)) ?_
    refine TW.done (fun w75 M => ?_)
    refine W.ret ?_
    refine ⟨.inl rfl, (Value.tuple #[rv, (Value.agg #[(vS (((skipS s a.k).1).frm)), (vS (((skipS s a.k).1).to_)), (vB (((skipS s a.k).1).back)), (vS (((skipS s a.k).1).at_)), (vB (((skipS s a.k).1).told))]), (vB true)]), ?_, ?_⟩
    · exact ⟨rfl, (Res.r3 (show RV _ _ _ (.tmp 10) rv from by exact rfl) (RV.cellN Try.ag46 rfl (M.blk 2 rfl) rfl) (show RV _ _ _ (.tmp 12) (vB true) from by exact rfl))⟩
    replace M := M.sel (L' := [tT S tb row c, bk b70 #[(vS (((skipS s a.k).1).frm)), (vS (((skipS s a.k).1).to_)), (vB (((skipS s a.k).1).back)), (vS (((skipS s a.k).1).at_)), (vB (((skipS s a.k).1).told))] 46, bk sb #[(vS (((skipS s a.k).1).frm)), (vS (((skipS s a.k).1).to_)), (vB (((skipS s a.k).1).back)), (vS (((skipS s a.k).1).at_)), (vB (((skipS s a.k).1).told))] 88, bk b7 #[(vS (((skipS s a.k).1).frm)), (vS (((skipS s a.k).1).to_)), (vB (((skipS s a.k).1).back)), (vS (((skipS s a.k).1).at_)), (vB (((skipS s a.k).1).told))] 46, bk b5 #[(vI a.do_), (vS a.k), (vI a.v)] 31, bk b3 #[(vS s.frm), (vS s.to_), (vB s.back), (vS s.at_), (vB s.told)] 46]) [5, 0, 1, 2, 3, 4] rfl (by decide)
    replace M := M.tabUp
    have e76 : doesSR row a = row := by
     rw [(sd_skip (s := s) (row := row) h10p h29p h67p).1]
    replace M := M.rechunk 0 (c' := tT S tb (doesSR row a) (c + 1)) rfl (by rw [e76])
    have e77 : (bk sb #[(vS ((doesSS s row a).frm)), (vS ((doesSS s row a).to_)), (vB ((doesSS s row a).back)), (vS ((doesSS s row a).at_)), (vB ((doesSS s row a).told))] 88 : Chunk) = (bk sb #[(vS (((skipS s a.k).1).frm)), (vS (((skipS s a.k).1).to_)), (vB (((skipS s a.k).1).back)), (vS (((skipS s a.k).1).at_)), (vB (((skipS s a.k).1).told))] 88 : Chunk) := by
     rw [(sd_skip (s := s) (row := row) h10p h29p h67p).2]
    replace M := M.rechunk 2 (c' := bk sb #[(vS ((doesSS s row a).frm)), (vS ((doesSS s row a).to_)), (vB ((doesSS s row a).back)), (vS ((doesSS s row a).at_)), (vB ((doesSS s row a).told))] 88) rfl e77.symm
    have e78 : doesSR row a = row := by
     rw [(sd_skip (s := s) (row := row) h10p h29p h67p).1]
    have hf79 := Sh.reList e78 (M.shr' 0 rfl)
    refine ⟨rv, S, ?_, M.close [0, 2] rfl (by decide) ⟨hf79, trivial⟩⟩
    rw [(sd_skip (s := s) (row := row) h10p h29p h67p).2]
   ·
    have h67p : ¬ (pickI a.do_ 7 : Int) = (2 : Int) := by simpa using h67
    refine wR (wP (vB ((pickI a.do_ 7 : Int) == (3 : Int))) (wA (vB ((pickI a.do_ 7 : Int) == (3 : Int))) (WL.nil ?_)))
    refine W.cond (t := (pickI a.do_ 7 : Int) == (3 : Int)) rfl (fun h80 => ?_) (fun h80 => ?_)
    ·
     have h80p : (pickI a.do_ 7 : Int) = (3 : Int) := by simpa using h80
     refine wR (wM (vP sb) ?_)
     refine WL.callX rfl (sc_copy sb s (M.enterW0 ⟨(M.wideC0 4 rfl), trivial⟩)) (CallsF.func Try.en27 rfl) ?_
     rintro _ w82 ⟨sb81, rfl, m⟩
     replace M := M.leaveW0 m
     clear m
     refine wA (vP sb81) (WL.nil (wR (wM (vP sb) (wM (vP tb) ?_))))
     have fq := M.frm [tT S tb row c] [bk sb81 #[(vS s.frm), (vS s.to_), (vB s.back), (vS s.at_), (vB s.told)] 88, bk b7 #[(vS sZ), (vS sZ), (vB false), (vS sZ), (vB false)] 46, bk b5 #[(vI a.do_), (vS a.k), (vI a.v)] 31, bk b3 #[(vS s.frm), (vS s.to_), (vB s.back), (vS s.at_), (vB s.told)] 46, bk sb #[(vS s.frm), (vS s.to_), (vB s.back), (vS s.at_), (vB s.told)] 88] [4, 0, 1, 2, 3, 5] rfl
     refine WL.callX rfl (sc_peek sb s tb S row c (by first | assumption | omega) (M.eF fq ⟨(M.cF fq 4 rfl), trivial⟩)) (CallsF.func Try.en25 rfl) ?_
     rintro _ w83 ⟨rfl, m⟩
     replace M := M.lF fq m
     clear m
     refine wM (Value.tuple #[(Value.agg #[(vS (((peekR s row).1).key)), (vI (((peekR s row).1).val))]), (vB ((peekR s row).2))]) (wP (Value.agg #[(vS (((peekR s row).1).key)), (vI (((peekR s row).1).val))]) (wP (vB ((peekR s row).2)) ?_))
     refine WL.alloc (c := #[(vS sZ), (vI 0)]) M rfl Try.el41.zero rfl (fun b84 w85 hb84 M => ?_)
     refine WL.store (v := (Value.agg #[(vS (((peekR s row).1).key)), (vI (((peekR s row).1).val))])) (cs := [(vS (((peekR s row).1).key)), (vI (((peekR s row).1).val))]) (c' := #[(vS (((peekR s row).1).key)), (vI (((peekR s row).1).val))]) M 0 rfl rfl Try.el41.sized rfl rfl rfl rfl (Nat.le_of_ble_eq_true rfl) (cel_cons rfl (cel_cons rfl cel_nil)) rfl rfl (fun w86 M => ?_)
     refine wA (vB ((peekR s row).2)) (WL.nil (wR (wM (vP sb81) (wM (vP tb) ?_))))
     have fq := M.frm [bk sb81 #[(vS s.frm), (vS s.to_), (vB s.back), (vS s.at_), (vB s.told)] 88, tT S tb row c] [bk b84 #[(vS (((peekR s row).1).key)), (vI (((peekR s row).1).val))] 41, bk b7 #[(vS sZ), (vS sZ), (vB false), (vS sZ), (vB false)] 46, bk b5 #[(vI a.do_), (vS a.k), (vI a.v)] 31, bk b3 #[(vS s.frm), (vS s.to_), (vB s.back), (vS s.at_), (vB s.told)] 46, bk sb #[(vS s.frm), (vS s.to_), (vB s.back), (vS s.at_), (vB s.told)] 88] [2, 1, 0, 3, 4, 5, 6] rfl
     refine WL.callX rfl (sc_next sb81 s tb S row c (by first | assumption | omega) (M.eF fq trivial)) (CallsF.func Try.en24 rfl) ?_
     rintro _ w87 ⟨rfl, m⟩
     replace M := M.lF fq m
     clear m
     refine wM (Value.tuple #[(Value.agg #[(vS (((peekR s row).1).key)), (vI (((peekR s row).1).val))]), (vB ((peekR s row).2))]) (wP (Value.agg #[(vS (((peekR s row).1).key)), (vI (((peekR s row).1).val))]) (wP (vB ((peekR s row).2)) ?_))
     refine WL.alloc (c := #[(vS sZ), (vI 0)]) M rfl Try.el41.zero rfl (fun b88 w89 hb88 M => ?_)
     refine WL.store (v := (Value.agg #[(vS (((peekR s row).1).key)), (vI (((peekR s row).1).val))])) (cs := [(vS (((peekR s row).1).key)), (vI (((peekR s row).1).val))]) (c' := #[(vS (((peekR s row).1).key)), (vI (((peekR s row).1).val))]) M 0 rfl rfl Try.el41.sized rfl rfl rfl rfl (Nat.le_of_ble_eq_true rfl) (cel_cons rfl (cel_cons rfl cel_nil)) rfl rfl (fun w90 M => ?_)
     refine wA (vB ((peekR s row).2)) (WL.nil (W.seq' ?_))
     replace M := M.loseI 1
     refine W.region rfl (wS (Value.agg #[(vS s.frm), (vS s.to_), (vB s.back), (vS s.at_), (vB s.told)]) rfl (Step.loadN Try.ag46 rfl (M.blk 5 rfl) (Nat.le_of_ble_eq_true rfl) rfl) (wM rv ?_))
     refine WL.callX rfl (r_peek s rv row (M.enterW0 ⟨(M.wideR0 0 rfl), trivial⟩)) (CallsF.func Try.en55 rfl) ?_
     rintro _ w91 ⟨rfl, m⟩
     replace M := M.leaveW0 m
     clear m
     refine wM (Value.tuple #[(Value.agg #[(vS (((peekR s row).1).key)), (vI (((peekR s row).1).val))]), (vB ((peekR s row).2))]) (wP (Value.agg #[(vS (((peekR s row).1).key)), (vI (((peekR s row).1).val))]) (wP (vB ((peekR s row).2)) ?_))
     refine WL.alloc (c := #[(vS sZ), (vI 0)]) M rfl Try.el108.zero rfl (fun b92 w93 hb92 M => ?_)
     refine WL.store (v := (Value.agg #[(vS (((peekR s row).1).key)), (vI (((peekR s row).1).val))])) (cs := [(vS (((peekR s row).1).key)), (vI (((peekR s row).1).val))]) (c' := #[(vS (((peekR s row).1).key)), (vI (((peekR s row).1).val))]) M 0 rfl rfl Try.el108.sized rfl rfl rfl rfl (Nat.le_of_ble_eq_true rfl) (cel_cons rfl (cel_cons rfl cel_nil)) rfl rfl (fun w94 M => ?_)
     refine wA (vB ((peekR s row).2)) (WL.nil (W.seq' ?_))
     refine W.drawn M [0, 1, 2, 3, 4, 5, 6, 7, 8, 9, 10, 11, 12, 13, 14, 15, 16, 17, 18, 19, 20, 21, 22] [4, 21] [] _ _ (sY (sY (sY (sY (sN (sY (sY (sY sE)))))))) (fun _ h => h) Try.mixed (by kernel_rfl) ?_
     refine tP rv rfl (fun w => (Step.move rfl)) ?_
     refine tR (Value.agg #[(vS s.frm), (vS s.to_), (vB s.back), (vS s.at_), (vB s.told)]) rfl (fun A w M => (Step.loadN Try.ag46 rfl (M.blk 6 rfl) (Nat.le_of_ble_eq_true rfl) rfl)) ?_
     refine tR (Value.agg #[(vS (((peekR s row).1).key)), (vI (((peekR s row).1).val))]) rfl (fun A w M => (Step.loadN Try.ag41 rfl (M.blk 4 rfl) (Nat.le_of_ble_eq_true rfl) rfl)) ?_
     refine tR (Value.agg #[(vS (((peekR s row).1).key)), (vI (((peekR s row).1).val))]) rfl (fun A w M => (Step.loadN Try.ag108 rfl (M.blk 1 rfl) (Nat.le_of_ble_eq_true rfl) rfl)) ?_
     let Q : List Chunk := [bk b92 #[(vS (((peekR s row).1).key)), (vI (((peekR s row).1).val))] 108, bk b88 #[(vS (((peekR s row).1).key)), (vI (((peekR s row).1).val))] 41, tT S tb row c, bk b84 #[(vS (((peekR s row).1).key)), (vI (((peekR s row).1).val))] 41, bk b7 #[(vS sZ), (vS sZ), (vB false), (vS sZ), (vB false)] 46, bk b5 #[(vI a.do_), (vS a.k), (vI a.v)] 31, bk b3 #[(vS s.frm), (vS s.to_), (vB s.back), (vS s.at_), (vB s.told)] 46, bk sb #[(vS s.frm), (vS s.to_), (vB s.back), (vS s.at_), (vB s.told)] 88]
     refine TW.callX (ι := Unit) (fun jx v_ => v_ = (vB true)) (fun jx => Q) (fun jx => [fR rv row]) rfl (by decide) rfl (fun jx => (sY (sY (sY (sY (sN (sY (sY (sY sE))))))))) (fun jx r h => h) (fun A w M => Rets.mono (l13_hit1 ((peekR s row).1) (M.enterW0 trivial)) (fun v_ w_ ⟨e_, m⟩ => ⟨(), e_, (M.leaveW0 m).sel [0, 1, 2, 3, 4, 5, 6, 7, 8] rfl (by decide), fun b hb => M.k0F m b hb⟩)) (fun w => CallsF.func Try.en52 rfl) (fun jx v hp hin => ?_)
     replace hp := hp.symm; subst hp
     clear hin
     refine tP (vB true) rfl (fun w => (Step.move rfl)) ?_
     refine tP (vB ((peekR s row).2)) rfl (fun w => (Step.move rfl)) ?_
     refine tP (vB ((peekR s row).2)) rfl (fun w => (Step.move rfl)) ?_
     refine tP (vB true) rfl (fun w => (Step.cast (congrArg Value.bool (by simp)) (Step.pure (v := .bool ((((peekR s row).2) == ((peekR s row).2)))) (by kernel_rfl)))) ?_
     refine tP (vB true) rfl (fun w => (Step.pick (t := true) rfl rfl)) ?_
     refine tP (vB true) rfl (fun w => (Step.move rfl)) ?_
     refine tR (Value.agg #[(vS (((peekR s row).1).key)), (vI (((peekR s row).1).val))]) rfl (fun A w M => (Step.loadN Try.ag41 rfl (M.blk 4 rfl) (Nat.le_of_ble_eq_true rfl) rfl)) ?_
     refine tR (Value.agg #[(vS (((peekR s row).1).key)), (vI (((peekR s row).1).val))]) rfl (fun A w M => (Step.loadN Try.ag41 rfl (M.blk 2 rfl) (Nat.le_of_ble_eq_true rfl) rfl)) ?_
     refine tP (vB true) rfl (fun w => (Step.cast (congrArg Value.bool (show (((((peekR s row).1).key).toList == (((peekR s row).1).key).toList) && (((((peekR s row).1).val : Int) == (((peekR s row).1).val : Int)) && true)) = true by rw [hit_eqB ((peekR s row).1) ((peekR s row).1)]; simp)) (Step.eqAgg Try.eg41 rfl rfl rfl (Try.eq41 9998 (((peekR s row).1).key) (((peekR s row).1).val : Int) (((peekR s row).1).key) (((peekR s row).1).val : Int))))) ?_
     refine tP (vB true) rfl (fun w => (Step.pick (t := true) rfl rfl)) ?_
     refine tP (vB true) rfl (fun w => (Step.move rfl)) ?_
     refine tP (vB ((peekR s row).2)) rfl (fun w => (Step.move rfl)) ?_
     refine tP (vB ((peekR s row).2)) rfl (fun w => (Step.move rfl)) ?_
     refine tP (vB true) rfl (fun w => (Step.cast (congrArg Value.bool (by simp)) (Step.pure (v := .bool ((((peekR s row).2) == ((peekR s row).2)))) (by kernel_rfl)))) ?_
     refine tP (vB true) rfl (fun w => (Step.pick (t := true) rfl rfl)) ?_
     refine tP rv rfl (fun w => (Step.assign rfl)) ?_
     refine TW.store (v := (Value.agg #[(vS s.frm), (vS s.to_), (vB s.back), (vS s.at_), (vB s.told)])) (cs := [(vS s.frm), (vS s.to_), (vB s.back), (vS s.at_), (vB s.told)]) (c' := #[(vS s.frm), (vS s.to_), (vB s.back), (vS s.at_), (vB s.told)]) 4 rfl rfl (by decide) rfl Try.el46.sized rfl rfl rfl rfl (Nat.le_of_ble_eq_true rfl) (cel_cons rfl (cel_cons rfl (cel_cons rfl (cel_cons rfl (cel_cons rfl cel_nil))))) rfl rfl (sY (sY (sY (sY (sN (sY (sY (sY sE)))))))) (fun r h => h) ?_
     refine tP (vB true) rfl (fun w => (Step.assign rfl)) ?_
     refine TW.done (fun w97 M => ?_)
     refine W.ret ?_
     refine ⟨.inl rfl, (Value.tuple #[rv, (Value.agg #[(vS s.frm), (vS s.to_), (vB s.back), (vS s.at_), (vB s.told)]), (vB true)]), ?_, ?_⟩
     · exact ⟨rfl, (Res.r3 (show RV _ _ _ (.tmp 10) rv from by exact rfl) (RV.cellN Try.ag46 rfl (M.blk 4 rfl) rfl) (show RV _ _ _ (.tmp 12) (vB true) from by exact rfl))⟩
     replace M := M.sel (L' := [tT S tb row c, bk b92 #[(vS (((peekR s row).1).key)), (vI (((peekR s row).1).val))] 108, bk b88 #[(vS (((peekR s row).1).key)), (vI (((peekR s row).1).val))] 41, bk b84 #[(vS (((peekR s row).1).key)), (vI (((peekR s row).1).val))] 41, bk b7 #[(vS s.frm), (vS s.to_), (vB s.back), (vS s.at_), (vB s.told)] 46, bk b5 #[(vI a.do_), (vS a.k), (vI a.v)] 31, bk b3 #[(vS s.frm), (vS s.to_), (vB s.back), (vS s.at_), (vB s.told)] 46, bk sb #[(vS s.frm), (vS s.to_), (vB s.back), (vS s.at_), (vB s.told)] 88]) [2, 0, 1, 3, 4, 5, 6, 7] rfl (by decide)
     replace M := M.tabUp
     have e98 : doesSR row a = row := by
      rw [(sd_peek (s := s) (row := row) h10p h29p h67p h80p).1]
     replace M := M.rechunk 0 (c' := tT S tb (doesSR row a) (c + 1)) rfl (by rw [e98])
     have e99 : (bk sb #[(vS ((doesSS s row a).frm)), (vS ((doesSS s row a).to_)), (vB ((doesSS s row a).back)), (vS ((doesSS s row a).at_)), (vB ((doesSS s row a).told))] 88 : Chunk) = (bk sb #[(vS s.frm), (vS s.to_), (vB s.back), (vS s.at_), (vB s.told)] 88 : Chunk) := by
      rw [(sd_peek (s := s) (row := row) h10p h29p h67p h80p).2]
     replace M := M.rechunk 7 (c' := bk sb #[(vS ((doesSS s row a).frm)), (vS ((doesSS s row a).to_)), (vB ((doesSS s row a).back)), (vS ((doesSS s row a).at_)), (vB ((doesSS s row a).told))] 88) rfl e99.symm
     have e100 : doesSR row a = row := by
      rw [(sd_peek (s := s) (row := row) h10p h29p h67p h80p).1]
     have hf101 := Sh.reList e100 (M.shr' 0 rfl)
     refine ⟨rv, S, ?_, M.close [0, 7] rfl (by decide) ⟨hf101, trivial⟩⟩
     rw [(sd_peek (s := s) (row := row) h10p h29p h67p h80p).2]
    ·
     have h80p : ¬ (pickI a.do_ 7 : Int) = (3 : Int) := by simpa using h80
     refine wR (wP (vB ((pickI a.do_ 7 : Int) == (6 : Int))) (wA (vB ((pickI a.do_ 7 : Int) == (6 : Int))) (WL.nil ?_)))
     refine W.cond (t := (pickI a.do_ 7 : Int) == (6 : Int)) rfl (fun h102 => ?_) (fun h102 => ?_)
     ·
      have h102p : (pickI a.do_ 7 : Int) = (6 : Int) := by simpa using h102
      refine wR (wM (vP tb) (wP (Value.pointer (some ⟨b5, 1, none⟩)) (wS (vS a.k) rfl (Step.load1 Try.sc9 rfl ((M.cell 1 rfl 1).trans rfl)) ?_)))
      have fq := M.frm [tT S tb row c] [bk b7 #[(vS sZ), (vS sZ), (vB false), (vS sZ), (vB false)] 46, bk b5 #[(vI a.do_), (vS a.k), (vI a.v)] 31, bk b3 #[(vS s.frm), (vS s.to_), (vB s.back), (vS s.at_), (vB s.told)] 46, bk sb #[(vS s.frm), (vS s.to_), (vB s.back), (vS s.at_), (vB s.told)] 88] [3, 0, 1, 2, 4] rfl
      refine WL.callX rfl (T_delete tb S row c a.k (by first | assumption | omega) (M.eF fq trivial)) (CallsF.func Try.en19 rfl) ?_
      rintro _ w104 ⟨S103, rfl, m⟩
      replace M := M.lF fq m
      clear m
      refine WL.nil (W.seq' ?_)
      refine W.drawn M [0, 1, 2, 3, 4, 5, 6, 7] [3, 6] [] _ _ (sY (sN (sY (sY (sY sE))))) (fun _ h => h) Try.mixed (by kernel_rfl) ?_
      refine tP rv rfl (fun w => (Step.move rfl)) ?_
      refine tP (Value.pointer (some ⟨b5, 1, none⟩)) rfl (fun w => sP) ?_
      refine tR (vS a.k) rfl (fun A w M => (Step.load1 Try.sc9 rfl ((M.cell 2 rfl 1).trans rfl))) ?_
      let Q : List Chunk := [tT S103 tb (delL row a.k) c, bk b7 #[(vS sZ), (vS sZ), (vB false), (vS sZ), (vB false)] 46, bk b5 #[(vI a.do_), (vS a.k), (vI a.v)] 31, bk b3 #[(vS s.frm), (vS s.to_), (vB s.back), (vS s.at_), (vB s.told)] 46, bk sb #[(vS s.frm), (vS s.to_), (vB s.back), (vS s.at_), (vB s.told)] 88]
      refine TW.callX (ι := Value) (fun jx v_ => v_ = jx) (fun jx => Q) (fun jx => [fR jx (delL row a.k), fR rv row]) rfl (by decide) rfl (fun jx => (sY (sN (sY (sY (sY sE)))))) (fun jx r h => (List.mem_cons_of_mem _ h)) (fun A w M => Rets.mono (r_delete rv row a.k (by omega) (M.enter0 ⟨(M.shr' 0 rfl), trivial⟩)) (fun v_ w_ ⟨v109, e_, m⟩ => ⟨v109, e_, (M.leave0 m).sel [0, 1, 2, 3, 4, 5] rfl (by decide), fun b hb => M.kept0 m (fl A) (List.mem_cons_self ..) b hb⟩)) (fun w => CallsF.func Try.en41 rfl) (fun v109 v hp hin => ?_)
      replace hp := hp.symm; subst hp
      obtain ⟨_, _, hin⟩ := hin
      have sl110 : IsSl v109 := SlAt.isSl (Mem.rep hin 0 rfl)
      clear hin
      refine tR (Value.agg #[(vS s.frm), (vS s.to_), (vB s.back), (vS s.at_), (vB s.told)]) rfl (fun A w M => (Step.loadN Try.ag46 rfl (M.blk 3 rfl) (Nat.le_of_ble_eq_true rfl) rfl)) ?_
      refine tP v109 rfl (fun w => (Step.assign rfl)) ?_
      refine TW.store (v := (Value.agg #[(vS s.frm), (vS s.to_), (vB s.back), (vS s.at_), (vB s.told)])) (cs := [(vS s.frm), (vS s.to_), (vB s.back), (vS s.at_), (vB s.told)]) (c' := #[(vS s.frm), (vS s.to_), (vB s.back), (vS s.at_), (vB s.told)]) 1 rfl rfl (by decide) rfl Try.el46.sized rfl rfl rfl rfl (Nat.le_of_ble_eq_true rfl) (cel_cons rfl (cel_cons rfl (cel_cons rfl (cel_cons rfl (cel_cons rfl cel_nil))))) rfl rfl (sY (sN (sY (sY (sY sE))))) (fun r h => (List.mem_cons_of_mem _ h)) ?_
      refine tP (vB true) rfl (fun w => (Step.assign rfl)) ?_
      refine TW.done (fun w111 M => ?_)
      refine W.ret ?_
      refine ⟨.inl rfl, (Value.tuple #[v109, (Value.agg #[(vS s.frm), (vS s.to_), (vB s.back), (vS s.at_), (vB s.told)]), (vB true)]), ?_, ?_⟩
      · exact ⟨rfl, (Res.r3 (show RV _ _ _ (.tmp 10) v109 from by exact rfl) (RV.cellN Try.ag46 rfl (M.blk 1 rfl) rfl) (show RV _ _ _ (.tmp 12) (vB true) from by exact rfl))⟩
      replace M := M.tabUp
      have e112 : doesSR row a = delL row a.k := by
       rw [(sd_del (s := s) (row := row) h10p h29p h67p h80p h102p).1]
      replace M := M.rechunk 0 (c' := tT S103 tb (doesSR row a) (c + 1)) rfl (by rw [e112])
      have e113 : (bk sb #[(vS ((doesSS s row a).frm)), (vS ((doesSS s row a).to_)), (vB ((doesSS s row a).back)), (vS ((doesSS s row a).at_)), (vB ((doesSS s row a).told))] 88 : Chunk) = (bk sb #[(vS s.frm), (vS s.to_), (vB s.back), (vS s.at_), (vB s.told)] 88 : Chunk) := by
       rw [(sd_del (s := s) (row := row) h10p h29p h67p h80p h102p).2]
      replace M := M.rechunk 4 (c' := bk sb #[(vS ((doesSS s row a).frm)), (vS ((doesSS s row a).to_)), (vB ((doesSS s row a).back)), (vS ((doesSS s row a).at_)), (vB ((doesSS s row a).told))] 88) rfl e113.symm
      have e114 : doesSR row a = delL row a.k := by
       rw [(sd_del (s := s) (row := row) h10p h29p h67p h80p h102p).1]
      have hf115 := Sh.reList e114 (M.shr' 0 rfl)
      refine ⟨v109, S103, ?_, M.close [0, 4] rfl (by decide) ⟨hf115, trivial⟩⟩
      rw [(sd_del (s := s) (row := row) h10p h29p h67p h80p h102p).2]
     ·
      have h102p : ¬ (pickI a.do_ 7 : Int) = (6 : Int) := by simpa using h102
      refine W.skip (wR (wM (vP tb) (wP (Value.pointer (some ⟨b5, 1, none⟩)) (wS (vS a.k) rfl (Step.load1 Try.sc9 rfl ((M.cell 1 rfl 1).trans rfl)) (wP (Value.pointer (some ⟨b5, 2, none⟩)) ?_)))))
      refine wS (vI a.v) rfl (Step.load1 Try.sc3 rfl ((M.cell 1 rfl 2).trans rfl)) ?_
      have fq := M.frm [tT S tb row c] [bk b7 #[(vS sZ), (vS sZ), (vB false), (vS sZ), (vB false)] 46, bk b5 #[(vI a.do_), (vS a.k), (vI a.v)] 31, bk b3 #[(vS s.frm), (vS s.to_), (vB s.back), (vS s.at_), (vB s.told)] 46, bk sb #[(vS s.frm), (vS s.to_), (vB s.back), (vS s.at_), (vB s.told)] 88] [3, 0, 1, 2, 4] rfl
      refine WL.callX rfl (T_put tb S row c a.k a.v (by first | assumption | omega) (M.eF fq trivial)) (CallsF.func Try.en18 rfl) ?_
      rintro _ w117 ⟨S116, rfl, m⟩
      replace M := M.lF fq m
      clear m
      refine WL.nil (W.seq' ?_)
      refine W.drawn M [0, 1, 2, 3, 4, 5, 6, 7, 8, 9] [5, 8] [] _ _ (sY (sN (sY (sY (sY sE))))) (fun _ h => h) Try.mixed (by kernel_rfl) ?_
      refine tP rv rfl (fun w => (Step.move rfl)) ?_
      refine tP (Value.pointer (some ⟨b5, 1, none⟩)) rfl (fun w => sP) ?_
      refine tR (vS a.k) rfl (fun A w M => (Step.load1 Try.sc9 rfl ((M.cell 2 rfl 1).trans rfl))) ?_
      refine tP (Value.pointer (some ⟨b5, 2, none⟩)) rfl (fun w => sP) ?_
      refine tR (vI a.v) rfl (fun A w M => (Step.load1 Try.sc3 rfl ((M.cell 2 rfl 2).trans rfl))) ?_
      let Q : List Chunk := [tT S116 tb (putR row (⟨a.k, a.v⟩ : THit)) (c + 1), bk b7 #[(vS sZ), (vS sZ), (vB false), (vS sZ), (vB false)] 46, bk b5 #[(vI a.do_), (vS a.k), (vI a.v)] 31, bk b3 #[(vS s.frm), (vS s.to_), (vB s.back), (vS s.at_), (vB s.told)] 46, bk sb #[(vS s.frm), (vS s.to_), (vB s.back), (vS s.at_), (vB s.told)] 88]
      refine TW.callX (ι := Value) (fun jx v_ => v_ = jx) (fun jx => Q) (fun jx => [fR jx (putR row (⟨a.k, a.v⟩ : THit)), fR rv row]) rfl (by decide) rfl (fun jx => (sY (sN (sY (sY (sY sE)))))) (fun jx r h => (List.mem_cons_of_mem _ h)) (fun A w M => Rets.mono (r_put rv row a.k a.v (by omega) (M.enter0 ⟨(M.shr' 0 rfl), trivial⟩)) (fun v_ w_ ⟨v122, e_, m⟩ => ⟨v122, e_, (M.leave0 m).sel [0, 1, 2, 3, 4, 5] rfl (by decide), fun b hb => M.kept0 m (fl A) (List.mem_cons_self ..) b hb⟩)) (fun w => CallsF.func Try.en39 rfl) (fun v122 v hp hin => ?_)
      replace hp := hp.symm; subst hp
      obtain ⟨_, _, hin⟩ := hin
      have sl123 : IsSl v122 := SlAt.isSl (Mem.rep hin 0 rfl)
      clear hin
      refine tR (Value.agg #[(vS s.frm), (vS s.to_), (vB s.back), (vS s.at_), (vB s.told)]) rfl (fun A w M => (Step.loadN Try.ag46 rfl (M.blk 3 rfl) (Nat.le_of_ble_eq_true rfl) rfl)) ?_
      refine tP v122 rfl (fun w => (Step.assign rfl)) ?_
      refine TW.store (v := (Value.agg #[(vS s.frm), (vS s.to_), (vB s.back), (vS s.at_), (vB s.told)])) (cs := [(vS s.frm), (vS s.to_), (vB s.back), (vS s.at_), (vB s.told)]) (c' := #[(vS s.frm), (vS s.to_), (vB s.back), (vS s.at_), (vB s.told)]) 1 rfl rfl (by decide) rfl Try.el46.sized rfl rfl rfl rfl (Nat.le_of_ble_eq_true rfl) (cel_cons rfl (cel_cons rfl (cel_cons rfl (cel_cons rfl (cel_cons rfl cel_nil))))) rfl rfl (sY (sN (sY (sY (sY sE))))) (fun r h => (List.mem_cons_of_mem _ h)) ?_
      refine tP (vB true) rfl (fun w => (Step.assign rfl)) ?_
      refine TW.done (fun w124 M => ?_)
      refine W.ret ?_
      refine ⟨.inl rfl, (Value.tuple #[v122, (Value.agg #[(vS s.frm), (vS s.to_), (vB s.back), (vS s.at_), (vB s.told)]), (vB true)]), ?_, ?_⟩
      · exact ⟨rfl, (Res.r3 (show RV _ _ _ (.tmp 10) v122 from by exact rfl) (RV.cellN Try.ag46 rfl (M.blk 1 rfl) rfl) (show RV _ _ _ (.tmp 12) (vB true) from by exact rfl))⟩
      have e125 : doesSR row a = putR row (⟨a.k, a.v⟩ : THit) := by
       rw [(sd_put (s := s) (row := row) h10p h29p h67p h80p h102p).1]
      replace M := M.rechunk 0 (c' := tT S116 tb (doesSR row a) (c + 1)) rfl (by rw [e125])
      have e126 : (bk sb #[(vS ((doesSS s row a).frm)), (vS ((doesSS s row a).to_)), (vB ((doesSS s row a).back)), (vS ((doesSS s row a).at_)), (vB ((doesSS s row a).told))] 88 : Chunk) = (bk sb #[(vS s.frm), (vS s.to_), (vB s.back), (vS s.at_), (vB s.told)] 88 : Chunk) := by
       rw [(sd_put (s := s) (row := row) h10p h29p h67p h80p h102p).2]
      replace M := M.rechunk 4 (c' := bk sb #[(vS ((doesSS s row a).frm)), (vS ((doesSS s row a).to_)), (vB ((doesSS s row a).back)), (vS ((doesSS s row a).at_)), (vB ((doesSS s row a).told))] 88) rfl e126.symm
      have e127 : doesSR row a = putR row (⟨a.k, a.v⟩ : THit) := by
       rw [(sd_put (s := s) (row := row) h10p h29p h67p h80p h102p).1]
      have hf128 := Sh.reList e127 (M.shr' 0 rfl)
      refine ⟨v122, S116, ?_, M.close [0, 4] rfl (by decide) ⟨hf128, trivial⟩⟩
      rw [(sd_put (s := s) (row := row) h10p h29p h67p h80p h102p).2]
end Go.Proofs
set_option maxRecDepth 100000
namespace Go.Proofs
open Go Tp
theorem Try.en13 : Enters Try.prog 13 := fun _ _ => by kernel_rfl
theorem l13_works {G : Nat → Prop} {w : World}    (M : Mem G (fun _ => False) w [] [] w) : Rets Try.prog 12 #[] w fun r w' => r = (vB true) ∧ Mem G (fun _ => False) w [] [] w' := by
 refine Rets.enter 135 _ Try.func12 rfl Try.ntmps12 Try.results12 (by simp) ?_
 refine wR (wA (vB false) (WL.nil (wR ?_)))
 refine WL.new (obj := .cells #[(vS (⟨#[97]⟩ : ByteArray)), (vS (⟨#[98]⟩ : ByteArray)), (vS (⟨#[99]⟩ : ByteArray)), (vS (⟨#[100]⟩ : ByteArray))] 9) (fun b => .slice (some ⟨b, 0, none⟩) 4 4) M rfl (fun w => Step.make (by kernel_rfl)) (fun b1 w2 hb1 M => ?_)
 replace M := M.shareBlk 0 (n := 4) (size := 1) rfl rfl (by decide)
 refine WL.callX rfl (l13_planted (Value.slice (some ⟨b1, 0, none⟩) 4 4) ([(⟨#[97]⟩ : ByteArray), (⟨#[98]⟩ : ByteArray), (⟨#[99]⟩ : ByteArray), (⟨#[100]⟩ : ByteArray)] : List ByteArray) (by first | omega | decide) (M.enter0 ⟨(M.shr' 0 rfl), trivial⟩)) (CallsF.func Try.en13 rfl) ?_
 rintro _ w6 ⟨tb3, S4, rv5, rfl, m⟩
 replace M := M.leave0 m
 clear m
 have sl7 : IsSl rv5 := SlAt.isSl (Mem.rep M 0 rfl)
 have hle8 := SlAt.le' (M.rep 0 rfl)
 replace M := M.rechunk 0 (c' := tT S4 tb3 row4 4) rfl (by rw [show rowE ([(⟨#[97]⟩ : ByteArray), (⟨#[98]⟩ : ByteArray), (⟨#[99]⟩ : ByteArray), (⟨#[100]⟩ : ByteArray)] : List ByteArray) ([(⟨#[97]⟩ : ByteArray), (⟨#[98]⟩ : ByteArray), (⟨#[99]⟩ : ByteArray), (⟨#[100]⟩ : ByteArray)] : List ByteArray).length = row4 from rowE_4]; rfl)
 refine wM (Value.tuple #[(vP tb3), rv5]) (wP (vP tb3) (wP rv5 (wA (vP tb3) (wA rv5 (WL.nil ?_)))))
 refine wR ?_
 refine WL.callX rfl (sc_new (⟨#[98]⟩ : ByteArray) (⟨#[100]⟩ : ByteArray) false (M.enterW0 trivial)) (CallsF.func Try.en14 rfl) ?_
 rintro _ w10 ⟨sb9, rfl, m⟩
 replace M := M.leaveW0 m
 clear m
 refine wM (vP tb3) ?_
 have fq := M.frm [bk sb9 #[(vS ((⟨(⟨#[98]⟩ : ByteArray), (⟨#[100]⟩ : ByteArray), false, sZ, false⟩ : Scn).frm)), (vS ((⟨(⟨#[98]⟩ : ByteArray), (⟨#[100]⟩ : ByteArray), false, sZ, false⟩ : Scn).to_)), (vB ((⟨(⟨#[98]⟩ : ByteArray), (⟨#[100]⟩ : ByteArray), false, sZ, false⟩ : Scn).back)), (vS ((⟨(⟨#[98]⟩ : ByteArray), (⟨#[100]⟩ : ByteArray), false, sZ, false⟩ : Scn).at_)), (vB ((⟨(⟨#[98]⟩ : ByteArray), (⟨#[100]⟩ : ByteArray), false, sZ, false⟩ : Scn).told))] 88, tT S4 tb3 row4 4] [] [0, 1] rfl
 refine WL.callX rfl (sc_page sb9 (⟨(⟨#[98]⟩ : ByteArray), (⟨#[100]⟩ : ByteArray), false, sZ, false⟩ : Scn) tb3 S4 row4 4 5 (by first | assumption | omega) (M.eF fq trivial)) (CallsF.func Try.en15 rfl) ?_
 rintro _ w12 ⟨v11, rfl, m⟩
 replace M := M.lF fq m
 clear m
 have sl13 : IsSl v11 := SlAt.isSl (own_slAt (Mem.chunk M 2 rfl).inv)
 have hle14 := SlAt.le' (own_slAt (Mem.chunk M 2 rfl).inv)
 have hln15 : (pageL (⟨(⟨#[98]⟩ : ByteArray), (⟨#[100]⟩ : ByteArray), false, sZ, false⟩ : Scn) row4 5).length = 2 := by decide +kernel
 refine wM (Value.tuple #[v11, (vB (pageD (⟨(⟨#[98]⟩ : ByteArray), (⟨#[100]⟩ : ByteArray), false, sZ, false⟩ : Scn) row4 5))]) (wP v11 (wS (vB true) rfl (Step.cast (congrArg Value.bool (show (pageD (⟨(⟨#[98]⟩ : ByteArray), (⟨#[100]⟩ : ByteArray), false, sZ, false⟩ : Scn) row4 5) = true by decide +kernel)) sP) (wA v11 (wA (vB true) (WL.nil ?_)))))
 refine W.seq' ?_
 replace M := M.loseI 0
 refine W.region rfl ?_
 refine WL.callX rfl (sc_new (⟨#[98]⟩ : ByteArray) sZ true (M.enterW0 trivial)) (CallsF.func Try.en14 rfl) ?_
 rintro _ w17 ⟨sb16, rfl, m⟩
 replace M := M.leaveW0 m
 clear m
 refine wA (vP sb16) (WL.nil (wR (wM (vP sb16) (wM (vP tb3) ?_))))
 have fq := M.frm [bk sb16 #[(vS ((⟨(⟨#[98]⟩ : ByteArray), sZ, true, sZ, false⟩ : Scn).frm)), (vS ((⟨(⟨#[98]⟩ : ByteArray), sZ, true, sZ, false⟩ : Scn).to_)), (vB ((⟨(⟨#[98]⟩ : ByteArray), sZ, true, sZ, false⟩ : Scn).back)), (vS ((⟨(⟨#[98]⟩ : ByteArray), sZ, true, sZ, false⟩ : Scn).at_)), (vB ((⟨(⟨#[98]⟩ : ByteArray), sZ, true, sZ, false⟩ : Scn).told))] 88, tT S4 tb3 row4 4] [oR v11 (pageL (⟨(⟨#[98]⟩ : ByteArray), (⟨#[100]⟩ : ByteArray), false, sZ, false⟩ : Scn) row4 5)] [0, 1, 2] rfl
 refine WL.callX rfl (sc_page sb16 (⟨(⟨#[98]⟩ : ByteArray), sZ, true, sZ, false⟩ : Scn) tb3 S4 row4 4 2 (by first | assumption | omega) (M.eF fq trivial)) (CallsF.func Try.en15 rfl) ?_
 rintro _ w19 ⟨v18, rfl, m⟩
 replace M := M.lF fq m
 clear m
 have sl20 : IsSl v18 := SlAt.isSl (own_slAt (Mem.chunk M 2 rfl).inv)
 have hle21 := SlAt.le' (own_slAt (Mem.chunk M 2 rfl).inv)
 have hln22 : (pageL (⟨(⟨#[98]⟩ : ByteArray), sZ, true, sZ, false⟩ : Scn) row4 2).length = 2 := by decide +kernel
 refine wM (Value.tuple #[v18, (vB (pageD (⟨(⟨#[98]⟩ : ByteArray), sZ, true, sZ, false⟩ : Scn) row4 2))]) (wP v18 (wS (vB false) rfl (Step.cast (congrArg Value.bool (show (pageD (⟨(⟨#[98]⟩ : ByteArray), sZ, true, sZ, false⟩ : Scn) row4 2) = false by decide +kernel)) sP) (wA v18 (wA (vB false) (WL.nil ?_)))))
 refine wR (wM (vP sb16) (wM (vP tb3) ?_))
 have fq := M.frm [bk sb16 #[(vS ((pageS (⟨(⟨#[98]⟩ : ByteArray), sZ, true, sZ, false⟩ : Scn) row4 2).frm)), (vS ((pageS (⟨(⟨#[98]⟩ : ByteArray), sZ, true, sZ, false⟩ : Scn) row4 2).to_)), (vB ((pageS (⟨(⟨#[98]⟩ : ByteArray), sZ, true, sZ, false⟩ : Scn) row4 2).back)), (vS ((pageS (⟨(⟨#[98]⟩ : ByteArray), sZ, true, sZ, false⟩ : Scn) row4 2).at_)), (vB ((pageS (⟨(⟨#[98]⟩ : ByteArray), sZ, true, sZ, false⟩ : Scn) row4 2).told))] 88, tT S4 tb3 row4 4] [oR v18 (pageL (⟨(⟨#[98]⟩ : ByteArray), sZ, true, sZ, false⟩ : Scn) row4 2), oR v11 (pageL (⟨(⟨#[98]⟩ : ByteArray), (⟨#[100]⟩ : ByteArray), false, sZ, false⟩ : Scn) row4 5)] [0, 1, 2, 3] rfl
 refine WL.callX rfl (sc_next sb16 (pageS (⟨(⟨#[98]⟩ : ByteArray), sZ, true, sZ, false⟩ : Scn) row4 2) tb3 S4 row4 4 (by first | assumption | omega) (M.eF fq trivial)) (CallsF.func Try.en24 rfl) ?_
 rintro _ w23 ⟨rfl, m⟩
 replace M := M.lF fq m
 clear m
 refine wM (Value.tuple #[(Value.agg #[(vS (((peekR (pageS (⟨(⟨#[98]⟩ : ByteArray), sZ, true, sZ, false⟩ : Scn) row4 2) row4).1).key)), (vI (((peekR (pageS (⟨(⟨#[98]⟩ : ByteArray), sZ, true, sZ, false⟩ : Scn) row4 2) row4).1).val))]), (vB ((peekR (pageS (⟨(⟨#[98]⟩ : ByteArray), sZ, true, sZ, false⟩ : Scn) row4 2) row4).2))]) (wP (Value.agg #[(vS (((peekR (pageS (⟨(⟨#[98]⟩ : ByteArray), sZ, true, sZ, false⟩ : Scn) row4 2) row4).1).key)), (vI (((peekR (pageS (⟨(⟨#[98]⟩ : ByteArray), sZ, true, sZ, false⟩ : Scn) row4 2) row4).1).val))]) (wS (vB true) rfl (Step.cast (congrArg Value.bool (show ((peekR (pageS (⟨(⟨#[98]⟩ : ByteArray), sZ, true, sZ, false⟩ : Scn) row4 2) row4).2) = true by decide +kernel)) sP) ?_))
 refine WL.alloc (c := #[(vS sZ), (vI 0)]) M rfl Try.el41.zero rfl (fun b24 w25 hb24 M => ?_)
 refine WL.store (v := (Value.agg #[(vS (((peekR (pageS (⟨(⟨#[98]⟩ : ByteArray), sZ, true, sZ, false⟩ : Scn) row4 2) row4).1).key)), (vI (((peekR (pageS (⟨(⟨#[98]⟩ : ByteArray), sZ, true, sZ, false⟩ : Scn) row4 2) row4).1).val))])) (cs := [(vS (((peekR (pageS (⟨(⟨#[98]⟩ : ByteArray), sZ, true, sZ, false⟩ : Scn) row4 2) row4).1).key)), (vI (((peekR (pageS (⟨(⟨#[98]⟩ : ByteArray), sZ, true, sZ, false⟩ : Scn) row4 2) row4).1).val))]) (c' := #[(vS (((peekR (pageS (⟨(⟨#[98]⟩ : ByteArray), sZ, true, sZ, false⟩ : Scn) row4 2) row4).1).key)), (vI (((peekR (pageS (⟨(⟨#[98]⟩ : ByteArray), sZ, true, sZ, false⟩ : Scn) row4 2) row4).1).val))]) M 0 rfl rfl Try.el41.sized rfl rfl rfl rfl (Nat.le_of_ble_eq_true rfl) (cel_cons rfl (cel_cons rfl cel_nil)) rfl rfl (fun w26 M => ?_)
 refine wA (vB true) (WL.nil (wR (wM (vP sb16) (wM (vP tb3) ?_))))
 have fq := M.frm [bk sb16 #[(vS ((nextR (pageS (⟨(⟨#[98]⟩ : ByteArray), sZ, true, sZ, false⟩ : Scn) row4 2) row4).frm)), (vS ((nextR (pageS (⟨(⟨#[98]⟩ : ByteArray), sZ, true, sZ, false⟩ : Scn) row4 2) row4).to_)), (vB ((nextR (pageS (⟨(⟨#[98]⟩ : ByteArray), sZ, true, sZ, false⟩ : Scn) row4 2) row4).back)), (vS ((nextR (pageS (⟨(⟨#[98]⟩ : ByteArray), sZ, true, sZ, false⟩ : Scn) row4 2) row4).at_)), (vB ((nextR (pageS (⟨(⟨#[98]⟩ : ByteArray), sZ, true, sZ, false⟩ : Scn) row4 2) row4).told))] 88, tT S4 tb3 row4 4] [bk b24 #[(vS (((peekR (pageS (⟨(⟨#[98]⟩ : ByteArray), sZ, true, sZ, false⟩ : Scn) row4 2) row4).1).key)), (vI (((peekR (pageS (⟨(⟨#[98]⟩ : ByteArray), sZ, true, sZ, false⟩ : Scn) row4 2) row4).1).val))] 41, oR v18 (pageL (⟨(⟨#[98]⟩ : ByteArray), sZ, true, sZ, false⟩ : Scn) row4 2), oR v11 (pageL (⟨(⟨#[98]⟩ : ByteArray), (⟨#[100]⟩ : ByteArray), false, sZ, false⟩ : Scn) row4 5)] [1, 2, 0, 3, 4] rfl
 refine WL.callX rfl (sc_next sb16 (nextR (pageS (⟨(⟨#[98]⟩ : ByteArray), sZ, true, sZ, false⟩ : Scn) row4 2) row4) tb3 S4 row4 4 (by first | assumption | omega) (M.eF fq trivial)) (CallsF.func Try.en24 rfl) ?_
 rintro _ w27 ⟨rfl, m⟩
 replace M := M.lF fq m
 clear m
 refine wM (Value.tuple #[(Value.agg #[(vS (((peekR (nextR (pageS (⟨(⟨#[98]⟩ : ByteArray), sZ, true, sZ, false⟩ : Scn) row4 2) row4) row4).1).key)), (vI (((peekR (nextR (pageS (⟨(⟨#[98]⟩ : ByteArray), sZ, true, sZ, false⟩ : Scn) row4 2) row4) row4).1).val))]), (vB ((peekR (nextR (pageS (⟨(⟨#[98]⟩ : ByteArray), sZ, true, sZ, false⟩ : Scn) row4 2) row4) row4).2))]) (wP (Value.agg #[(vS (((peekR (nextR (pageS (⟨(⟨#[98]⟩ : ByteArray), sZ, true, sZ, false⟩ : Scn) row4 2) row4) row4).1).key)), (vI (((peekR (nextR (pageS (⟨(⟨#[98]⟩ : ByteArray), sZ, true, sZ, false⟩ : Scn) row4 2) row4) row4).1).val))]) (wS (vB false) rfl (Step.cast (congrArg Value.bool (show ((peekR (nextR (pageS (⟨(⟨#[98]⟩ : ByteArray), sZ, true, sZ, false⟩ : Scn) row4 2) row4) row4).2) = false by decide +kernel)) sP) ?_))
 refine WL.alloc (c := #[(vS sZ), (vI 0)]) M rfl Try.el41.zero rfl (fun b28 w29 hb28 M => ?_)
 refine WL.store (v := (Value.agg #[(vS (((peekR (nextR (pageS (⟨(⟨#[98]⟩ : ByteArray), sZ, true, sZ, false⟩ : Scn) row4 2) row4) row4).1).key)), (vI (((peekR (nextR (pageS (⟨(⟨#[98]⟩ : ByteArray), sZ, true, sZ, false⟩ : Scn) row4 2) row4) row4).1).val))])) (cs := [(vS (((peekR (nextR (pageS (⟨(⟨#[98]⟩ : ByteArray), sZ, true, sZ, false⟩ : Scn) row4 2) row4) row4).1).key)), (vI (((peekR (nextR (pageS (⟨(⟨#[98]⟩ : ByteArray), sZ, true, sZ, false⟩ : Scn) row4 2) row4) row4).1).val))]) (c' := #[(vS (((peekR (nextR (pageS (⟨(⟨#[98]⟩ : ByteArray), sZ, true, sZ, false⟩ : Scn) row4 2) row4) row4).1).key)), (vI (((peekR (nextR (pageS (⟨(⟨#[98]⟩ : ByteArray), sZ, true, sZ, false⟩ : Scn) row4 2) row4) row4).1).val))]) M 0 rfl rfl Try.el41.sized rfl rfl rfl rfl (Nat.le_of_ble_eq_true rfl) (cel_cons rfl (cel_cons rfl cel_nil)) rfl rfl (fun w30 M => ?_)
 refine wA (vB false) (WL.nil (W.seq' ?_))
 replace M := M.loseI 1
 replace M := M.loseI 0
 refine W.region rfl ?_
 refine WL.callX rfl (sc_new (⟨#[97]⟩ : ByteArray) sZ false (M.enterW0 trivial)) (CallsF.func Try.en14 rfl) ?_
 rintro _ w32 ⟨sb31, rfl, m⟩
 replace M := M.leaveW0 m
 clear m
 refine wA (vP sb31) (WL.nil (wR (wM (vP sb31) (wM (vP tb3) ?_))))
 have fq := M.frm [bk sb31 #[(vS ((⟨(⟨#[97]⟩ : ByteArray), sZ, false, sZ, false⟩ : Scn).frm)), (vS ((⟨(⟨#[97]⟩ : ByteArray), sZ, false, sZ, false⟩ : Scn).to_)), (vB ((⟨(⟨#[97]⟩ : ByteArray), sZ, false, sZ, false⟩ : Scn).back)), (vS ((⟨(⟨#[97]⟩ : ByteArray), sZ, false, sZ, false⟩ : Scn).at_)), (vB ((⟨(⟨#[97]⟩ : ByteArray), sZ, false, sZ, false⟩ : Scn).told))] 88, tT S4 tb3 row4 4] [bk b24 #[(vS (((peekR (pageS (⟨(⟨#[98]⟩ : ByteArray), sZ, true, sZ, false⟩ : Scn) row4 2) row4).1).key)), (vI (((peekR (pageS (⟨(⟨#[98]⟩ : ByteArray), sZ, true, sZ, false⟩ : Scn) row4 2) row4).1).val))] 41, oR v18 (pageL (⟨(⟨#[98]⟩ : ByteArray), sZ, true, sZ, false⟩ : Scn) row4 2), oR v11 (pageL (⟨(⟨#[98]⟩ : ByteArray), (⟨#[100]⟩ : ByteArray), false, sZ, false⟩ : Scn) row4 5)] [0, 1, 2, 3, 4] rfl
 refine WL.callX rfl (sc_next sb31 (⟨(⟨#[97]⟩ : ByteArray), sZ, false, sZ, false⟩ : Scn) tb3 S4 row4 4 (by first | assumption | omega) (M.eF fq trivial)) (CallsF.func Try.en24 rfl) ?_
 rintro _ w33 ⟨rfl, m⟩
 replace M := M.lF fq m
 clear m
 refine wM (Value.tuple #[(Value.agg #[(vS (((peekR (⟨(⟨#[97]⟩ : ByteArray), sZ, false, sZ, false⟩ : Scn) row4).1).key)), (vI (((peekR (⟨(⟨#[97]⟩ : ByteArray), sZ, false, sZ, false⟩ : Scn) row4).1).val))]), (vB ((peekR (⟨(⟨#[97]⟩ : ByteArray), sZ, false, sZ, false⟩ : Scn) row4).2))]) (wP (Value.agg #[(vS (((peekR (⟨(⟨#[97]⟩ : ByteArray), sZ, false, sZ, false⟩ : Scn) row4).1).key)), (vI (((peekR (⟨(⟨#[97]⟩ : ByteArray), sZ, false, sZ, false⟩ : Scn) row4).1).val))]) (wS (vB true) rfl (Step.cast (congrArg Value.bool (show ((peekR (⟨(⟨#[97]⟩ : ByteArray), sZ, false, sZ, false⟩ : Scn) row4).2) = true by decide +kernel)) sP) ?_))
 refine WL.alloc (c := #[(vS sZ), (vI 0)]) M rfl Try.el41.zero rfl (fun b34 w35 hb34 M => ?_)
 refine WL.store (v := (Value.agg #[(vS (((peekR (⟨(⟨#[97]⟩ : ByteArray), sZ, false, sZ, false⟩ : Scn) row4).1).key)), (vI (((peekR (⟨(⟨#[97]⟩ : ByteArray), sZ, false, sZ, false⟩ : Scn) row4).1).val))])) (cs := [(vS (((peekR (⟨(⟨#[97]⟩ : ByteArray), sZ, false, sZ, false⟩ : Scn) row4).1).key)), (vI (((peekR (⟨(⟨#[97]⟩ : ByteArray), sZ, false, sZ, false⟩ : Scn) row4).1).val))]) (c' := #[(vS (((peekR (⟨(⟨#[97]⟩ : ByteArray), sZ, false, sZ, false⟩ : Scn) row4).1).key)), (vI (((peekR (⟨(⟨#[97]⟩ : ByteArray), sZ, false, sZ, false⟩ : Scn) row4).1).val))]) M 0 rfl rfl Try.el41.sized rfl rfl rfl rfl (Nat.le_of_ble_eq_true rfl) (cel_cons rfl (cel_cons rfl cel_nil)) rfl rfl (fun w36 M => ?_)
 refine wA (vB true) (WL.nil (wR (wM (vP tb3) ?_)))
 have fq := M.frm [tT S4 tb3 row4 4] [bk b34 #[(vS (((peekR (⟨(⟨#[97]⟩ : ByteArray), sZ, false, sZ, false⟩ : Scn) row4).1).key)), (vI (((peekR (⟨(⟨#[97]⟩ : ByteArray), sZ, false, sZ, false⟩ : Scn) row4).1).val))] 41, bk sb31 #[(vS ((nextR (⟨(⟨#[97]⟩ : ByteArray), sZ, false, sZ, false⟩ : Scn) row4).frm)), (vS ((nextR (⟨(⟨#[97]⟩ : ByteArray), sZ, false, sZ, false⟩ : Scn) row4).to_)), (vB ((nextR (⟨(⟨#[97]⟩ : ByteArray), sZ, false, sZ, false⟩ : Scn) row4).back)), (vS ((nextR (⟨(⟨#[97]⟩ : ByteArray), sZ, false, sZ, false⟩ : Scn) row4).at_)), (vB ((nextR (⟨(⟨#[97]⟩ : ByteArray), sZ, false, sZ, false⟩ : Scn) row4).told))] 88, bk b24 #[(vS (((peekR (pageS (⟨(⟨#[98]⟩ : ByteArray), sZ, true, sZ, false⟩ : Scn) row4 2) row4).1).key)), (vI (((peekR (pageS (⟨(⟨#[98]⟩ : ByteArray), sZ, true, sZ, false⟩ : Scn) row4 2) row4).1).val))] 41, oR v18 (pageL (⟨(⟨#[98]⟩ : ByteArray), sZ, true, sZ, false⟩ : Scn) row4 2), oR v11 (pageL (⟨(⟨#[98]⟩ : ByteArray), (⟨#[100]⟩ : ByteArray), false, sZ, false⟩ : Scn) row4 5)] [2, 0, 1, 3, 4, 5] rfl
 refine WL.callX rfl (T_delete tb3 S4 row4 4 (⟨#[98]⟩ : ByteArray) (by first | assumption | omega) (M.eF fq trivial)) (CallsF.func Try.en19 rfl) ?_
 rintro _ w38 ⟨S37, rfl, m⟩
 replace M := M.lF fq m
 clear m
 refine WL.nil (wR (wM (vP tb3) ?_))
 have fq := M.frm [tT S37 tb3 (delL row4 (⟨#[98]⟩ : ByteArray)) 4] [bk b34 #[(vS (((peekR (⟨(⟨#[97]⟩ : ByteArray), sZ, false, sZ, false⟩ : Scn) row4).1).key)), (vI (((peekR (⟨(⟨#[97]⟩ : ByteArray), sZ, false, sZ, false⟩ : Scn) row4).1).val))] 41, bk sb31 #[(vS ((nextR (⟨(⟨#[97]⟩ : ByteArray), sZ, false, sZ, false⟩ : Scn) row4).frm)), (vS ((nextR (⟨(⟨#[97]⟩ : ByteArray), sZ, false, sZ, false⟩ : Scn) row4).to_)), (vB ((nextR (⟨(⟨#[97]⟩ : ByteArray), sZ, false, sZ, false⟩ : Scn) row4).back)), (vS ((nextR (⟨(⟨#[97]⟩ : ByteArray), sZ, false, sZ, false⟩ : Scn) row4).at_)), (vB ((nextR (⟨(⟨#[97]⟩ : ByteArray), sZ, false, sZ, false⟩ : Scn) row4).told))] 88, bk b24 #[(vS (((peekR (pageS (⟨(⟨#[98]⟩ : ByteArray), sZ, true, sZ, false⟩ : Scn) row4 2) row4).1).key)), (vI (((peekR (pageS (⟨(⟨#[98]⟩ : ByteArray), sZ, true, sZ, false⟩ : Scn) row4 2) row4).1).val))] 41, oR v18 (pageL (⟨(⟨#[98]⟩ : ByteArray), sZ, true, sZ, false⟩ : Scn) row4 2), oR v11 (pageL (⟨(⟨#[98]⟩ : ByteArray), (⟨#[100]⟩ : ByteArray), false, sZ, false⟩ : Scn) row4 5)] [0, 1, 2, 3, 4, 5] rfl
 refine WL.callX rfl (T_delete tb3 S37 (delL row4 (⟨#[98]⟩ : ByteArray)) 4 (⟨#[99]⟩ : ByteArray) (by first | assumption | omega) (M.eF fq trivial)) (CallsF.func Try.en19 rfl) ?_
 rintro _ w40 ⟨S39, rfl, m⟩
 replace M := M.lF fq m
 clear m
 refine WL.nil (wR (wM (vP sb31) (wM (vP tb3) ?_)))
 have fq := M.frm [bk sb31 #[(vS ((nextR (⟨(⟨#[97]⟩ : ByteArray), sZ, false, sZ, false⟩ : Scn) row4).frm)), (vS ((nextR (⟨(⟨#[97]⟩ : ByteArray), sZ, false, sZ, false⟩ : Scn) row4).to_)), (vB ((nextR (⟨(⟨#[97]⟩ : ByteArray), sZ, false, sZ, false⟩ : Scn) row4).back)), (vS ((nextR (⟨(⟨#[97]⟩ : ByteArray), sZ, false, sZ, false⟩ : Scn) row4).at_)), (vB ((nextR (⟨(⟨#[97]⟩ : ByteArray), sZ, false, sZ, false⟩ : Scn) row4).told))] 88, tT S39 tb3 (delL (delL row4 (⟨#[98]⟩ : ByteArray)) (⟨#[99]⟩ : ByteArray)) 4] [bk b34 #[(vS (((peekR (⟨(⟨#[97]⟩ : ByteArray), sZ, false, sZ, false⟩ : Scn) row4).1).key)), (vI (((peekR (⟨(⟨#[97]⟩ : ByteArray), sZ, false, sZ, false⟩ : Scn) row4).1).val))] 41, bk b24 #[(vS (((peekR (pageS (⟨(⟨#[98]⟩ : ByteArray), sZ, true, sZ, false⟩ : Scn) row4 2) row4).1).key)), (vI (((peekR (pageS (⟨(⟨#[98]⟩ : ByteArray), sZ, true, sZ, false⟩ : Scn) row4 2) row4).1).val))] 41, oR v18 (pageL (⟨(⟨#[98]⟩ : ByteArray), sZ, true, sZ, false⟩ : Scn) row4 2), oR v11 (pageL (⟨(⟨#[98]⟩ : ByteArray), (⟨#[100]⟩ : ByteArray), false, sZ, false⟩ : Scn) row4 5)] [2, 0, 1, 3, 4, 5] rfl
 refine WL.callX rfl (sc_next sb31 (nextR (⟨(⟨#[97]⟩ : ByteArray), sZ, false, sZ, false⟩ : Scn) row4) tb3 S39 (delL (delL row4 (⟨#[98]⟩ : ByteArray)) (⟨#[99]⟩ : ByteArray)) 4 (by first | assumption | omega) (M.eF fq trivial)) (CallsF.func Try.en24 rfl) ?_
 rintro _ w41 ⟨rfl, m⟩
 replace M := M.lF fq m
 clear m
 refine wM (Value.tuple #[(Value.agg #[(vS (((peekR (nextR (⟨(⟨#[97]⟩ : ByteArray), sZ, false, sZ, false⟩ : Scn) row4) (delL (delL row4 (⟨#[98]⟩ : ByteArray)) (⟨#[99]⟩ : ByteArray))).1).key)), (vI (((peekR (nextR (⟨(⟨#[97]⟩ : ByteArray), sZ, false, sZ, false⟩ : Scn) row4) (delL (delL row4 (⟨#[98]⟩ : ByteArray)) (⟨#[99]⟩ : ByteArray))).1).val))]), (vB ((peekR (nextR (⟨(⟨#[97]⟩ : ByteArray), sZ, false, sZ, false⟩ : Scn) row4) (delL (delL row4 (⟨#[98]⟩ : ByteArray)) (⟨#[99]⟩ : ByteArray))).2))]) (wP (Value.agg #[(vS (((peekR (nextR (⟨(⟨#[97]⟩ : ByteArray), sZ, false, sZ, false⟩ : Scn) row4) (delL (delL row4 (⟨#[98]⟩ : ByteArray)) (⟨#[99]⟩ : ByteArray))).1).key)), (vI (((peekR (nextR (⟨(⟨#[97]⟩ : ByteArray), sZ, false, sZ, false⟩ : Scn) row4) (delL (delL row4 (⟨#[98]⟩ : ByteArray)) (⟨#[99]⟩ : ByteArray))).1).val))]) (wS (vB true) rfl (Step.cast (congrArg Value.bool (show ((peekR (nextR (⟨(⟨#[97]⟩ : ByteArray), sZ, false, sZ, false⟩ : Scn) row4) (delL (delL row4 (⟨#[98]⟩ : ByteArray)) (⟨#[99]⟩ : ByteArray))).2) = true by decide +kernel)) sP) ?_))
 refine WL.alloc (c := #[(vS sZ), (vI 0)]) M rfl Try.el41.zero rfl (fun b42 w43 hb42 M => ?_)
 refine WL.store (v := (Value.agg #[(vS (((peekR (nextR (⟨(⟨#[97]⟩ : ByteArray), sZ, false, sZ, false⟩ : Scn) row4) (delL (delL row4 (⟨#[98]⟩ : ByteArray)) (⟨#[99]⟩ : ByteArray))).1).key)), (vI (((peekR (nextR (⟨(⟨#[97]⟩ : ByteArray), sZ, false, sZ, false⟩ : Scn) row4) (delL (delL row4 (⟨#[98]⟩ : ByteArray)) (⟨#[99]⟩ : ByteArray))).1).val))])) (cs := [(vS (((peekR (nextR (⟨(⟨#[97]⟩ : ByteArray), sZ, false, sZ, false⟩ : Scn) row4) (delL (delL row4 (⟨#[98]⟩ : ByteArray)) (⟨#[99]⟩ : ByteArray))).1).key)), (vI (((peekR (nextR (⟨(⟨#[97]⟩ : ByteArray), sZ, false, sZ, false⟩ : Scn) row4) (delL (delL row4 (⟨#[98]⟩ : ByteArray)) (⟨#[99]⟩ : ByteArray))).1).val))]) (c' := #[(vS (((peekR (nextR (⟨(⟨#[97]⟩ : ByteArray), sZ, false, sZ, false⟩ : Scn) row4) (delL (delL row4 (⟨#[98]⟩ : ByteArray)) (⟨#[99]⟩ : ByteArray))).1).key)), (vI (((peekR (nextR (⟨(⟨#[97]⟩ : ByteArray), sZ, false, sZ, false⟩ : Scn) row4) (delL (delL row4 (⟨#[98]⟩ : ByteArray)) (⟨#[99]⟩ : ByteArray))).1).val))]) M 0 rfl rfl Try.el41.sized rfl rfl rfl rfl (Nat.le_of_ble_eq_true rfl) (cel_cons rfl (cel_cons rfl cel_nil)) rfl rfl (fun w44 M => ?_)
 refine wA (vB true) (WL.nil (wR (wM v11 (wS (vI (↑((pageL (⟨(⟨#[98]⟩ : ByteArray), (⟨#[100]⟩ : ByteArray), false, sZ, false⟩ : Scn) row4 5).length))) rfl (Step.lenSl Try.un34 rfl (own_slAt (M.chunk 6 rfl).inv)) (wS (vB true) rfl (Step.cast (congrArg Value.bool (show ((↑((pageL (⟨(⟨#[98]⟩ : ByteArray), (⟨#[100]⟩ : ByteArray), false, sZ, false⟩ : Scn) row4 5).length) : Int) == (2 : Int)) = true by decide +kernel)) sP) ?_)))))
 refine wM (vB true) (wM v11 ?_)
 obtain ⟨cap46, hb45⟩ := SlAt.base (own_slAt (M.chunk 6 rfl).inv) (by omega)
 obtain ⟨x47, hx47⟩ := elem_of_lt (xs := pageL (⟨(⟨#[98]⟩ : ByteArray), (⟨#[100]⟩ : ByteArray), false, sZ, false⟩ : Scn) row4 5) (i := 0) (by omega)
 have hlit_x47 : x47 = (⟨⟨#[98]⟩, 1⟩ : THit) := Option.some.inj (hx47.symm.trans (by decide +kernel))
 refine wS (vQ v11 0 2) rfl (sX 0 Try.un34 Try.el41 rfl rfl hb45 rfl) (wP (vQ v11 0 2) (wS (vS x47.key) rfl (Step.loadE (k := 0) Try.sc9 (flat_ec (own_slAt (M.chunk 6 rfl).inv) hx47 hitE_len) (by decide) rfl rfl) (wS (vB true) rfl (Step.cast (congrArg Value.bool (show (x47.key.toList == (⟨#[98]⟩ : ByteArray).toList) = true by rw [hlit_x47]; decide +kernel)) sP) (wS (vB true) rfl (Step.pick (t := true) rfl rfl) (wM (vB true) ?_)))))
 refine wM v11 ?_
 obtain ⟨x48, hx48⟩ := elem_of_lt (xs := pageL (⟨(⟨#[98]⟩ : ByteArray), (⟨#[100]⟩ : ByteArray), false, sZ, false⟩ : Scn) row4 5) (i := 1) (by omega)
 have hlit_x48 : x48 = (⟨⟨#[99]⟩, 2⟩ : THit) := Option.some.inj (hx48.symm.trans (by decide +kernel))
 refine wS (vQ v11 1 2) rfl (sX 1 Try.un34 Try.el41 rfl rfl hb45 rfl) (wP (vQ v11 1 2) (wS (vS x48.key) rfl (Step.loadE (k := 0) Try.sc9 (flat_ec (own_slAt (M.chunk 6 rfl).inv) hx48 hitE_len) (by decide) rfl rfl) (wS (vB true) rfl (Step.cast (congrArg Value.bool (show (x48.key.toList == (⟨#[99]⟩ : ByteArray).toList) = true by rw [hlit_x48]; decide +kernel)) sP) (wS (vB true) rfl (Step.pick (t := true) rfl rfl) (wM (vB true) ?_)))))
 refine wM (vB true) (wS (vB true) rfl (Step.pick (t := true) rfl rfl) (wM (vB true) (wM v18 (wS (vI (↑((pageL (⟨(⟨#[98]⟩ : ByteArray), sZ, true, sZ, false⟩ : Scn) row4 2).length))) rfl (Step.lenSl Try.un34 rfl (own_slAt (M.chunk 5 rfl).inv)) (wS (vB true) rfl (Step.cast (congrArg Value.bool (show ((↑((pageL (⟨(⟨#[98]⟩ : ByteArray), sZ, true, sZ, false⟩ : Scn) row4 2).length) : Int) == (2 : Int)) = true by decide +kernel)) sP) ?_)))))
 refine wS (vB true) rfl (Step.pick (t := true) rfl rfl) (wM (vB true) (wM v18 ?_))
 obtain ⟨cap50, hb49⟩ := SlAt.base (own_slAt (M.chunk 5 rfl).inv) (by omega)
 obtain ⟨x51, hx51⟩ := elem_of_lt (xs := pageL (⟨(⟨#[98]⟩ : ByteArray), sZ, true, sZ, false⟩ : Scn) row4 2) (i := 0) (by omega)
 have hlit_x51 : x51 = (⟨⟨#[100]⟩, 3⟩ : THit) := Option.some.inj (hx51.symm.trans (by decide +kernel))
 refine wS (vQ v18 0 2) rfl (sX 0 Try.un34 Try.el41 rfl rfl hb49 rfl) (wP (vQ v18 0 2) (wS (vS x51.key) rfl (Step.loadE (k := 0) Try.sc9 (flat_ec (own_slAt (M.chunk 5 rfl).inv) hx51 hitE_len) (by decide) rfl rfl) (wS (vB true) rfl (Step.cast (congrArg Value.bool (show (x51.key.toList == (⟨#[100]⟩ : ByteArray).toList) = true by rw [hlit_x51]; decide +kernel)) sP) (wS (vB true) rfl (Step.pick (t := true) rfl rfl) (wM (vB true) ?_)))))
 refine wM v18 ?_
 obtain ⟨x52, hx52⟩ := elem_of_lt (xs := pageL (⟨(⟨#[98]⟩ : ByteArray), sZ, true, sZ, false⟩ : Scn) row4 2) (i := 1) (by omega)
 have hlit_x52 : x52 = (⟨⟨#[99]⟩, 2⟩ : THit) := Option.some.inj (hx52.symm.trans (by decide +kernel))
 refine wS (vQ v18 1 2) rfl (sX 1 Try.un34 Try.el41 rfl rfl hb49 rfl) (wP (vQ v18 1 2) (wS (vS x52.key) rfl (Step.loadE (k := 0) Try.sc9 (flat_ec (own_slAt (M.chunk 5 rfl).inv) hx52 hitE_len) (by decide) rfl rfl) (wS (vB true) rfl (Step.cast (congrArg Value.bool (show (x52.key.toList == (⟨#[99]⟩ : ByteArray).toList) = true by rw [hlit_x52]; decide +kernel)) sP) (wS (vB true) rfl (Step.pick (t := true) rfl rfl) (wM (vB true) ?_)))))
 refine wM (vB false) (wP (vB true) (wS (vB true) rfl (Step.pick (t := true) rfl rfl) (wM (vB true) (wP (vP b24) (wS (vS (((peekR (pageS (⟨(⟨#[98]⟩ : ByteArray), sZ, true, sZ, false⟩ : Scn) row4 2) row4).1).key)) rfl (Step.load1 Try.sc9 rfl ((M.cell 4 rfl 0).trans rfl)) ?_)))))
 refine wS (vB true) rfl (Step.cast (congrArg Value.bool (show ((((peekR (pageS (⟨(⟨#[98]⟩ : ByteArray), sZ, true, sZ, false⟩ : Scn) row4 2) row4).1).key).toList == (⟨#[98]⟩ : ByteArray).toList) = true by decide +kernel)) sP) (wS (vB true) rfl (Step.pick (t := true) rfl rfl) (wM (vB true) (wM (vB true) (wS (vB true) rfl (Step.pick (t := true) rfl rfl) (wM (vB true) ?_)))))
 refine wM (vB false) (wP (vB true) (wS (vB true) rfl (Step.pick (t := true) rfl rfl) (wM (vB true) (wP (vP b34) (wS (vS (((peekR (⟨(⟨#[97]⟩ : ByteArray), sZ, false, sZ, false⟩ : Scn) row4).1).key)) rfl (Step.load1 Try.sc9 rfl ((M.cell 3 rfl 0).trans rfl)) ?_)))))
 refine wS (vB true) rfl (Step.cast (congrArg Value.bool (show ((((peekR (⟨(⟨#[97]⟩ : ByteArray), sZ, false, sZ, false⟩ : Scn) row4).1).key).toList == (⟨#[97]⟩ : ByteArray).toList) = true by decide +kernel)) sP) (wS (vB true) rfl (Step.pick (t := true) rfl rfl) (wM (vB true) (wM (vB true) (wS (vB true) rfl (Step.pick (t := true) rfl rfl) (wM (vB true) ?_)))))
 refine wP (vP b42) (wS (vS (((peekR (nextR (⟨(⟨#[97]⟩ : ByteArray), sZ, false, sZ, false⟩ : Scn) row4) (delL (delL row4 (⟨#[98]⟩ : ByteArray)) (⟨#[99]⟩ : ByteArray))).1).key)) rfl (Step.load1 Try.sc9 rfl ((M.cell 0 rfl 0).trans rfl)) (wS (vB true) rfl (Step.cast (congrArg Value.bool (show ((((peekR (nextR (⟨(⟨#[97]⟩ : ByteArray), sZ, false, sZ, false⟩ : Scn) row4) (delL (delL row4 (⟨#[98]⟩ : ByteArray)) (⟨#[99]⟩ : ByteArray))).1).key).toList == (⟨#[100]⟩ : ByteArray).toList) = true by decide +kernel)) sP) (wS (vB true) rfl (Step.pick (t := true) rfl rfl) (wM (vB true) (wM (vB true) ?_)))))
 refine wS (vB true) rfl (Step.pick (t := true) rfl rfl) (wA (vB true) (WL.nil ?_))
 refine W.ret ?_
 refine ⟨.inl rfl, (vB true), ?_, ?_⟩
 · exact ⟨rfl, (Res.r1 (show RV _ _ _ (.tmp 0) (vB true) from by exact rfl))⟩
 refine ⟨?_, M.close [] rfl (by decide) trivial⟩
 rfl
end Go.Proofs
set_option maxRecDepth 100000
namespace Go.Proofs
open Go Tp
theorem Try.ag31 : Aggr Try.prog 31 3 := ⟨fun _ => by kernel_rfl, fun _ => by kernel_rfl⟩
theorem Try.en11 : Enters Try.prog 11 := fun _ _ => by kernel_rfl
theorem Try.en12 : Enters Try.prog 12 := fun _ _ => by kernel_rfl
theorem Try.en20 : Enters Try.prog 20 := fun _ _ => by kernel_rfl
theorem Try.en21 : Enters Try.prog 21 := fun _ _ => by kernel_rfl
theorem Try.en22 : Enters Try.prog 22 := fun _ _ => by kernel_rfl
theorem Try.en23 : Enters Try.prog 23 := fun _ _ => by kernel_rfl
theorem law13_plays {G : Nat → Prop} {w : World} (kv : Value) (ks : List ByteArray) (f : ByteArray) (t : ByteArray) (b : Bool) (v : Value) (l : List TAct)   (M : Mem G (fun _ => False) w [] [fS kv ks, SlAt 3 v l.length (l.flatMap actE)] w) : Rets Try.prog 4 #[kv, (vS f), (vS t), (vB b), v] w fun r w' => r = (vB true) ∧ Mem G (fun _ => False) w [] [] w' := by
 refine Rets.enter 106 _ Try.func4 rfl Try.ntmps4 Try.results4 (by simp) ?_
 have hle1 := SlAt.le' (M.rep 0 rfl)
 have hle2 := SlAt.le' (M.rep 1 rfl)
 have sl3 : IsSl kv := SlAt.isSl (Mem.rep M 0 rfl)
 have sl4 : IsSl v := SlAt.isSl (Mem.rep M 1 rfl)
 refine wR (wA (vB false) (WL.nil (W.seq' (wR (wM kv ?_)))))
 refine wS (vI ↑ks.length) rfl (Step.lenSl Try.un22 rfl (M.rep 0 rfl)) (wP (vB (decide ((↑ks.length : Int) > (40 : Int)))) (wM (vB (decide ((↑ks.length : Int) > (40 : Int)))) ?_))
 rcases Bool.eq_false_or_eq_true (decide ((↑ks.length : Int) > (40 : Int))) with h5 | h5
 ·
  have h5p := of_decide_eq_true h5
  rw [h5]
  refine WL.pass rfl ?_
  refine WL.pass rfl ?_
  refine WL.pass rfl ?_
  refine wS (vB true) rfl (Step.pick (t := true) rfl rfl) (WL.nil ?_)
  refine W.cond (t := true) rfl (fun _ => ?_) (fun h => by cases h)
  refine wR ?_
  refine WL.callX rfl (l13_works  (M.enterW0 trivial)) (CallsF.func Try.en12 rfl) ?_
  rintro _ w6 ⟨rfl, m⟩
  replace M := M.leaveW0 m
  clear m
  refine wA (vB true) (WL.nil ?_)
  refine W.ret ?_
  refine ⟨.inl rfl, (vB true), ?_, ?_⟩
  · exact ⟨rfl, (Res.r1 (show RV _ _ _ (.tmp 10) (vB true) from by exact rfl))⟩
  refine ⟨?_, M.close [] rfl (by decide) trivial⟩
  rfl
 ·
  have h5p := of_decide_eq_false h5
  rw [h5]
  refine wM v ?_
  refine WL.callX rfl (l13_few v l 40 (M.enterW0 ⟨(M.wideR0 1 rfl), trivial⟩)) (CallsF.func Try.en11 rfl) ?_
  rintro _ w7 ⟨rfl, m⟩
  replace M := M.leaveW0 m
  clear m
  refine wP (vB (!(fewS l 40))) (wS (vB (!(fewS l 40))) rfl (Step.pick (t := false) rfl rfl) (WL.nil ?_))
  refine W.cond (t := !(fewS l 40)) rfl (fun h8 => ?_) (fun h8 => ?_)
  ·
   refine wR ?_
   refine WL.callX rfl (l13_works  (M.enterW0 trivial)) (CallsF.func Try.en12 rfl) ?_
   rintro _ w9 ⟨rfl, m⟩
   replace M := M.leaveW0 m
   clear m
   refine wA (vB true) (WL.nil ?_)
   refine W.ret ?_
   refine ⟨.inl rfl, (vB true), ?_, ?_⟩
   · exact ⟨rfl, (Res.r1 (show RV _ _ _ (.tmp 10) (vB true) from by exact rfl))⟩
   refine ⟨?_, M.close [] rfl (by decide) trivial⟩
   rfl
  ·
   have hfw_ := fewS_fact (show fewS l 40 = true by simpa using h8)
   refine W.skip (wR (wM kv ?_))
   refine WL.callX rfl (l13_planted kv ks (by first | omega | decide) (M.enter0 ⟨(M.shr' 0 rfl), trivial⟩)) (CallsF.func Try.en13 rfl) ?_
   rintro _ w13 ⟨tb10, S11, rv12, rfl, m⟩
   replace M := M.leave0 m
   clear m
   have sl14 : IsSl rv12 := SlAt.isSl (Mem.rep M 0 rfl)
   have hle15 := SlAt.le' (M.rep 0 rfl)
   refine wM (Value.tuple #[(vP tb10), rv12]) (wP (vP tb10) (wP rv12 (wA (vP tb10) (wA rv12 (WL.nil ?_)))))
   refine wR (wM (vS f) (wM (vS t) (wM (vB b) ?_)))
   refine WL.callX rfl (sc_new f t b (M.enterW0 trivial)) (CallsF.func Try.en14 rfl) ?_
   rintro _ w17 ⟨sb16, rfl, m⟩
   replace M := M.leaveW0 m
   clear m
   refine wA (vP sb16) (WL.nil (wR (wM (vS f) (wM (vS t) (wM (vB b) ?_)))))
   refine wP (Value.agg #[(vS f), (vS t), (vB b), (vS sZ), (vB false)]) ?_
   refine WL.alloc (c := #[(vS sZ), (vS sZ), (vB false), (vS sZ), (vB false)]) M rfl Try.el46.zero rfl (fun b18 w19 hb18 M => ?_)
   refine WL.store (v := (Value.agg #[(vS f), (vS t), (vB b), (vS sZ), (vB false)])) (cs := [(vS f), (vS t), (vB b), (vS sZ), (vB false)]) (c' := #[(vS f), (vS t), (vB b), (vS sZ), (vB false)]) M 0 rfl rfl Try.el46.sized rfl rfl rfl rfl (Nat.le_of_ble_eq_true rfl) (cel_cons rfl (cel_cons rfl (cel_cons rfl (cel_cons rfl (cel_cons rfl cel_nil))))) rfl rfl (fun w20 M => ?_)
   refine WL.nil (W.seq' (wR (wA (vI 0) (WL.nil (W.block ?_)))))
   replace M := M.sel (L' := [tT S11 tb10 (rowE ks ks.length) ks.length, bk b18 #[(vS f), (vS t), (vB b), (vS sZ), (vB false)] 46, bk sb16 #[(vS ((⟨f, t, b, sZ, false⟩ : Scn).frm)), (vS ((⟨f, t, b, sZ, false⟩ : Scn).to_)), (vB ((⟨f, t, b, sZ, false⟩ : Scn).back)), (vS ((⟨f, t, b, sZ, false⟩ : Scn).at_)), (vB ((⟨f, t, b, sZ, false⟩ : Scn).told))] 88]) [2, 0, 1] rfl (by decide)
   replace M := M.sel (L' := [tT S11 tb10 (rowE ks ks.length) ks.length, bk sb16 #[(vS ((⟨f, t, b, sZ, false⟩ : Scn).frm)), (vS ((⟨f, t, b, sZ, false⟩ : Scn).to_)), (vB ((⟨f, t, b, sZ, false⟩ : Scn).back)), (vS ((⟨f, t, b, sZ, false⟩ : Scn).at_)), (vB ((⟨f, t, b, sZ, false⟩ : Scn).told))] 88, bk b18 #[(vS f), (vS t), (vB b), (vS sZ), (vB false)] 46]) [0, 2, 1] rfl (by decide)
   replace M := M.facts (R' := [fR rv12 (rowE ks ks.length), SlAt 3 v l.length (l.flatMap actE)]) (Facts.all ⟨M.shr' 0 rfl, M.shr' 2 rfl, trivial⟩)
   replace M := M.rechunk 0 (c' := tT S11 tb10 (rowE ks ks.length) (ks.length + 0)) rfl (rfl)
   refine W.loop (fun kk ρ w' => ∃ (i_ : Nat) (row_ : List THit) (s_ : Scn) (rv_ : Value) (S_ : Nat → Prop), ((i_ ≤ l.length) ∧ kk = l.length - i_) ∧ ρ.has [(1, (vS f)), (2, (vS t)), (4, v), (11, (vP tb10)), (12, rv_), (13, (vP sb16)), (14, (vP b18)), (15, (vI ↑i_))] ∧ Mem G (fun _ => False) w [tT S_ tb10 row_ (ks.length + i_), bk sb16 #[(vS s_.frm), (vS s_.to_), (vB s_.back), (vS s_.at_), (vB s_.told)] 88, bk b18 #[(vS s_.frm), (vS s_.to_), (vB s_.back), (vS s_.at_), (vB s_.told)] 46] [fR rv_ row_, SlAt 3 v l.length (l.flatMap actE)]  w') _ ⟨0, (rowE ks ks.length), (⟨f, t, b, sZ, false⟩ : Scn), rv12, S11, ⟨(Nat.zero_le _), rfl⟩, ⟨rfl, rfl, rfl, rfl, rfl, rfl, rfl, rfl, rfl, rfl⟩, M⟩ ?_
   rintro _ ρ22 w21 ⟨i_, row_, s_, rv_, S_, ⟨hi23, rfl⟩, hρ, M⟩
   obtain ⟨ρ22, rfl⟩ := hρ.know
   clear hρ
   have sl24 : IsSl rv_ := SlAt.isSl (M.rep 0 rfl)
   obtain ⟨hup_, hrc_⟩ := tabC_up (M.chunk 0 rfl).inv
   refine W.seq' (wR (wM (vI ↑i_) (wM v (wS (vI ↑l.length) rfl (Step.lenSl Try.un23 rfl (M.rep 1 rfl)) (wP (vB (decide ((↑i_ : Int) < (↑l.length : Int)))) ?_)))))
   refine WL.nil ?_
   refine W.cond (t := decide ((↑i_ : Int) < (↑l.length : Int))) rfl (fun h25 => ?_) (fun h25 => ?_)
   ·
    have h25p := of_decide_eq_true h25
    refine W.skip (W.seq' (W.block (W.seq' ?_)))
    obtain ⟨cap27, hb26⟩ := SlAt.base (M.rep 1 rfl) (by omega)
    obtain ⟨x28, hx28⟩ := elem_of_lt (xs := l) (i := i_) (by omega)
    refine W.drawn M [0, 1, 2, 3, 4, 5, 6, 7, 8, 9, 10, 11, 12, 13, 14, 15, 16] [8, 15] [13] _ _ (sN (sN (sY sE))) (fun _ h => h) Try.mixed (by kernel_rfl) ?_
    refine tP (vP tb10) rfl (fun w => (Step.move rfl)) ?_
    refine tP rv_ rfl (fun w => (Step.move rfl)) ?_
    refine tP (vP sb16) rfl (fun w => (Step.move rfl)) ?_
    refine tR (Value.agg #[(vS s_.frm), (vS s_.to_), (vB s_.back), (vS s_.at_), (vB s_.told)]) rfl (fun A w M => (Step.loadN Try.ag46 rfl (M.blk 1 rfl) (Nat.le_of_ble_eq_true rfl) rfl)) ?_
    refine tP v rfl (fun w => (Step.move rfl)) ?_
    refine tP (vI ↑i_) rfl (fun w => (Step.move rfl)) ?_
    refine tP (vQ v i_ 3) rfl (fun w => (sX i_ Try.un23 Try.el31 rfl rfl hb26)) ?_
    refine tR (Value.agg #[(vI x28.do_), (vS x28.k), (vI x28.v)]) rfl (fun A w M => (Step.loadEN (k := 0) (cs' := [(vI x28.do_), (vS x28.k), (vI x28.v)]) Try.ag31 (flat_ec (M.rep 1 rfl) hx28 actE_len) (by decide) rfl rfl rfl)) ?_
    let Q : List Chunk := [bk b18 #[(vS s_.frm), (vS s_.to_), (vB s_.back), (vS s_.at_), (vB s_.told)] 46]
    refine TW.callX (ι := Value × (Nat → Prop)) (fun jx v_ => v_ = (Value.tuple #[jx.1, (Value.agg #[(vS ((doesSS s_ row_ x28).frm)), (vS ((doesSS s_ row_ x28).to_)), (vB ((doesSS s_ row_ x28).back)), (vS ((doesSS s_ row_ x28).at_)), (vB ((doesSS s_ row_ x28).told))]), (vB true)])) (fun jx => tT jx.2 tb10 (doesSR row_ x28) (ks.length + i_ + 1) :: bk sb16 #[(vS ((doesSS s_ row_ x28).frm)), (vS ((doesSS s_ row_ x28).to_)), (vB ((doesSS s_ row_ x28).back)), (vS ((doesSS s_ row_ x28).at_)), (vB ((doesSS s_ row_ x28).told))] 88 :: Q) (fun jx => [fR jx.1 (doesSR row_ x28), fR rv_ row_, SlAt 3 v l.length (l.flatMap actE)]) rfl (by decide) rfl (fun jx => (sN (sN (sY sE)))) (fun jx r h => (List.mem_cons_of_mem _ h)) (fun A w M => have fq := M.frm [tT S_ tb10 row_ (ks.length + i_), bk sb16 #[(vS s_.frm), (vS s_.to_), (vB s_.back), (vS s_.at_), (vB s_.told)] 88] (fl A :: Q) [1, 2, 0, 3] rfl; Rets.mono (l13_does tb10 S_ row_ (ks.length + i_) rv_ sb16 s_ x28 (by omega) (M.eN fq ⟨(M.shr' 0 rfl), trivial⟩)) (fun v_ w_ ⟨rv39, S40, e_, m⟩ => ⟨(rv39, S40), e_, (M.lN fq m).sel [2, 0, 1, 3] rfl (by decide), fun b hb => M.kN fq m b hb⟩)) (fun w => CallsF.func Try.en21 rfl) (fun jx v hp hin => ?_)
    obtain ⟨rv39, S40⟩ := jx
    replace hp := hp.symm; subst hp
    obtain ⟨_, _, hin⟩ := hin
    have sl41 : IsSl rv39 := SlAt.isSl (Mem.rep hin 0 rfl)
    clear hin
    refine tP (Value.tuple #[rv39, (Value.agg #[(vS ((doesSS s_ row_ x28).frm)), (vS ((doesSS s_ row_ x28).to_)), (vB ((doesSS s_ row_ x28).back)), (vS ((doesSS s_ row_ x28).at_)), (vB ((doesSS s_ row_ x28).told))]), (vB true)]) rfl (fun w => (Step.move rfl)) ?_
    refine tP rv39 rfl (fun w => sP) ?_
    refine tP (Value.agg #[(vS ((doesSS s_ row_ x28).frm)), (vS ((doesSS s_ row_ x28).to_)), (vB ((doesSS s_ row_ x28).back)), (vS ((doesSS s_ row_ x28).at_)), (vB ((doesSS s_ row_ x28).told))]) rfl (fun w => sP) ?_
    refine tP (vB true) rfl (fun w => sP) ?_
    refine TW.new (obj := .cells #[(vS sZ), (vS sZ), (vB false), (vS sZ), (vB false)] 46) (fun b => .pointer (some ⟨b, 0, none⟩)) rfl (by decide) (by decide) rfl (fun w => Step.alloc Try.el46.zero) (fun b42 => ?_)
    refine tP rv39 rfl (fun w => (Step.assign rfl)) ?_
    refine TW.store (v := (Value.agg #[(vS ((doesSS s_ row_ x28).frm)), (vS ((doesSS s_ row_ x28).to_)), (vB ((doesSS s_ row_ x28).back)), (vS ((doesSS s_ row_ x28).at_)), (vB ((doesSS s_ row_ x28).told))])) (cs := [(vS ((doesSS s_ row_ x28).frm)), (vS ((doesSS s_ row_ x28).to_)), (vB ((doesSS s_ row_ x28).back)), (vS ((doesSS s_ row_ x28).at_)), (vB ((doesSS s_ row_ x28).told))]) (c' := #[(vS ((doesSS s_ row_ x28).frm)), (vS ((doesSS s_ row_ x28).to_)), (vB ((doesSS s_ row_ x28).back)), (vS ((doesSS s_ row_ x28).at_)), (vB ((doesSS s_ row_ x28).told))]) 0 rfl rfl (by decide) rfl Try.el46.sized rfl rfl rfl rfl (Nat.le_of_ble_eq_true rfl) (cel_cons rfl (cel_cons rfl (cel_cons rfl (cel_cons rfl (cel_cons rfl cel_nil))))) rfl rfl (sN (sN (sN (sY sE)))) (fun r h => (List.mem_cons_of_mem _ h)) ?_
    refine tP (vB true) rfl (fun w => (Step.assign rfl)) ?_
    refine TW.done (fun w43 M => ?_)
    refine wR (wM rv39 (wA rv39 (WL.nil (wR (wS (Value.agg #[(vS ((doesSS s_ row_ x28).frm)), (vS ((doesSS s_ row_ x28).to_)), (vB ((doesSS s_ row_ x28).back)), (vS ((doesSS s_ row_ x28).at_)), (vB ((doesSS s_ row_ x28).told))]) rfl (Step.loadN Try.ag46 rfl (M.blk 0 rfl) (Nat.le_of_ble_eq_true rfl) rfl) ?_)))))
    refine WL.store (v := (Value.agg #[(vS ((doesSS s_ row_ x28).frm)), (vS ((doesSS s_ row_ x28).to_)), (vB ((doesSS s_ row_ x28).back)), (vS ((doesSS s_ row_ x28).at_)), (vB ((doesSS s_ row_ x28).told))])) (cs := [(vS ((doesSS s_ row_ x28).frm)), (vS ((doesSS s_ row_ x28).to_)), (vB ((doesSS s_ row_ x28).back)), (vS ((doesSS s_ row_ x28).at_)), (vB ((doesSS s_ row_ x28).told))]) (c' := #[(vS ((doesSS s_ row_ x28).frm)), (vS ((doesSS s_ row_ x28).to_)), (vB ((doesSS s_ row_ x28).back)), (vS ((doesSS s_ row_ x28).at_)), (vB ((doesSS s_ row_ x28).told))]) M 3 rfl rfl Try.el46.sized rfl rfl rfl rfl (Nat.le_of_ble_eq_true rfl) (cel_cons rfl (cel_cons rfl (cel_cons rfl (cel_cons rfl (cel_cons rfl cel_nil))))) rfl rfl (fun w44 M => ?_)
    refine WL.nil (wR (wM (vP sb16) ?_))
    refine WL.callX rfl (sc_at sb16 (doesSS s_ row_ x28) (M.enterW0 ⟨(M.wideC0 2 rfl), trivial⟩)) (CallsF.func Try.en22 rfl) ?_
    rintro _ w45 ⟨rfl, m⟩
    replace M := M.leaveW0 m
    clear m
    obtain ⟨hup2_, hrc2_⟩ := tabC_up (M.chunk 1 rfl).inv
    refine wM (Value.tuple #[(vS ((doesSS s_ row_ x28).at_)), (vB ((doesSS s_ row_ x28).told))]) (wP (vS ((doesSS s_ row_ x28).at_)) (wP (vB ((doesSS s_ row_ x28).told)) (wA (vS ((doesSS s_ row_ x28).at_)) (wA (vB ((doesSS s_ row_ x28).told)) (WL.nil ?_)))))
    refine wR (wM (vB true) (wP (vB false) (wM (vB false) (wM (vS ((doesSS s_ row_ x28).at_)) (wP (Value.pointer (some ⟨b18, 3, none⟩)) ?_)))))
    refine wS (vS ((doesSS s_ row_ x28).at_)) rfl (Step.load1 Try.sc9 rfl ((M.cell 3 rfl 3).trans rfl)) (wS (vB false) rfl (Step.cast (congrArg Value.bool (show (!(((doesSS s_ row_ x28).at_).toList == ((doesSS s_ row_ x28).at_).toList)) = false by simp)) sP) (wS (vB false) rfl (Step.pick (t := false) rfl rfl) (wM (vB false) (wM (vB ((doesSS s_ row_ x28).told)) (wP (Value.pointer (some ⟨b18, 4, none⟩)) ?_)))))
    refine wS (vB ((doesSS s_ row_ x28).told)) rfl (Step.load1 Try.sc4 rfl ((M.cell 3 rfl 4).trans rfl)) (wS (vB false) rfl (Step.cast (congrArg Value.bool (by simp)) (Step.pure (v := .bool (!(((doesSS s_ row_ x28).told) == ((doesSS s_ row_ x28).told)))) (by kernel_rfl))) (wS (vB false) rfl (Step.pick (t := false) rfl rfl) (wM (vB false) (wM (vP tb10) (wM (vS f) ?_)))))
    refine wM (vS t) ?_
    have fq := M.frm [tT S40 tb10 (doesSR row_ x28) (ks.length + i_ + 1)] [bk b42 #[(vS ((doesSS s_ row_ x28).frm)), (vS ((doesSS s_ row_ x28).to_)), (vB ((doesSS s_ row_ x28).back)), (vS ((doesSS s_ row_ x28).at_)), (vB ((doesSS s_ row_ x28).told))] 46, bk sb16 #[(vS ((doesSS s_ row_ x28).frm)), (vS ((doesSS s_ row_ x28).to_)), (vB ((doesSS s_ row_ x28).back)), (vS ((doesSS s_ row_ x28).at_)), (vB ((doesSS s_ row_ x28).told))] 88, bk b18 #[(vS ((doesSS s_ row_ x28).frm)), (vS ((doesSS s_ row_ x28).to_)), (vB ((doesSS s_ row_ x28).back)), (vS ((doesSS s_ row_ x28).at_)), (vB ((doesSS s_ row_ x28).told))] 46] [1, 0, 2, 3] rfl
    refine WL.callX rfl (sc_count tb10 S40 (doesSR row_ x28) (ks.length + i_ + 1) f t (by first | assumption | omega) (M.eF fq trivial)) (CallsF.func Try.en20 rfl) ?_
    rintro _ w46 ⟨rfl, m⟩
    replace M := M.lF fq m
    clear m
    refine wM rv39 (wM (vS f) (wM (vS t) ?_))
    refine WL.callX rfl (r_count rv39 (doesSR row_ x28) f t (by omega) (M.enterW0 ⟨(M.wideR0 0 rfl), trivial⟩)) (CallsF.func Try.en23 rfl) ?_
    rintro _ w47 ⟨rfl, m⟩
    replace M := M.leaveW0 m
    clear m
    refine wS (vB false) rfl (Step.cast (congrArg Value.bool (show ((↑(countR (doesSR row_ x28) f t) : Int) != (↑(countR (doesSR row_ x28) f t) : Int)) = false by simp)) sP) (wS (vB false) rfl (Step.pick (t := false) rfl rfl) (WL.nil ?_))
    refine W.cond (t := false) rfl (fun h => by cases h) (fun _ => ?_)
    refine W.skip (W.region rfl (wM (vI ↑i_) (wS (vI (↑i_ + 1)) rfl (Step.add rfl rfl (wrap_i64 (by omega))) (wA (vI (↑i_ + 1)) (WL.nil ?_)))))
    replace M := M.rechunk 0 (c' := tT S40 tb10 (doesSR row_ x28) (ks.length + (i_ + 1))) rfl (rfl)
    replace M := M.sel (L' := [tT S40 tb10 (doesSR row_ x28) (ks.length + (i_ + 1)), bk sb16 #[(vS ((doesSS s_ row_ x28).frm)), (vS ((doesSS s_ row_ x28).to_)), (vB ((doesSS s_ row_ x28).back)), (vS ((doesSS s_ row_ x28).at_)), (vB ((doesSS s_ row_ x28).told))] 88, bk b18 #[(vS ((doesSS s_ row_ x28).frm)), (vS ((doesSS s_ row_ x28).to_)), (vB ((doesSS s_ row_ x28).back)), (vS ((doesSS s_ row_ x28).at_)), (vB ((doesSS s_ row_ x28).told))] 46]) [0, 2, 3] rfl (by decide)
    replace M := M.facts (R' := [fR rv39 (doesSR row_ x28), SlAt 3 v l.length (l.flatMap actE)]) (Facts.all ⟨M.shr' 0 rfl, M.shr' 2 rfl, trivial⟩)
    exact ⟨_, (by omega), i_ + 1, (doesSR row_ x28), (doesSS s_ row_ x28), rv39, S40, ⟨(by omega), rfl⟩, ⟨rfl, rfl, rfl, rfl, rfl, rfl, rfl, rfl, rfl, rfl⟩, M⟩
   ·
    have h25p := of_decide_eq_false h25
    refine W.exit ?_
    refine thn_exit ?_
    refine thn_exit ?_
    refine inBlk_hit ?_
    refine wR (wM (vP tb10) (wM (vS f) (wM (vS t) ?_)))
    have fq := M.frm [tT S_ tb10 row_ (ks.length + i_)] [bk sb16 #[(vS s_.frm), (vS s_.to_), (vB s_.back), (vS s_.at_), (vB s_.told)] 88, bk b18 #[(vS s_.frm), (vS s_.to_), (vB s_.back), (vS s_.at_), (vB s_.told)] 46] [0, 1, 2] rfl
    refine WL.callX rfl (sc_count tb10 S_ row_ (ks.length + i_) f t (by first | assumption | omega) (M.eF fq trivial)) (CallsF.func Try.en20 rfl) ?_
    rintro _ w48 ⟨rfl, m⟩
    replace M := M.lF fq m
    clear m
    refine wM rv_ (wM (vS f) (wM (vS t) ?_))
    refine WL.callX rfl (r_count rv_ row_ f t (by omega) (M.enterW0 ⟨(M.wideR0 0 rfl), trivial⟩)) (CallsF.func Try.en23 rfl) ?_
    rintro _ w49 ⟨rfl, m⟩
    replace M := M.leaveW0 m
    clear m
    refine wS (vB true) rfl (Step.cast (congrArg Value.bool (show ((↑(countR row_ f t) : Int) == (↑(countR row_ f t) : Int)) = true by simp)) sP) (wM (vB true) ?_)
    refine WL.callX rfl (l13_works  (M.enterW0 trivial)) (CallsF.func Try.en12 rfl) ?_
    rintro _ w50 ⟨rfl, m⟩
    replace M := M.leaveW0 m
    clear m
    refine wS (vB true) rfl (Step.pick (t := true) rfl rfl) (wA (vB true) (WL.nil ?_))
    refine W.ret ?_
    refine ⟨.inl rfl, (vB true), ?_, ?_⟩
    · exact ⟨rfl, (Res.r1 (show RV _ _ _ (.tmp 10) (vB true) from by exact rfl))⟩
    refine ⟨?_, M.close [] rfl (by decide) trivial⟩
    rfl
end Go.Proofs
