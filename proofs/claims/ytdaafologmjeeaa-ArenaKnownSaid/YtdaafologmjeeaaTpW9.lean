/- Walks. -/
import Derived.Test.YtdaafologmjeeaaTpW8
import Derived.Test.YtdaafologmjeeaaTpLaw11
set_option maxRecDepth 100000
set_option linter.all false
namespace Go.Proofs
open Go Tp
theorem Try.ag51 : Aggr Try.prog 51 6 := ⟨fun _ => by kernel_rfl, fun _ => by kernel_rfl⟩
theorem Try.en17 : Enters Try.prog 17 := fun _ _ => by kernel_rfl
theorem Try.en18 : Enters Try.prog 18 := fun _ _ => by kernel_rfl
theorem Try.en19 : Enters Try.prog 19 := fun _ _ => by kernel_rfl

theorem law_plays {G : Nat → Prop} {w : World} (v : Value) (xs : List AAct)  (M : Mem G (fun _ => False) w [] [RepS ActT v xs] w) : Rets Try.prog 4 #[v] w fun r w' => r = (Value.bool true) ∧ Mem G (fun _ => False) w [] [] w' := by
  refine Rets.enter 44 _ Try.func4 rfl Try.ntmps4 Try.results4 (by simp) ?_
  have hle1 := RepS.le' (M.rep 0 rfl)
  have sl2 : IsSl v := RepS.isSl (Mem.rep M 0 rfl)
  obtain ⟨cs3, M⟩ := M.openS 0 rfl
  refine W.seq' ?_
  refine W.region rfl ?_
  refine WL.step (v := (Value.bool false)) rfl (Step.assign rfl) ?_
  refine WL.nil ?_
  refine W.seq' ?_
  refine W.seq' ?_
  refine W.region rfl ?_
  refine WL.step (v := v) rfl (Step.move rfl) ?_
  refine WL.callX rfl (law_few v xs 40 (M.enterW0 ⟨(M.wideR0 2 rfl), trivial⟩)) (CallsF.func Try.en17 rfl) ?_
  rintro _ w4 ⟨rfl, m⟩
  replace M := M.leaveW0 m
  clear m
  replace M : Mem _ _ _ [] [SlAt 6 v xs.length cs3, RepL ActT cs3 xs, RepS ActT v xs] _ := M
  refine WL.step (v := (Value.bool (!(fewB xs 40)))) rfl (Step.pure (by kernel_rfl)) ?_
  refine WL.nil ?_
  refine W.cond (t := !(fewB xs 40)) rfl (fun h5 => ?_) (fun h5 => ?_)
  ·
    refine W.seq' ?_
    refine W.region rfl ?_
    refine WL.callX rfl (law_works  (M.enterW0 trivial)) (CallsF.func Try.en8 rfl) ?_
    rintro _ w6 ⟨rfl, m⟩
    replace M := M.leaveW0 m
    clear m
    replace M : Mem _ _ _ [] [SlAt 6 v xs.length cs3, RepL ActT cs3 xs, RepS ActT v xs] _ := M
    refine WL.step (v := (Value.bool true)) rfl (Step.assign rfl) ?_
    refine WL.nil ?_
    refine W.ret ?_
    refine ⟨.inl rfl, (Value.bool true), ?_, ?_⟩
    · exact (Res.r1 (show RV _ _ _ (.tmp 2) (Value.bool true) from by exact rfl))
    refine ⟨?_, M.close [] rfl (by decide) trivial⟩
    rfl
  ·
    have hfew : fewB xs 40 = true := by simpa using h5
    have hlen := few_len hfew
    refine W.skip ?_
    refine W.seq' ?_
    refine W.region rfl ?_
    refine WL.callX rfl (ar_new  (M.enterW0 trivial)) (CallsF.func Try.en9 rfl) ?_
    rintro _ w9 ⟨ab7, S8, rfl, m⟩
    replace M := M.leaveW0 m
    clear m
    replace M : Mem _ _ _ [arenaC 71 73 S8 ab7 ([] : List RPlace)] [SlAt 6 v xs.length cs3, RepL ActT cs3 xs, RepS ActT v xs] _ := M
    refine WL.step (v := (Value.pointer (some ⟨ab7, 0, none⟩))) rfl (Step.assign rfl) ?_
    refine WL.nil ?_
    refine W.seq' ?_
    refine W.region rfl ?_
    refine WL.alloc (c := #[(Value.slice none 0 0)]) M rfl Try.el47.zero rfl (fun b10 w11 hb10 M => ?_)
    refine WL.nil ?_
    refine W.seq' ?_
    refine W.seq' ?_
    refine W.region rfl ?_
    refine WL.step (v := (Value.int .i64 0)) rfl (Step.assign rfl) ?_
    refine WL.nil ?_
    refine W.block ?_
    replace M := M.add_pure (r' := RepS RPlaceT (Value.slice none 0 0) (stepsTo xs 0)) (fun w => RepS.nil RPlaceT w)
    replace M := M.rechunk 1 (c' := arenaC 71 73 S8 ab7 (stepsTo xs 0)) rfl rfl
    replace M : Mem _ _ _ [blk b10 (.cells #[(Value.slice none 0 0)] 47), arenaC 71 73 S8 ab7 (stepsTo xs 0)] [RepS RPlaceT (Value.slice none 0 0) (stepsTo xs 0), SlAt 6 v xs.length cs3, RepL ActT cs3 xs, RepS ActT v xs] _ := M
    replace M := M.sel (L' := [arenaC 71 73 S8 ab7 (stepsTo xs 0), blk b10 (.cells #[(Value.slice none 0 0)] 47)]) [1, 0] rfl (by decide)
    refine W.loop (fun kk ρ w' => ∃ (ia_ : Nat) (S_ : Nat → Prop) (r_ : Value), ((ia_ ≤ xs.length) ∧ (Grow ia_ (stepsTo xs ia_)) ∧ kk = xs.length - ia_) ∧ ρ.has [(0, v), (3, (Value.pointer (some ⟨ab7, 0, none⟩))), (4, (Value.pointer (some ⟨b10, 0, none⟩))), (5, (Value.int .i64 ↑ia_))] ∧ Mem G (fun _ => False) w [arenaC 71 73 S_ ab7 (stepsTo xs ia_), blk b10 (.cells #[r_] 47)] [RepS RPlaceT r_ (stepsTo xs ia_), SlAt 6 v xs.length cs3, RepL ActT cs3 xs, RepS ActT v xs]  w') _ ⟨0, _, _, ⟨(Nat.zero_le _), Grow.nil, rfl⟩, ⟨rfl, rfl, rfl, rfl, trivial⟩, M⟩ ?_
    rintro _ ρ13 w12 ⟨ia_, S_, r_, ⟨hi14, hi15, rfl⟩, hρ, M⟩
    obtain ⟨ρ13, rfl⟩ := hρ.know
    clear hρ
    have sl16 : IsSl r_ := RepS.isSl (M.rep 0 rfl)
    have hA := Grow.small hi15 (by omega)
    refine W.seq' ?_
    refine W.seq' ?_
    refine W.region rfl ?_
    refine WL.step (v := (Value.int .i64 ↑ia_)) rfl (Step.move rfl) ?_
    refine WL.step (v := v) rfl (Step.move rfl) ?_
    refine WL.step (v := (Value.int .i64 ↑xs.length)) rfl (Step.lenSl Try.un43 rfl (M.rep 1 rfl)) ?_
    refine WL.step (v := (Value.bool (decide ((↑ia_ : Int) < (↑xs.length : Int))))) rfl (Step.pure (by kernel_rfl)) ?_
    refine WL.nil ?_
    refine W.cond (t := decide ((↑ia_ : Int) < (↑xs.length : Int))) rfl (fun h17 => ?_) (fun h17 => ?_)
    ·
      have h17p := of_decide_eq_true h17
      refine W.skip ?_
      refine W.seq' ?_
      refine W.block ?_
      refine W.seq' ?_
      obtain ⟨cap19, hb18⟩ := SlAt.base (M.rep 1 rfl) (by omega)
      obtain ⟨p20, hp20⟩ := elem_of_lt (xs := xs) (i := ia_) (by omega)
      obtain ⟨kv21, dv22, vv23, hv24, M⟩ := act_open M 1 2 rfl rfl rfl hp20
      have hokp20 := few_ok hfew (by omega) hp20
      have hsmp20 := (Grow.step hi15 hokp20).small (by omega)
      have sl25 : IsSl kv21 := SlAt.isSl (Mem.rep M 1 rfl)
      have sl26 : IsSl dv22 := SlAt.isSl (Mem.rep M 2 rfl)
      have sl27 : IsSl vv23 := SlAt.isSl (Mem.rep M 3 rfl)
      have sl28 : IsSl hv24 := SlAt.isSl (Mem.rep M 4 rfl)
      refine W.drawn M [0, 1, 2, 3, 4, 5, 6, 7, 8, 9, 10, 11, 12] [6, 11] [10] [blk b10 (.cells #[r_] 47)] [EC v 6 ia_ [(Value.int .i64 p20.do_), (Value.bool p20.node.leaf), kv21, dv22, vv23, hv24], SlAt 1 kv21 p20.node.keys.length (p20.node.keys.flatMap strE), SlAt 2 dv22 p20.node.kids.length (p20.node.kids.flatMap handleE), SlAt 1 vv23 p20.node.vals.length (p20.node.vals.flatMap intE), SlAt 2 hv24 p20.hs.length (p20.hs.flatMap handleE), RepS RPlaceT r_ (stepsTo xs ia_), SlAt 6 v xs.length cs3, RepL ActT cs3 xs, RepS ActT v xs] (List.Sublist.cons _ (List.Sublist.cons_cons _ List.Sublist.slnil)) (fun _ h => h) Try.mixed (by kernel_rfl) ?_
      refine TW.pure (v := (Value.pointer (some ⟨ab7, 0, none⟩))) rfl (by decide) (by decide) rfl (fun w => (Step.move rfl)) ?_
      refine TW.read (v := (Value.agg #[r_])) rfl (by decide) (by decide) rfl (fun A w M => (Step.loadN Try.ag47 rfl (M.blk 1 rfl) (Nat.le_of_ble_eq_true rfl) rfl)) ?_
      refine TW.pure (v := v) rfl (by decide) (by decide) rfl (fun w => (Step.move rfl)) ?_
      refine TW.pure (v := (Value.int .i64 ↑ia_)) rfl (by decide) (by decide) rfl (fun w => (Step.move rfl)) ?_
      refine TW.pure (v := (Value.pointer (some ⟨(sBlk v), sOff v + ia_ * 6, none⟩))) rfl (by decide) (by decide) rfl (fun w => (Step.indexAddr (i := ia_) (Try.un43).run Try.el51.sized rfl rfl (by omega) hb18 (by omega))) ?_
      refine TW.read (v := (Value.agg #[(Value.int .i64 p20.do_), (Value.bool p20.node.leaf), kv21, dv22, vv23, hv24])) rfl (by decide) (by decide) rfl (fun A w M => (Step.loadEN (k := 0) (cs' := [(Value.int .i64 p20.do_), (Value.bool p20.node.leaf), kv21, dv22, vv23, hv24]) Try.ag51 (M.rep 0 rfl : EC _ _ _ _ _) (by decide) rfl rfl rfl)) ?_
      refine TW.callX (ι := Value × (Nat → Prop)) (fun jx v_ => v_ = (Value.tuple #[(Value.agg #[jx.1]), (Value.bool true)])) (fun jx => [arenaC 71 73 jx.2 ab7 (stepA (stepsTo xs ia_) p20), blk b10 (.cells #[r_] 47)]) (fun jx => [RepS RPlaceT jx.1 (stepA (stepsTo xs ia_) p20), EC v 6 ia_ [(Value.int .i64 p20.do_), (Value.bool p20.node.leaf), kv21, dv22, vv23, hv24], SlAt 1 kv21 p20.node.keys.length (p20.node.keys.flatMap strE), SlAt 2 dv22 p20.node.kids.length (p20.node.kids.flatMap handleE), SlAt 1 vv23 p20.node.vals.length (p20.node.vals.flatMap intE), SlAt 2 hv24 p20.hs.length (p20.hs.flatMap handleE), RepS RPlaceT r_ (stepsTo xs ia_), SlAt 6 v xs.length cs3, RepL ActT cs3 xs, RepS ActT v xs]) rfl (by decide) rfl (fun jx => (List.Sublist.cons _ (List.Sublist.cons_cons _ List.Sublist.slnil))) (fun jx r h => (List.mem_cons_of_mem _ h)) (fun A w M => Rets.mono (law_does ab7 (stepsTo xs ia_) S_ r_ (stepsTo xs ia_) kv21 dv22 vv23 hv24 p20 (by first | assumption | exact smallA_of rfl) (by assumption) (M.enter (C := [arenaC 71 73 S_ ab7 (stepsTo xs ia_)]) (D := [fl A, blk b10 (.cells #[r_] 47)]) [1, 0, 2] rfl (by decide) ⟨(M.shr' 5 rfl), (M.shr' 1 rfl), (M.shr' 2 rfl), (M.shr' 3 rfl), (M.shr' 4 rfl), trivial⟩)) (fun v_ w_ ⟨v39, S40, e_, m⟩ => ⟨(v39, S40), e_, (M.leave (C := [arenaC 71 73 S_ ab7 (stepsTo xs ia_)]) (D := [fl A, blk b10 (.cells #[r_] 47)]) [1, 0, 2] rfl (by decide) m).sel (L' := [fl A, arenaC 71 73 S40 ab7 (stepA (stepsTo xs ia_) p20), blk b10 (.cells #[r_] 47)]) [1, 0, 2] rfl (by decide), fun b hb => M.kept (C := [arenaC 71 73 S_ ab7 (stepsTo xs ia_)]) (D := [fl A, blk b10 (.cells #[r_] 47)]) [1, 0, 2] rfl (by decide) m (fl A) (List.mem_cons_self ..) b hb⟩)) (fun w => CallsF.func Try.en18 rfl) (fun jx v hp hin => ?_)
      obtain ⟨v39, S40⟩ := jx
      replace hp := hp.symm; subst hp
      obtain ⟨_, _, hin⟩ := hin
      have sl41 : IsSl v39 := RepS.isSl (Mem.rep hin 0 rfl)
      clear hin
      change TW _ _ _ _ _ _ _ _ (MemA _ _ _ [arenaC 71 73 S40 ab7 (stepA (stepsTo xs ia_) p20), blk b10 (.cells #[r_] 47)] [RepS RPlaceT v39 (stepA (stepsTo xs ia_) p20), EC v 6 ia_ [(Value.int .i64 p20.do_), (Value.bool p20.node.leaf), kv21, dv22, vv23, hv24], SlAt 1 kv21 p20.node.keys.length (p20.node.keys.flatMap strE), SlAt 2 dv22 p20.node.kids.length (p20.node.kids.flatMap handleE), SlAt 1 vv23 p20.node.vals.length (p20.node.vals.flatMap intE), SlAt 2 hv24 p20.hs.length (p20.hs.flatMap handleE), RepS RPlaceT r_ (stepsTo xs ia_), SlAt 6 v xs.length cs3, RepL ActT cs3 xs, RepS ActT v xs])
      refine TW.pure (v := (Value.tuple #[(Value.agg #[v39]), (Value.bool true)])) rfl (by decide) (by decide) rfl (fun w => (Step.move rfl)) ?_
      refine TW.pure (v := (Value.agg #[v39])) rfl (by decide) (by decide) rfl (fun w => (Step.pure (by kernel_rfl))) ?_
      refine TW.pure (v := (Value.bool true)) rfl (by decide) (by decide) rfl (fun w => (Step.pure (by kernel_rfl))) ?_
      refine TW.new (obj := .cells #[(Value.slice none 0 0)] 47) (fun b => .pointer (some ⟨b, 0, none⟩)) rfl (by decide) (by decide) rfl (fun w => Step.alloc Try.el47.zero) (fun b42 => ?_)
      refine TW.store (v := (Value.agg #[v39])) (cs := [v39]) (c' := #[v39]) 0 rfl rfl (by decide) rfl Try.el47.sized rfl rfl rfl rfl (Nat.le_of_ble_eq_true rfl) (cel_cons (IsSl.cel sl41) cel_nil) rfl rfl (List.Sublist.cons _ (List.Sublist.cons _ (List.Sublist.cons_cons _ List.Sublist.slnil))) (fun r h => (List.mem_cons_of_mem _ h)) ?_
      refine TW.pure (v := (Value.bool true)) rfl (by decide) (by decide) rfl (fun w => (Step.assign rfl)) ?_
      refine TW.done (fun w43 M => ?_)
      refine W.seq' ?_
      refine W.region rfl ?_
      refine WL.step (v := (Value.agg #[v39])) rfl (Step.loadN Try.ag47 rfl (M.blk 0 rfl) (Nat.le_of_ble_eq_true rfl) rfl) ?_
      refine WL.store (v := (Value.agg #[v39])) (cs := [v39]) (c' := #[v39]) M 2 rfl rfl Try.el47.sized rfl rfl rfl rfl (Nat.le_of_ble_eq_true rfl) (cel_cons (IsSl.cel sl41) cel_nil) rfl rfl (fun w44 M => ?_)
      refine WL.nil ?_
      refine W.seq' ?_
      refine W.region rfl ?_
      refine WL.step (v := (Value.bool true)) rfl (Step.move rfl) ?_
      refine WL.step (v := (Value.bool false)) rfl (Step.pure (by kernel_rfl)) ?_
      refine WL.step (v := (Value.bool false)) rfl (Step.move rfl) ?_
      refine WL.step (v := (Value.pointer (some ⟨ab7, 0, none⟩))) rfl (Step.move rfl) ?_
      refine WL.step (v := (Value.agg #[v39])) rfl (Step.loadN Try.ag47 rfl (M.blk 2 rfl) (Nat.le_of_ble_eq_true rfl) rfl) ?_
      refine WL.callX rfl (law_is ab7 (stepA (stepsTo xs ia_) p20) S40 v39 (stepA (stepsTo xs ia_) p20) (by first | assumption | exact smallA_of rfl) (M.enterW (C := [arenaC 71 73 S40 ab7 (stepA (stepsTo xs ia_) p20)]) (D := [blk b42 (.cells #[v39] 47), blk b10 (.cells #[v39] 47)]) [1, 0, 2] rfl (by decide) ⟨(M.wideR (C := [arenaC 71 73 S40 ab7 (stepA (stepsTo xs ia_) p20)]) (D := [blk b42 (.cells #[v39] 47), blk b10 (.cells #[v39] 47)]) [1, 0, 2] rfl 0 rfl), trivial⟩)) (CallsF.func Try.en19 rfl) ?_
      rintro _ w45 ⟨rfl, m⟩
      replace M := M.leaveW (C := [arenaC 71 73 S40 ab7 (stepA (stepsTo xs ia_) p20)]) (D := [blk b42 (.cells #[v39] 47), blk b10 (.cells #[v39] 47)]) [1, 0, 2] rfl (by decide) m
      replace M := M.sel (L' := [blk b42 (.cells #[v39] 47), arenaC 71 73 S40 ab7 (stepA (stepsTo xs ia_) p20), blk b10 (.cells #[v39] 47)]) [1, 0, 2] rfl (by decide)
      clear m
      replace M : Mem _ _ _ [blk b42 (.cells #[v39] 47), arenaC 71 73 S40 ab7 (stepA (stepsTo xs ia_) p20), blk b10 (.cells #[v39] 47)] [RepS RPlaceT v39 (stepA (stepsTo xs ia_) p20), EC v 6 ia_ [(Value.int .i64 p20.do_), (Value.bool p20.node.leaf), kv21, dv22, vv23, hv24], SlAt 1 kv21 p20.node.keys.length (p20.node.keys.flatMap strE), SlAt 2 dv22 p20.node.kids.length (p20.node.kids.flatMap handleE), SlAt 1 vv23 p20.node.vals.length (p20.node.vals.flatMap intE), SlAt 2 hv24 p20.hs.length (p20.hs.flatMap handleE), RepS RPlaceT r_ (stepsTo xs ia_), SlAt 6 v xs.length cs3, RepL ActT cs3 xs, RepS ActT v xs] _ := M
      refine WL.step (v := (Value.bool false)) rfl (Step.pure (by kernel_rfl)) ?_
      refine WL.step (v := (Value.bool false)) rfl (Step.pick (t := false) rfl rfl) ?_
      refine WL.nil ?_
      refine W.cond (t := false) rfl (fun h => by cases h) (fun _ => ?_)
      refine W.skip ?_
      refine W.region rfl ?_
      refine WL.step (v := (Value.int .i64 ↑ia_)) rfl (Step.move rfl) ?_
      refine WL.step (v := (Value.int .i64 (↑ia_ + 1))) rfl (Step.add rfl rfl (wrap_i64 (by omega))) ?_
      refine WL.step (v := (Value.int .i64 (↑ia_ + 1))) rfl (Step.assign rfl) ?_
      refine WL.nil ?_
      have hst := stepsTo_succ hp20
      have hgr : Grow (ia_ + 1) (stepsTo xs (ia_ + 1)) := by rw [hst]; exact Grow.step hi15 (few_ok hfew (by omega) hp20)
      rw [← hst] at M
      replace M : Mem _ _ _ [blk b42 (.cells #[v39] 47), arenaC 71 73 S40 ab7 (stepsTo xs (ia_ + 1)), blk b10 (.cells #[v39] 47)] [RepS RPlaceT v39 (stepsTo xs (ia_ + 1)), EC v 6 ia_ [(Value.int .i64 p20.do_), (Value.bool p20.node.leaf), kv21, dv22, vv23, hv24], SlAt 1 kv21 p20.node.keys.length (p20.node.keys.flatMap strE), SlAt 2 dv22 p20.node.kids.length (p20.node.kids.flatMap handleE), SlAt 1 vv23 p20.node.vals.length (p20.node.vals.flatMap intE), SlAt 2 hv24 p20.hs.length (p20.hs.flatMap handleE), RepS RPlaceT r_ (stepsTo xs ia_), SlAt 6 v xs.length cs3, RepL ActT cs3 xs, RepS ActT v xs] _ := M
      replace M := M.sel (L' := [arenaC 71 73 S40 ab7 (stepsTo xs (ia_ + 1)), blk b10 (.cells #[v39] 47)]) [1, 2] rfl (by decide)
      replace M := M.facts (R' := [RepS RPlaceT v39 (stepsTo xs (ia_ + 1)), SlAt 6 v xs.length cs3, RepL ActT cs3 xs, RepS ActT v xs]) (Facts.all ⟨M.shr' 0 rfl, M.shr' 7 rfl, M.shr' 8 rfl, M.shr' 9 rfl, trivial⟩)
      exact ⟨_, (by omega), ia_ + 1, _, _, ⟨(by omega), hgr, rfl⟩, ⟨rfl, rfl, rfl, rfl, trivial⟩, M⟩
    ·
      have h17p := of_decide_eq_false h17
      refine W.exit ?_
      refine thn_exit ?_
      refine thn_exit ?_
      refine inBlk_hit ?_
      refine W.seq' ?_
      refine W.region rfl ?_
      refine WL.step (v := (Value.pointer (some ⟨ab7, 0, none⟩))) rfl (Step.move rfl) ?_
      refine WL.step (v := (Value.agg #[r_])) rfl (Step.loadN Try.ag47 rfl (M.blk 1 rfl) (Nat.le_of_ble_eq_true rfl) rfl) ?_
      refine WL.callX rfl (law_is ab7 (stepsTo xs ia_) S_ r_ (stepsTo xs ia_) (by first | assumption | exact smallA_of rfl) (M.enterW (C := [arenaC 71 73 S_ ab7 (stepsTo xs ia_)]) (D := [blk b10 (.cells #[r_] 47)]) [0, 1] rfl (by decide) ⟨(M.wideR (C := [arenaC 71 73 S_ ab7 (stepsTo xs ia_)]) (D := [blk b10 (.cells #[r_] 47)]) [0, 1] rfl 0 rfl), trivial⟩)) (CallsF.func Try.en19 rfl) ?_
      rintro _ w46 ⟨rfl, m⟩
      replace M := M.leaveW (C := [arenaC 71 73 S_ ab7 (stepsTo xs ia_)]) (D := [blk b10 (.cells #[r_] 47)]) [0, 1] rfl (by decide) m
      replace M := M.sel (L' := [arenaC 71 73 S_ ab7 (stepsTo xs ia_), blk b10 (.cells #[r_] 47)]) [0, 1] rfl (by decide)
      clear m
      replace M : Mem _ _ _ [arenaC 71 73 S_ ab7 (stepsTo xs ia_), blk b10 (.cells #[r_] 47)] [RepS RPlaceT r_ (stepsTo xs ia_), SlAt 6 v xs.length cs3, RepL ActT cs3 xs, RepS ActT v xs] _ := M
      refine WL.step (v := (Value.bool true)) rfl (Step.move rfl) ?_
      refine WL.callX rfl (law_works  (M.enterW0 trivial)) (CallsF.func Try.en8 rfl) ?_
      rintro _ w47 ⟨rfl, m⟩
      replace M := M.leaveW0 m
      clear m
      replace M : Mem _ _ _ [arenaC 71 73 S_ ab7 (stepsTo xs ia_), blk b10 (.cells #[r_] 47)] [RepS RPlaceT r_ (stepsTo xs ia_), SlAt 6 v xs.length cs3, RepL ActT cs3 xs, RepS ActT v xs] _ := M
      refine WL.step (v := (Value.bool true)) rfl (Step.pick (t := true) rfl rfl) ?_
      refine WL.step (v := (Value.bool true)) rfl (Step.assign rfl) ?_
      refine WL.nil ?_
      refine W.ret ?_
      refine ⟨.inl rfl, (Value.bool true), ?_, ?_⟩
      · exact (Res.r1 (show RV _ _ _ (.tmp 2) (Value.bool true) from by exact rfl))
      refine ⟨?_, M.close [] rfl (by decide) trivial⟩
      rfl
end Go.Proofs
