/- Walks. -/
import Derived.Test.YtdaafologmjeeaaTpW7
import Derived.Test.YtdaafologmjeeaaTpLaw11
set_option maxRecDepth 100000
set_option linter.all false
namespace Go.Proofs
open Go Tp
theorem Try.en21 : Enters Try.prog 21 := fun _ _ => by kernel_rfl
theorem Try.en23 : Enters Try.prog 23 := fun _ _ => by kernel_rfl
theorem Try.en38 : Enters Try.prog 38 := fun _ _ => by kernel_rfl

theorem law_is {G X : Nat → Prop} {w : World} (ab : Nat) (l : List RPlace) (S : Nat → Prop) (v : Value) (l : List RPlace) (hA : SmallA l) (M : Mem G X w [arenaC 71 73 S ab l] [RepS RPlaceT v l] w) : Rets Try.prog 19 #[(Value.pointer (some ⟨ab, 0, none⟩)), (Value.agg #[v])] w fun r w' => r = (Value.bool true) ∧ Mem G X w [arenaC 71 73 S ab l] [] w' := by
  refine Rets.enter 102 _ Try.func19 rfl Try.ntmps19 Try.results19 (by simp) ?_
  have hle1 := RepS.le' (M.rep 0 rfl)
  have sl2 : IsSl v := RepS.isSl (Mem.rep M 0 rfl)
  obtain ⟨cs3, M⟩ := M.openS 0 rfl
  refine W.seq' ?_
  refine W.region rfl ?_
  refine WL.box (v := (Value.agg #[v])) (c := #[v]) M rfl rfl rfl (fun b4 w5 hb4 M => ?_)
  refine WL.step (v := (Value.bool false)) rfl (Step.assign rfl) ?_
  refine WL.nil ?_
  refine W.seq' ?_
  refine W.drawn M [0, 1, 2, 3, 4, 5] [1, 3] [] [blk b4 (.cells #[v] 47), arenaC 71 73 S ab l] [SlAt 6 v l.length cs3, RepL RPlaceT cs3 l, RepS RPlaceT v l] (List.Sublist.cons_cons _ (List.Sublist.cons_cons _ List.Sublist.slnil)) (fun _ h => h) Try.mixed (by kernel_rfl) ?_
  refine TW.pure (v := (Value.pointer (some ⟨ab, 0, none⟩))) rfl (by decide) (by decide) rfl (fun w => (Step.move rfl)) ?_
  refine TW.callX (ι := Value) (fun jx v_ => v_ = jx) (fun jx => [own 29 2 jx ((rused l).length) ((rused l).flatMap handleE), blk b4 (.cells #[v] 47), arenaC 71 73 S ab l]) (fun jx => [SlAt 6 v l.length cs3, RepL RPlaceT cs3 l, RepS RPlaceT v l]) rfl (by decide) rfl (fun jx => (List.Sublist.cons _ (List.Sublist.cons_cons _ (List.Sublist.cons_cons _ List.Sublist.slnil)))) (fun jx r h => h) (fun A w M => Rets.mono (ar_used ab l S (by first | assumption | exact smallA_of rfl) (M.enterW (C := [arenaC 71 73 S ab l]) (D := [fl A, blk b4 (.cells #[v] 47)]) [2, 0, 1] rfl (by decide) trivial)) (fun v_ w_ ⟨v10, e_, m⟩ => ⟨v10, e_, (M.leaveW (C := [arenaC 71 73 S ab l]) (D := [fl A, blk b4 (.cells #[v] 47)]) [2, 0, 1] rfl (by decide) m).sel (L' := [fl A, own 29 2 v10 ((rused l).length) ((rused l).flatMap handleE), blk b4 (.cells #[v] 47), arenaC 71 73 S ab l]) [2, 1, 3, 0] rfl (by decide), fun b hb => M.keptW (C := [arenaC 71 73 S ab l]) (D := [fl A, blk b4 (.cells #[v] 47)]) [2, 0, 1] rfl (by decide) m (fl A) (List.mem_cons_self ..) b hb⟩)) (fun w => CallsF.func Try.en10 rfl) (fun v10 v hp hin => ?_)
  replace hp := hp.symm; subst hp
  obtain ⟨_, _, hin⟩ := hin
  have sl11 : IsSl v10 := SlAt.isSl (own_slAt (Mem.chunk hin 1 rfl).inv)
  have hle12 := SlAt.le' (own_slAt (Mem.chunk hin 1 rfl).inv)
  clear hin
  change TW _ _ _ _ _ _ _ _ (MemA _ _ _ [own 29 2 v10 ((rused l).length) ((rused l).flatMap handleE), blk b4 (.cells #[v] 47), arenaC 71 73 S ab l] [SlAt 6 v l.length cs3, RepL RPlaceT cs3 l, RepS RPlaceT v l])
  refine TW.read (v := (Value.agg #[v])) rfl (by decide) (by decide) rfl (fun A w M => (Step.loadN Try.ag47 rfl (M.blk 1 rfl) (Nat.le_of_ble_eq_true rfl) rfl)) ?_
  refine TW.callX (ι := Value) (fun jx v_ => v_ = jx) (fun jx => [own 61 2 jx ((rused l).length) ((rused l).flatMap handleE), own 29 2 v10 ((rused l).length) ((rused l).flatMap handleE), blk b4 (.cells #[v] 47), arenaC 71 73 S ab l]) (fun jx => [SlAt 6 v l.length cs3, RepL RPlaceT cs3 l, RepS RPlaceT v l]) rfl (by decide) rfl (fun jx => (List.Sublist.cons _ (List.Sublist.cons _ (List.Sublist.cons_cons _ (List.Sublist.cons_cons _ List.Sublist.slnil))))) (fun jx r h => h) (fun A w M => Rets.mono (ref_used v l (by assumption) (M.enterW0 ⟨(M.wideR0 2 rfl), trivial⟩)) (fun v_ w_ ⟨v13, e_, m⟩ => ⟨v13, e_, (M.leaveW0 m).sel (L' := [fl A, own 61 2 v13 ((rused l).length) ((rused l).flatMap handleE), own 29 2 v10 ((rused l).length) ((rused l).flatMap handleE), blk b4 (.cells #[v] 47), arenaC 71 73 S ab l]) [1, 0, 2, 3, 4] rfl (by decide), fun b hb => M.keptW0 m (fl A) (List.mem_cons_self ..) b hb⟩)) (fun w => CallsF.func Try.en38 rfl) (fun v13 v hp hin => ?_)
  replace hp := hp.symm; subst hp
  obtain ⟨_, _, hin⟩ := hin
  have sl14 : IsSl v13 := SlAt.isSl (own_slAt (Mem.chunk hin 1 rfl).inv)
  have hle15 := SlAt.le' (own_slAt (Mem.chunk hin 1 rfl).inv)
  clear hin
  change TW _ _ _ _ _ _ _ _ (MemA _ _ _ [own 61 2 v13 ((rused l).length) ((rused l).flatMap handleE), own 29 2 v10 ((rused l).length) ((rused l).flatMap handleE), blk b4 (.cells #[v] 47), arenaC 71 73 S ab l] [SlAt 6 v l.length cs3, RepL RPlaceT cs3 l, RepS RPlaceT v l])
  refine TW.pure (v := v10) rfl (by decide) (by decide) rfl (fun w => (Step.assign rfl)) ?_
  refine TW.pure (v := v13) rfl (by decide) (by decide) rfl (fun w => (Step.assign rfl)) ?_
  refine TW.done (fun w16 M => ?_)
  refine W.seq' ?_
  refine W.region rfl ?_
  refine WL.step (v := (Value.pointer (some ⟨ab, 0, none⟩))) rfl (Step.move rfl) ?_
  refine WL.callX rfl (ar_len ab l S (M.enterW (C := [arenaC 71 73 S ab l]) (D := [own 61 2 v13 ((rused l).length) ((rused l).flatMap handleE), own 29 2 v10 ((rused l).length) ((rused l).flatMap handleE), blk b4 (.cells #[v] 47)]) [3, 0, 1, 2] rfl (by decide) trivial)) (CallsF.func Try.en15 rfl) ?_
  rintro _ w17 ⟨rfl, m⟩
  replace M := M.leaveW (C := [arenaC 71 73 S ab l]) (D := [own 61 2 v13 ((rused l).length) ((rused l).flatMap handleE), own 29 2 v10 ((rused l).length) ((rused l).flatMap handleE), blk b4 (.cells #[v] 47)]) [3, 0, 1, 2] rfl (by decide) m
  replace M := M.sel (L' := [own 61 2 v13 ((rused l).length) ((rused l).flatMap handleE), own 29 2 v10 ((rused l).length) ((rused l).flatMap handleE), blk b4 (.cells #[v] 47), arenaC 71 73 S ab l]) [1, 2, 3, 0] rfl (by decide)
  clear m
  replace M : Mem _ _ _ [own 61 2 v13 ((rused l).length) ((rused l).flatMap handleE), own 29 2 v10 ((rused l).length) ((rused l).flatMap handleE), blk b4 (.cells #[v] 47), arenaC 71 73 S ab l] [SlAt 6 v l.length cs3, RepL RPlaceT cs3 l, RepS RPlaceT v l] _ := M
  refine WL.step (v := (Value.tuple #[(Value.int .i64 (↑(usedN l))), (Value.int .i64 ↑l.length)])) rfl (Step.move rfl) ?_
  refine WL.step (v := (Value.int .i64 (↑(usedN l)))) rfl (Step.pure (by kernel_rfl)) ?_
  refine WL.step (v := (Value.int .i64 ↑l.length)) rfl (Step.pure (by kernel_rfl)) ?_
  refine WL.step (v := (Value.int .i64 (↑(usedN l)))) rfl (Step.assign rfl) ?_
  refine WL.step (v := (Value.int .i64 ↑l.length)) rfl (Step.assign rfl) ?_
  refine WL.nil ?_
  refine W.seq' ?_
  refine W.seq' ?_
  refine W.region rfl ?_
  refine WL.step (v := v10) rfl (Step.move rfl) ?_
  refine WL.step (v := (Value.int .i64 (↑((rused l).length)))) rfl (Step.lenSl Try.un26 rfl (own_slAt (M.chunk 1 rfl).inv)) ?_
  refine WL.step (v := v13) rfl (Step.move rfl) ?_
  refine WL.step (v := (Value.int .i64 (↑((rused l).length)))) rfl (Step.lenSl Try.un56 rfl (own_slAt (M.chunk 0 rfl).inv)) ?_
  refine WL.step (v := (Value.bool false)) rfl (Step.cast (congrArg Value.bool (show ((↑((rused l).length) : Int) != (↑((rused l).length) : Int)) = false by simp)) (Step.pure (by kernel_rfl))) ?_
  refine WL.step (v := (Value.bool false)) rfl (Step.move rfl) ?_
  refine WL.step (v := (Value.int .i64 (↑(usedN l)))) rfl (Step.move rfl) ?_
  refine WL.step (v := v13) rfl (Step.move rfl) ?_
  refine WL.step (v := (Value.int .i64 (↑((rused l).length)))) rfl (Step.lenSl Try.un56 rfl (own_slAt (M.chunk 0 rfl).inv)) ?_
  refine WL.step (v := (Value.bool ((↑(usedN l) : Int) != (↑((rused l).length) : Int)))) rfl (Step.pure (by kernel_rfl)) ?_
  refine WL.step (v := (Value.bool ((↑(usedN l) : Int) != (↑((rused l).length) : Int)))) rfl (Step.pick (t := false) rfl rfl) ?_
  refine WL.step (v := (Value.bool ((↑(usedN l) : Int) != (↑((rused l).length) : Int)))) rfl (Step.move rfl) ?_
  rcases Bool.eq_false_or_eq_true ((↑(usedN l) : Int) != (↑((rused l).length) : Int)) with h18 | h18
  ·
    have h18p : ¬ (↑(usedN l) : Int) = (↑((rused l).length) : Int) := by simpa using h18
    exact absurd (congrArg Int.ofNat (rused_len l)).symm h18p
  ·
    have h18p : (↑(usedN l) : Int) = (↑((rused l).length) : Int) := by simpa using h18
    rw [h18]
    refine WL.step (v := (Value.int .i64 ↑l.length)) rfl (Step.move rfl) ?_
    refine WL.step (v := (Value.pointer (some ⟨b4, 0, none⟩))) rfl (Step.pure (by kernel_rfl)) ?_
    refine WL.step (v := v) rfl (Step.load1 Try.sc45 rfl ((M.cell 2 rfl 0).trans rfl)) ?_
    refine WL.step (v := (Value.int .i64 ↑l.length)) rfl (Step.lenSl Try.un45 rfl (M.rep 0 rfl)) ?_
    refine WL.step (v := (Value.bool false)) rfl (Step.cast (congrArg Value.bool (show ((↑l.length : Int) != (↑l.length : Int)) = false by simp)) (Step.pure (by kernel_rfl))) ?_
    refine WL.step (v := (Value.bool false)) rfl (Step.pick (t := false) rfl rfl) ?_
    refine WL.nil ?_
    refine W.cond (t := false) rfl (fun h => by cases h) (fun _ => ?_)
    refine W.skip ?_
    refine W.seq' ?_
    refine W.seq' ?_
    refine W.region rfl ?_
    refine WL.step (v := (Value.int .i64 0)) rfl (Step.assign rfl) ?_
    refine WL.nil ?_
    refine W.block ?_
    refine W.loop (fun kk ρ w' => ∃ (ia_ : Nat), ((ia_ ≤ (rused l).length) ∧ kk = (rused l).length - ia_) ∧ ρ.has [(0, (Value.pointer (some ⟨ab, 0, none⟩))), (3, (Value.pointer (some ⟨b4, 0, none⟩))), (5, v10), (6, v13), (9, (Value.int .i64 ↑ia_))] ∧ Mem G X w [own 61 2 v13 ((rused l).length) ((rused l).flatMap handleE), own 29 2 v10 ((rused l).length) ((rused l).flatMap handleE), blk b4 (.cells #[v] 47), arenaC 71 73 S ab l] [SlAt 6 v l.length cs3, RepL RPlaceT cs3 l, RepS RPlaceT v l]  w') _ ⟨0, ⟨(Nat.zero_le _), rfl⟩, ⟨rfl, rfl, rfl, rfl, rfl, trivial⟩, M⟩ ?_
    rintro _ ρ20 w19 ⟨ia_, ⟨hi21, rfl⟩, hρ, M⟩
    obtain ⟨ρ20, rfl⟩ := hρ.know
    clear hρ
    refine W.seq' ?_
    refine W.seq' ?_
    refine W.region rfl ?_
    refine WL.step (v := (Value.int .i64 ↑ia_)) rfl (Step.move rfl) ?_
    refine WL.step (v := v10) rfl (Step.move rfl) ?_
    refine WL.step (v := (Value.int .i64 (↑((rused l).length)))) rfl (Step.lenSl Try.un26 rfl (own_slAt (M.chunk 1 rfl).inv)) ?_
    refine WL.step (v := (Value.bool (decide ((↑ia_ : Int) < (↑((rused l).length) : Int))))) rfl (Step.pure (by kernel_rfl)) ?_
    refine WL.nil ?_
    refine W.cond (t := decide ((↑ia_ : Int) < (↑((rused l).length) : Int))) rfl (fun h22 => ?_) (fun h22 => ?_)
    ·
      have h22p := of_decide_eq_true h22
      refine W.skip ?_
      refine W.seq' ?_
      refine W.block ?_
      refine W.seq' ?_
      refine W.region rfl ?_
      refine WL.step (v := (Value.int .i64 0)) rfl (Step.assign rfl) ?_
      refine WL.nil ?_
      refine W.block ?_
      refine W.loop (fun kk ρ w' => ∃ (ib_ : Nat), ((ib_ ≤ 2) ∧ kk = 2 - ib_) ∧ ρ.has [(0, (Value.pointer (some ⟨ab, 0, none⟩))), (3, (Value.pointer (some ⟨b4, 0, none⟩))), (5, v10), (6, v13), (9, (Value.int .i64 ↑ia_)), (10, (Value.int .i64 ↑ib_)), (42, (Value.int .i64 ↑ia_)), (43, v10), (44, (Value.int .i64 (↑((rused l).length)))), (45, (Value.bool (decide ((↑ia_ : Int) < (↑((rused l).length) : Int)))))] ∧ Mem G X w [own 61 2 v13 ((rused l).length) ((rused l).flatMap handleE), own 29 2 v10 ((rused l).length) ((rused l).flatMap handleE), blk b4 (.cells #[v] 47), arenaC 71 73 S ab l] [SlAt 6 v l.length cs3, RepL RPlaceT cs3 l, RepS RPlaceT v l]  w') _ ⟨0, ⟨(Nat.zero_le _), rfl⟩, ⟨rfl, rfl, rfl, rfl, rfl, rfl, rfl, rfl, rfl, rfl, trivial⟩, M⟩ ?_
      rintro _ ρ24 w23 ⟨ib_, ⟨hi25, rfl⟩, hρ, M⟩
      obtain ⟨ρ24, rfl⟩ := hρ.know
      clear hρ
      refine W.seq' ?_
      refine W.seq' ?_
      refine W.region rfl ?_
      refine WL.step (v := (Value.int .i64 ↑ib_)) rfl (Step.move rfl) ?_
      refine WL.step (v := (Value.bool (decide ((↑ib_ : Int) < (2 : Int))))) rfl (Step.pure (by kernel_rfl)) ?_
      refine WL.nil ?_
      refine W.cond (t := decide ((↑ib_ : Int) < (2 : Int))) rfl (fun h26 => ?_) (fun h26 => ?_)
      ·
        have h26p := of_decide_eq_true h26
        refine W.skip ?_
        refine W.seq' ?_
        refine W.block ?_
        refine W.seq' ?_
        refine W.region rfl ?_
        refine WL.step (v := (Value.pointer (some ⟨ab, 0, none⟩))) rfl (Step.move rfl) ?_
        refine WL.step (v := v10) rfl (Step.move rfl) ?_
        refine WL.step (v := (Value.int .i64 ↑ia_)) rfl (Step.move rfl) ?_
        obtain ⟨cap28, hb27⟩ := SlAt.base (own_slAt (M.chunk 1 rfl).inv) (by omega)
        obtain ⟨x29, hx29⟩ := elem_of_lt (xs := rused l) (i := ia_) (by omega)
        have hh30 := rused_has hx29
        have hh30g : (rget l x29).2 = 0 := by unfold rget; rw [if_pos hh30]
        obtain ⟨hh30a, hh30b, hh30c⟩ := rget_small hA x29
        have hh30n : nodeEq ((rget l x29).1) ((rget l x29).1) = true := nodeEq_self _
        refine WL.step (v := (Value.pointer (some ⟨(sBlk v10), sOff v10 + ia_ * 2, none⟩))) rfl (Step.indexAddr (i := ia_) (Try.un26).run Try.el29.sized rfl rfl (by omega) hb27 (by omega)) ?_
        refine WL.step (v := (Value.agg #[(Value.int .i64 x29.at_), (Value.int .i64 x29.turn)])) rfl (Step.loadEN (k := 0) (cs' := [(Value.int .i64 x29.at_), (Value.int .i64 x29.turn)]) Try.ag29 (flat_ec (own_slAt (M.chunk 1 rfl).inv) hx29 handleE_len) (by decide) rfl rfl rfl) ?_
        refine WL.callX rfl (ar_get ab l S x29 (by first | assumption | exact smallA_of rfl) (M.enterW (C := [arenaC 71 73 S ab l]) (D := [own 61 2 v13 ((rused l).length) ((rused l).flatMap handleE), own 29 2 v10 ((rused l).length) ((rused l).flatMap handleE), blk b4 (.cells #[v] 47)]) [3, 0, 1, 2] rfl (by decide) trivial)) (CallsF.func Try.en14 rfl) ?_
        rintro _ w34 ⟨kv31, dv32, vv33, rfl, m⟩
        replace M := M.leaveW (C := [arenaC 71 73 S ab l]) (D := [own 61 2 v13 ((rused l).length) ((rused l).flatMap handleE), own 29 2 v10 ((rused l).length) ((rused l).flatMap handleE), blk b4 (.cells #[v] 47)]) [3, 0, 1, 2] rfl (by decide) m
        replace M := M.sel (L' := [own 9 1 kv31 ((((rget l x29).1).keys).length) ((((rget l x29).1).keys).flatMap strE), own 29 2 dv32 ((((rget l x29).1).kids).length) ((((rget l x29).1).kids).flatMap handleE), own 3 1 vv33 ((((rget l x29).1).vals).length) ((((rget l x29).1).vals).flatMap intE), own 61 2 v13 ((rused l).length) ((rused l).flatMap handleE), own 29 2 v10 ((rused l).length) ((rused l).flatMap handleE), blk b4 (.cells #[v] 47), arenaC 71 73 S ab l]) [1, 2, 3, 4, 5, 6, 0] rfl (by decide)
        clear m
        replace M : Mem _ _ _ [own 9 1 kv31 ((((rget l x29).1).keys).length) ((((rget l x29).1).keys).flatMap strE), own 29 2 dv32 ((((rget l x29).1).kids).length) ((((rget l x29).1).kids).flatMap handleE), own 3 1 vv33 ((((rget l x29).1).vals).length) ((((rget l x29).1).vals).flatMap intE), own 61 2 v13 ((rused l).length) ((rused l).flatMap handleE), own 29 2 v10 ((rused l).length) ((rused l).flatMap handleE), blk b4 (.cells #[v] 47), arenaC 71 73 S ab l] [SlAt 6 v l.length cs3, RepL RPlaceT cs3 l, RepS RPlaceT v l] _ := M
        have sl35 : IsSl kv31 := SlAt.isSl (own_slAt (Mem.chunk M 0 rfl).inv)
        have hle36 := SlAt.le' (own_slAt (Mem.chunk M 0 rfl).inv)
        have sl37 : IsSl dv32 := SlAt.isSl (own_slAt (Mem.chunk M 1 rfl).inv)
        have hle38 := SlAt.le' (own_slAt (Mem.chunk M 1 rfl).inv)
        have sl39 : IsSl vv33 := SlAt.isSl (own_slAt (Mem.chunk M 2 rfl).inv)
        have hle40 := SlAt.le' (own_slAt (Mem.chunk M 2 rfl).inv)
        refine WL.step (v := (Value.tuple #[(Value.agg #[(Value.bool (((rget l x29).1).leaf)), kv31, dv32, vv33]), (Value.int .i64 ((rget l x29).2))])) rfl (Step.move rfl) ?_
        refine WL.step (v := (Value.agg #[(Value.bool (((rget l x29).1).leaf)), kv31, dv32, vv33])) rfl (Step.pure (by kernel_rfl)) ?_
        refine WL.step (v := (Value.int .i64 ((rget l x29).2))) rfl (Step.pure (by kernel_rfl)) ?_
        refine WL.alloc (c := #[(Value.bool false), (Value.slice none 0 0), (Value.slice none 0 0), (Value.slice none 0 0)]) M rfl Try.el36.zero rfl (fun b41 w42 hb41 M => ?_)
        refine WL.store (v := (Value.agg #[(Value.bool (((rget l x29).1).leaf)), kv31, dv32, vv33])) (cs := [(Value.bool (((rget l x29).1).leaf)), kv31, dv32, vv33]) (c' := #[(Value.bool (((rget l x29).1).leaf)), kv31, dv32, vv33]) M 0 rfl rfl Try.el36.sized rfl rfl rfl rfl (Nat.le_of_ble_eq_true rfl) (cel_cons rfl (cel_cons (IsSl.cel sl35) (cel_cons (IsSl.cel sl37) (cel_cons (IsSl.cel sl39) cel_nil)))) rfl rfl (fun w43 M => ?_)
        refine WL.step (v := (Value.int .i64 ((rget l x29).2))) rfl (Step.assign rfl) ?_
        refine WL.nil ?_
        refine W.seq' ?_
        obtain ⟨cap45, hb44⟩ := SlAt.base (own_slAt (M.chunk 4 rfl).inv) (by omega)
        refine W.drawn M [0, 1, 2, 3, 4, 5, 6, 7, 8, 9, 10, 11] [5, 10] [9] [blk b41 (.cells #[(Value.bool (((rget l x29).1).leaf)), kv31, dv32, vv33] 36), own 9 1 kv31 ((((rget l x29).1).keys).length) ((((rget l x29).1).keys).flatMap strE), own 29 2 dv32 ((((rget l x29).1).kids).length) ((((rget l x29).1).kids).flatMap handleE), own 3 1 vv33 ((((rget l x29).1).vals).length) ((((rget l x29).1).vals).flatMap intE), own 61 2 v13 ((rused l).length) ((rused l).flatMap handleE), own 29 2 v10 ((rused l).length) ((rused l).flatMap handleE), blk b4 (.cells #[v] 47), arenaC 71 73 S ab l] [SlAt 6 v l.length cs3, RepL RPlaceT cs3 l, RepS RPlaceT v l] (List.Sublist.cons_cons _ (List.Sublist.cons_cons _ (List.Sublist.cons_cons _ (List.Sublist.cons_cons _ (List.Sublist.cons_cons _ (List.Sublist.cons_cons _ (List.Sublist.cons_cons _ (List.Sublist.cons_cons _ List.Sublist.slnil)))))))) (fun _ h => h) Try.mixed (by kernel_rfl) ?_
        refine TW.read (v := (Value.agg #[v])) rfl (by decide) (by decide) rfl (fun A w M => (Step.loadN Try.ag47 rfl (M.blk 7 rfl) (Nat.le_of_ble_eq_true rfl) rfl)) ?_
        refine TW.pure (v := v13) rfl (by decide) (by decide) rfl (fun w => (Step.move rfl)) ?_
        refine TW.pure (v := (Value.int .i64 ↑ia_)) rfl (by decide) (by decide) rfl (fun w => (Step.move rfl)) ?_
        refine TW.pure (v := (Value.pointer (some ⟨(sBlk v13), sOff v13 + ia_ * 2, none⟩))) rfl (by decide) (by decide) rfl (fun w => (Step.indexAddr (i := ia_) (Try.un56).run Try.el61.sized rfl rfl (by omega) hb44 (by omega))) ?_
        refine TW.read (v := (Value.agg #[(Value.int .i64 x29.at_), (Value.int .i64 x29.turn)])) rfl (by decide) (by decide) rfl (fun A w M => (Step.loadEN (k := 0) (cs' := [(Value.int .i64 x29.at_), (Value.int .i64 x29.turn)]) Try.ag61 (flat_ec (own_slAt (M.chunk 5 rfl).inv) hx29 handleE_len) (by decide) rfl rfl rfl)) ?_
        refine TW.callX (ι := Value × Value × Value) (fun jx v_ => v_ = (Value.tuple #[(Value.agg #[(Value.bool (((rget l x29).1).leaf)), jx.1, jx.2.1, jx.2.2]), (Value.int .i64 ((rget l x29).2))])) (fun jx => [blk b41 (.cells #[(Value.bool (((rget l x29).1).leaf)), kv31, dv32, vv33] 36), own 9 1 kv31 ((((rget l x29).1).keys).length) ((((rget l x29).1).keys).flatMap strE), own 29 2 dv32 ((((rget l x29).1).kids).length) ((((rget l x29).1).kids).flatMap handleE), own 3 1 vv33 ((((rget l x29).1).vals).length) ((((rget l x29).1).vals).flatMap intE), own 61 2 v13 ((rused l).length) ((rused l).flatMap handleE), own 29 2 v10 ((rused l).length) ((rused l).flatMap handleE), blk b4 (.cells #[v] 47), arenaC 71 73 S ab l]) (fun jx => [SlAt 1 jx.1 (((rget l x29).1).keys).length ((((rget l x29).1).keys).flatMap strE), SlAt 2 jx.2.1 (((rget l x29).1).kids).length ((((rget l x29).1).kids).flatMap handleE), SlAt 1 jx.2.2 (((rget l x29).1).vals).length ((((rget l x29).1).vals).flatMap intE), SlAt 6 v l.length cs3, RepL RPlaceT cs3 l, RepS RPlaceT v l]) rfl (by decide) rfl (fun jx => (List.Sublist.cons_cons _ (List.Sublist.cons_cons _ (List.Sublist.cons_cons _ (List.Sublist.cons_cons _ (List.Sublist.cons_cons _ (List.Sublist.cons_cons _ (List.Sublist.cons_cons _ (List.Sublist.cons_cons _ List.Sublist.slnil))))))))) (fun jx r h => (List.mem_cons_of_mem _ (List.mem_cons_of_mem _ (List.mem_cons_of_mem _ h)))) (fun A w M => Rets.mono (ref_get v l x29 (M.enter0 ⟨(M.shr' 2 rfl), trivial⟩)) (fun v_ w_ ⟨kv58, dv59, vv60, e_, m⟩ => ⟨(kv58, dv59, vv60), e_, (M.leave0 m).sel (L' := [fl A, blk b41 (.cells #[(Value.bool (((rget l x29).1).leaf)), kv31, dv32, vv33] 36), own 9 1 kv31 ((((rget l x29).1).keys).length) ((((rget l x29).1).keys).flatMap strE), own 29 2 dv32 ((((rget l x29).1).kids).length) ((((rget l x29).1).kids).flatMap handleE), own 3 1 vv33 ((((rget l x29).1).vals).length) ((((rget l x29).1).vals).flatMap intE), own 61 2 v13 ((rused l).length) ((rused l).flatMap handleE), own 29 2 v10 ((rused l).length) ((rused l).flatMap handleE), blk b4 (.cells #[v] 47), arenaC 71 73 S ab l]) [0, 1, 2, 3, 4, 5, 6, 7, 8] rfl (by decide), fun b hb => M.kept0 m (fl A) (List.mem_cons_self ..) b hb⟩)) (fun w => CallsF.func Try.en21 rfl) (fun jx v hp hin => ?_)
        obtain ⟨kv58, dv59, vv60⟩ := jx
        replace hp := hp.symm; subst hp
        obtain ⟨_, _, hin⟩ := hin
        have sl61 : IsSl kv58 := SlAt.isSl (Mem.rep hin 0 rfl)
        have sl62 : IsSl dv59 := SlAt.isSl (Mem.rep hin 1 rfl)
        have sl63 : IsSl vv60 := SlAt.isSl (Mem.rep hin 2 rfl)
        clear hin
        change TW _ _ _ _ _ _ _ _ (MemA _ _ _ [blk b41 (.cells #[(Value.bool (((rget l x29).1).leaf)), kv31, dv32, vv33] 36), own 9 1 kv31 ((((rget l x29).1).keys).length) ((((rget l x29).1).keys).flatMap strE), own 29 2 dv32 ((((rget l x29).1).kids).length) ((((rget l x29).1).kids).flatMap handleE), own 3 1 vv33 ((((rget l x29).1).vals).length) ((((rget l x29).1).vals).flatMap intE), own 61 2 v13 ((rused l).length) ((rused l).flatMap handleE), own 29 2 v10 ((rused l).length) ((rused l).flatMap handleE), blk b4 (.cells #[v] 47), arenaC 71 73 S ab l] [SlAt 1 kv58 (((rget l x29).1).keys).length ((((rget l x29).1).keys).flatMap strE), SlAt 2 dv59 (((rget l x29).1).kids).length ((((rget l x29).1).kids).flatMap handleE), SlAt 1 vv60 (((rget l x29).1).vals).length ((((rget l x29).1).vals).flatMap intE), SlAt 6 v l.length cs3, RepL RPlaceT cs3 l, RepS RPlaceT v l])
        refine TW.pure (v := (Value.tuple #[(Value.agg #[(Value.bool (((rget l x29).1).leaf)), kv58, dv59, vv60]), (Value.int .i64 ((rget l x29).2))])) rfl (by decide) (by decide) rfl (fun w => (Step.move rfl)) ?_
        refine TW.pure (v := (Value.agg #[(Value.bool (((rget l x29).1).leaf)), kv58, dv59, vv60])) rfl (by decide) (by decide) rfl (fun w => (Step.pure (by kernel_rfl))) ?_
        refine TW.pure (v := (Value.int .i64 ((rget l x29).2))) rfl (by decide) (by decide) rfl (fun w => (Step.pure (by kernel_rfl))) ?_
        refine TW.new (obj := .cells #[(Value.bool false), (Value.slice none 0 0), (Value.slice none 0 0), (Value.slice none 0 0)] 58) (fun b => .pointer (some ⟨b, 0, none⟩)) rfl (by decide) (by decide) rfl (fun w => Step.alloc Try.el58.zero) (fun b64 => ?_)
        refine TW.store (v := (Value.agg #[(Value.bool (((rget l x29).1).leaf)), kv58, dv59, vv60])) (cs := [(Value.bool (((rget l x29).1).leaf)), kv58, dv59, vv60]) (c' := #[(Value.bool (((rget l x29).1).leaf)), kv58, dv59, vv60]) 0 rfl rfl (by decide) rfl Try.el58.sized rfl rfl rfl rfl (Nat.le_of_ble_eq_true rfl) (cel_cons rfl (cel_cons (IsSl.cel sl61) (cel_cons (IsSl.cel sl62) (cel_cons (IsSl.cel sl63) cel_nil)))) rfl rfl (List.Sublist.cons _ (List.Sublist.cons_cons _ (List.Sublist.cons_cons _ (List.Sublist.cons_cons _ (List.Sublist.cons_cons _ (List.Sublist.cons_cons _ (List.Sublist.cons_cons _ (List.Sublist.cons_cons _ (List.Sublist.cons_cons _ List.Sublist.slnil))))))))) (fun r h => (List.mem_cons_of_mem _ (List.mem_cons_of_mem _ (List.mem_cons_of_mem _ h)))) ?_
        refine TW.pure (v := (Value.int .i64 ((rget l x29).2))) rfl (by decide) (by decide) rfl (fun w => (Step.assign rfl)) ?_
        refine TW.done (fun w65 M => ?_)
        refine W.seq' ?_
        refine W.seq' ?_
        rcases Bool.eq_false_or_eq_true (((rget l x29).2 : Int) != (0 : Int)) with h66 | h66
        ·
          have h66p : ¬ ((rget l x29).2 : Int) = (0 : Int) := by simpa using h66
          exact absurd (by assumption) h66p
        ·
          have h66p : ((rget l x29).2 : Int) = (0 : Int) := by simpa using h66
          refine W.drawn M [0, 1, 2, 3, 4, 5, 6, 7, 8, 9, 10, 11, 12, 13, 14, 15, 16, 17, 18, 19, 20, 21, 22, 23, 24, 25, 26, 27, 28, 29] [4, 16, 18, 27] [] [blk b64 (.cells #[(Value.bool (((rget l x29).1).leaf)), kv58, dv59, vv60] 58), blk b41 (.cells #[(Value.bool (((rget l x29).1).leaf)), kv31, dv32, vv33] 36), own 9 1 kv31 ((((rget l x29).1).keys).length) ((((rget l x29).1).keys).flatMap strE), own 29 2 dv32 ((((rget l x29).1).kids).length) ((((rget l x29).1).kids).flatMap handleE), own 3 1 vv33 ((((rget l x29).1).vals).length) ((((rget l x29).1).vals).flatMap intE), own 61 2 v13 ((rused l).length) ((rused l).flatMap handleE), own 29 2 v10 ((rused l).length) ((rused l).flatMap handleE), blk b4 (.cells #[v] 47), arenaC 71 73 S ab l] [SlAt 1 kv58 (((rget l x29).1).keys).length ((((rget l x29).1).keys).flatMap strE), SlAt 2 dv59 (((rget l x29).1).kids).length ((((rget l x29).1).kids).flatMap handleE), SlAt 1 vv60 (((rget l x29).1).vals).length ((((rget l x29).1).vals).flatMap intE), SlAt 6 v l.length cs3, RepL RPlaceT cs3 l, RepS RPlaceT v l] (List.Sublist.cons_cons _ (List.Sublist.cons_cons _ (List.Sublist.cons_cons _ (List.Sublist.cons_cons _ (List.Sublist.cons_cons _ (List.Sublist.cons_cons _ (List.Sublist.cons_cons _ (List.Sublist.cons_cons _ (List.Sublist.cons_cons _ List.Sublist.slnil))))))))) (fun _ h => h) Try.mixed (by kernel_rfl) ?_
          refine TW.pure (v := v10) rfl (by decide) (by decide) rfl (fun w => (Step.move rfl)) ?_
          refine TW.pure (v := (Value.int .i64 ↑ia_)) rfl (by decide) (by decide) rfl (fun w => (Step.move rfl)) ?_
          refine TW.pure (v := (Value.pointer (some ⟨(sBlk v10), sOff v10 + ia_ * 2, none⟩))) rfl (by decide) (by decide) rfl (fun w => (Step.indexAddr (i := ia_) (Try.un26).run Try.el29.sized rfl rfl (by omega) hb27 (by omega))) ?_
          refine TW.read (v := (Value.agg #[(Value.int .i64 x29.at_), (Value.int .i64 x29.turn)])) rfl (by decide) (by decide) rfl (fun A w M => (Step.loadEN (k := 0) (cs' := [(Value.int .i64 x29.at_), (Value.int .i64 x29.turn)]) Try.ag29 (flat_ec (own_slAt (M.chunk 7 rfl).inv) hx29 handleE_len) (by decide) rfl rfl rfl)) ?_
          refine TW.callX (ι := Unit) (fun jx v_ => v_ = (Value.agg #[(Value.int .i64 x29.at_), (Value.int .i64 x29.turn)])) (fun jx => [blk b64 (.cells #[(Value.bool (((rget l x29).1).leaf)), kv58, dv59, vv60] 58), blk b41 (.cells #[(Value.bool (((rget l x29).1).leaf)), kv31, dv32, vv33] 36), own 9 1 kv31 ((((rget l x29).1).keys).length) ((((rget l x29).1).keys).flatMap strE), own 29 2 dv32 ((((rget l x29).1).kids).length) ((((rget l x29).1).kids).flatMap handleE), own 3 1 vv33 ((((rget l x29).1).vals).length) ((((rget l x29).1).vals).flatMap intE), own 61 2 v13 ((rused l).length) ((rused l).flatMap handleE), own 29 2 v10 ((rused l).length) ((rused l).flatMap handleE), blk b4 (.cells #[v] 47), arenaC 71 73 S ab l]) (fun jx => [SlAt 1 kv58 (((rget l x29).1).keys).length ((((rget l x29).1).keys).flatMap strE), SlAt 2 dv59 (((rget l x29).1).kids).length ((((rget l x29).1).kids).flatMap handleE), SlAt 1 vv60 (((rget l x29).1).vals).length ((((rget l x29).1).vals).flatMap intE), SlAt 6 v l.length cs3, RepL RPlaceT cs3 l, RepS RPlaceT v l]) rfl (by decide) rfl (fun jx => (List.Sublist.cons_cons _ (List.Sublist.cons_cons _ (List.Sublist.cons_cons _ (List.Sublist.cons_cons _ (List.Sublist.cons_cons _ (List.Sublist.cons_cons _ (List.Sublist.cons_cons _ (List.Sublist.cons_cons _ (List.Sublist.cons_cons _ List.Sublist.slnil)))))))))) (fun jx r h => h) (fun A w M => Rets.mono (law_handle x29 (M.enterW0 trivial)) (fun v_ w_ ⟨e_, m⟩ => ⟨(), e_, (M.leaveW0 m).sel (L' := [fl A, blk b64 (.cells #[(Value.bool (((rget l x29).1).leaf)), kv58, dv59, vv60] 58), blk b41 (.cells #[(Value.bool (((rget l x29).1).leaf)), kv31, dv32, vv33] 36), own 9 1 kv31 ((((rget l x29).1).keys).length) ((((rget l x29).1).keys).flatMap strE), own 29 2 dv32 ((((rget l x29).1).kids).length) ((((rget l x29).1).kids).flatMap handleE), own 3 1 vv33 ((((rget l x29).1).vals).length) ((((rget l x29).1).vals).flatMap intE), own 61 2 v13 ((rused l).length) ((rused l).flatMap handleE), own 29 2 v10 ((rused l).length) ((rused l).flatMap handleE), blk b4 (.cells #[v] 47), arenaC 71 73 S ab l]) [0, 1, 2, 3, 4, 5, 6, 7, 8, 9] rfl (by decide), fun b hb => M.keptW0 m (fl A) (List.mem_cons_self ..) b hb⟩)) (fun w => CallsF.func Try.en22 rfl) (fun jx v hp hin => ?_)
          replace hp := hp.symm; subst hp
          clear hin
          change TW _ _ _ _ _ _ _ _ (MemA _ _ _ [blk b64 (.cells #[(Value.bool (((rget l x29).1).leaf)), kv58, dv59, vv60] 58), blk b41 (.cells #[(Value.bool (((rget l x29).1).leaf)), kv31, dv32, vv33] 36), own 9 1 kv31 ((((rget l x29).1).keys).length) ((((rget l x29).1).keys).flatMap strE), own 29 2 dv32 ((((rget l x29).1).kids).length) ((((rget l x29).1).kids).flatMap handleE), own 3 1 vv33 ((((rget l x29).1).vals).length) ((((rget l x29).1).vals).flatMap intE), own 61 2 v13 ((rused l).length) ((rused l).flatMap handleE), own 29 2 v10 ((rused l).length) ((rused l).flatMap handleE), blk b4 (.cells #[v] 47), arenaC 71 73 S ab l] [SlAt 1 kv58 (((rget l x29).1).keys).length ((((rget l x29).1).keys).flatMap strE), SlAt 2 dv59 (((rget l x29).1).kids).length ((((rget l x29).1).kids).flatMap handleE), SlAt 1 vv60 (((rget l x29).1).vals).length ((((rget l x29).1).vals).flatMap intE), SlAt 6 v l.length cs3, RepL RPlaceT cs3 l, RepS RPlaceT v l])
          refine TW.pure (v := v13) rfl (by decide) (by decide) rfl (fun w => (Step.move rfl)) ?_
          refine TW.pure (v := (Value.int .i64 ↑ia_)) rfl (by decide) (by decide) rfl (fun w => (Step.move rfl)) ?_
          refine TW.pure (v := (Value.pointer (some ⟨(sBlk v13), sOff v13 + ia_ * 2, none⟩))) rfl (by decide) (by decide) rfl (fun w => (Step.indexAddr (i := ia_) (Try.un56).run Try.el61.sized rfl rfl (by omega) hb44 (by omega))) ?_
          refine TW.read (v := (Value.agg #[(Value.int .i64 x29.at_), (Value.int .i64 x29.turn)])) rfl (by decide) (by decide) rfl (fun A w M => (Step.loadEN (k := 0) (cs' := [(Value.int .i64 x29.at_), (Value.int .i64 x29.turn)]) Try.ag61 (flat_ec (own_slAt (M.chunk 6 rfl).inv) hx29 handleE_len) (by decide) rfl rfl rfl)) ?_
          refine TW.pure (v := (Value.bool false)) rfl (by decide) (by decide) rfl (fun w => (Step.cast (congrArg Value.bool (show (!(((x29.at_ : Int) == (x29.at_ : Int)) && (((x29.turn : Int) == (x29.turn : Int)) && true))) = false by simp)) (Step.neqAgg Try.eg61 rfl rfl rfl (Try.eq61 9998 (x29.at_ : Int) (x29.turn : Int) (x29.at_ : Int) (x29.turn : Int))))) ?_
          refine TW.pure (v := (Value.bool false)) rfl (by decide) (by decide) rfl (fun w => (Step.move rfl)) ?_
          refine TW.pure (v := (Value.int .i64 ((rget l x29).2))) rfl (by decide) (by decide) rfl (fun w => (Step.move rfl)) ?_
          refine TW.pure (v := (Value.bool false)) rfl (by decide) (by decide) rfl (fun w => (Step.cast (congrArg Value.bool h66) (Step.pure (by kernel_rfl)))) ?_
          refine TW.pure (v := (Value.bool false)) rfl (by decide) (by decide) rfl (fun w => (Step.pick (t := false) rfl rfl)) ?_
          refine TW.pure (v := (Value.bool false)) rfl (by decide) (by decide) rfl (fun w => (Step.move rfl)) ?_
          refine TW.read (v := (Value.agg #[(Value.bool (((rget l x29).1).leaf)), kv31, dv32, vv33])) rfl (by decide) (by decide) rfl (fun A w M => (Step.loadN Try.ag36 rfl (M.blk 2 rfl) (Nat.le_of_ble_eq_true rfl) rfl)) ?_
          refine TW.callX (ι := Value × Value × Value) (fun jx v_ => v_ = (Value.agg #[(Value.bool (((rget l x29).1).leaf)), jx.1, jx.2.1, jx.2.2])) (fun jx => [own 9 1 jx.1 ((((rget l x29).1).keys).length) ((((rget l x29).1).keys).flatMap strE), own 61 2 jx.2.1 ((((rget l x29).1).kids).length) ((((rget l x29).1).kids).flatMap handleE), own 3 1 jx.2.2 ((((rget l x29).1).vals).length) ((((rget l x29).1).vals).flatMap intE), blk b64 (.cells #[(Value.bool (((rget l x29).1).leaf)), kv58, dv59, vv60] 58), blk b41 (.cells #[(Value.bool (((rget l x29).1).leaf)), kv31, dv32, vv33] 36), own 9 1 kv31 ((((rget l x29).1).keys).length) ((((rget l x29).1).keys).flatMap strE), own 29 2 dv32 ((((rget l x29).1).kids).length) ((((rget l x29).1).kids).flatMap handleE), own 3 1 vv33 ((((rget l x29).1).vals).length) ((((rget l x29).1).vals).flatMap intE), own 61 2 v13 ((rused l).length) ((rused l).flatMap handleE), own 29 2 v10 ((rused l).length) ((rused l).flatMap handleE), blk b4 (.cells #[v] 47), arenaC 71 73 S ab l]) (fun jx => [SlAt 1 kv58 (((rget l x29).1).keys).length ((((rget l x29).1).keys).flatMap strE), SlAt 2 dv59 (((rget l x29).1).kids).length ((((rget l x29).1).kids).flatMap handleE), SlAt 1 vv60 (((rget l x29).1).vals).length ((((rget l x29).1).vals).flatMap intE), SlAt 6 v l.length cs3, RepL RPlaceT cs3 l, RepS RPlaceT v l]) rfl (by decide) rfl (fun jx => (List.Sublist.cons _ (List.Sublist.cons _ (List.Sublist.cons _ (List.Sublist.cons_cons _ (List.Sublist.cons_cons _ (List.Sublist.cons_cons _ (List.Sublist.cons_cons _ (List.Sublist.cons_cons _ (List.Sublist.cons_cons _ (List.Sublist.cons_cons _ (List.Sublist.cons_cons _ (List.Sublist.cons_cons _ List.Sublist.slnil))))))))))))) (fun jx r h => h) (fun A w M => Rets.mono (law_node kv31 dv32 vv33 ((rget l x29).1) (by first | omega | (simp only [List.length_nil, List.length_cons]; omega) | decide) (by first | omega | (simp only [List.length_nil, List.length_cons]; omega) | decide) (by first | omega | (simp only [List.length_nil, List.length_cons]; omega) | decide) (M.enterW0 ⟨((M.wideC0 3 rfl).imp fun _ h => own_slAt h), ((M.wideC0 4 rfl).imp fun _ h => own_slAt h), ((M.wideC0 5 rfl).imp fun _ h => own_slAt h), trivial⟩)) (fun v_ w_ ⟨kv73, dv74, vv75, e_, m⟩ => ⟨(kv73, dv74, vv75), e_, (M.leaveW0 m).sel (L' := [fl A, own 9 1 kv73 ((((rget l x29).1).keys).length) ((((rget l x29).1).keys).flatMap strE), own 61 2 dv74 ((((rget l x29).1).kids).length) ((((rget l x29).1).kids).flatMap handleE), own 3 1 vv75 ((((rget l x29).1).vals).length) ((((rget l x29).1).vals).flatMap intE), blk b64 (.cells #[(Value.bool (((rget l x29).1).leaf)), kv58, dv59, vv60] 58), blk b41 (.cells #[(Value.bool (((rget l x29).1).leaf)), kv31, dv32, vv33] 36), own 9 1 kv31 ((((rget l x29).1).keys).length) ((((rget l x29).1).keys).flatMap strE), own 29 2 dv32 ((((rget l x29).1).kids).length) ((((rget l x29).1).kids).flatMap handleE), own 3 1 vv33 ((((rget l x29).1).vals).length) ((((rget l x29).1).vals).flatMap intE), own 61 2 v13 ((rused l).length) ((rused l).flatMap handleE), own 29 2 v10 ((rused l).length) ((rused l).flatMap handleE), blk b4 (.cells #[v] 47), arenaC 71 73 S ab l]) [3, 0, 1, 2, 4, 5, 6, 7, 8, 9, 10, 11, 12] rfl (by decide), fun b hb => M.keptW0 m (fl A) (List.mem_cons_self ..) b hb⟩)) (fun w => CallsF.func Try.en24 rfl) (fun jx v hp hin => ?_)
          obtain ⟨kv73, dv74, vv75⟩ := jx
          replace hp := hp.symm; subst hp
          obtain ⟨_, _, hin⟩ := hin
          have sl76 : IsSl kv73 := SlAt.isSl (own_slAt (Mem.chunk hin 1 rfl).inv)
          have hle77 := SlAt.le' (own_slAt (Mem.chunk hin 1 rfl).inv)
          have sl78 : IsSl dv74 := SlAt.isSl (own_slAt (Mem.chunk hin 2 rfl).inv)
          have hle79 := SlAt.le' (own_slAt (Mem.chunk hin 2 rfl).inv)
          have sl80 : IsSl vv75 := SlAt.isSl (own_slAt (Mem.chunk hin 3 rfl).inv)
          have hle81 := SlAt.le' (own_slAt (Mem.chunk hin 3 rfl).inv)
          clear hin
          change TW _ _ _ _ _ _ _ _ (MemA _ _ _ [own 9 1 kv73 ((((rget l x29).1).keys).length) ((((rget l x29).1).keys).flatMap strE), own 61 2 dv74 ((((rget l x29).1).kids).length) ((((rget l x29).1).kids).flatMap handleE), own 3 1 vv75 ((((rget l x29).1).vals).length) ((((rget l x29).1).vals).flatMap intE), blk b64 (.cells #[(Value.bool (((rget l x29).1).leaf)), kv58, dv59, vv60] 58), blk b41 (.cells #[(Value.bool (((rget l x29).1).leaf)), kv31, dv32, vv33] 36), own 9 1 kv31 ((((rget l x29).1).keys).length) ((((rget l x29).1).keys).flatMap strE), own 29 2 dv32 ((((rget l x29).1).kids).length) ((((rget l x29).1).kids).flatMap handleE), own 3 1 vv33 ((((rget l x29).1).vals).length) ((((rget l x29).1).vals).flatMap intE), own 61 2 v13 ((rused l).length) ((rused l).flatMap handleE), own 29 2 v10 ((rused l).length) ((rused l).flatMap handleE), blk b4 (.cells #[v] 47), arenaC 71 73 S ab l] [SlAt 1 kv58 (((rget l x29).1).keys).length ((((rget l x29).1).keys).flatMap strE), SlAt 2 dv59 (((rget l x29).1).kids).length ((((rget l x29).1).kids).flatMap handleE), SlAt 1 vv60 (((rget l x29).1).vals).length ((((rget l x29).1).vals).flatMap intE), SlAt 6 v l.length cs3, RepL RPlaceT cs3 l, RepS RPlaceT v l])
          refine TW.read (v := (Value.agg #[(Value.bool (((rget l x29).1).leaf)), kv58, dv59, vv60])) rfl (by decide) (by decide) rfl (fun A w M => (Step.loadN Try.ag58 rfl (M.blk 1 rfl) (Nat.le_of_ble_eq_true rfl) rfl)) ?_
          refine TW.callX (ι := Unit) (fun jx v_ => v_ = (Value.bool (nodeEq ((rget l x29).1) ((rget l x29).1)))) (fun jx => [own 9 1 kv73 ((((rget l x29).1).keys).length) ((((rget l x29).1).keys).flatMap strE), own 61 2 dv74 ((((rget l x29).1).kids).length) ((((rget l x29).1).kids).flatMap handleE), own 3 1 vv75 ((((rget l x29).1).vals).length) ((((rget l x29).1).vals).flatMap intE), blk b64 (.cells #[(Value.bool (((rget l x29).1).leaf)), kv58, dv59, vv60] 58), blk b41 (.cells #[(Value.bool (((rget l x29).1).leaf)), kv31, dv32, vv33] 36), own 9 1 kv31 ((((rget l x29).1).keys).length) ((((rget l x29).1).keys).flatMap strE), own 29 2 dv32 ((((rget l x29).1).kids).length) ((((rget l x29).1).kids).flatMap handleE), own 3 1 vv33 ((((rget l x29).1).vals).length) ((((rget l x29).1).vals).flatMap intE), own 61 2 v13 ((rused l).length) ((rused l).flatMap handleE), own 29 2 v10 ((rused l).length) ((rused l).flatMap handleE), blk b4 (.cells #[v] 47), arenaC 71 73 S ab l]) (fun jx => [SlAt 1 kv58 (((rget l x29).1).keys).length ((((rget l x29).1).keys).flatMap strE), SlAt 2 dv59 (((rget l x29).1).kids).length ((((rget l x29).1).kids).flatMap handleE), SlAt 1 vv60 (((rget l x29).1).vals).length ((((rget l x29).1).vals).flatMap intE), SlAt 6 v l.length cs3, RepL RPlaceT cs3 l, RepS RPlaceT v l]) rfl (by decide) rfl (fun jx => (List.Sublist.cons _ (List.Sublist.cons _ (List.Sublist.cons _ (List.Sublist.cons_cons _ (List.Sublist.cons_cons _ (List.Sublist.cons_cons _ (List.Sublist.cons_cons _ (List.Sublist.cons_cons _ (List.Sublist.cons_cons _ (List.Sublist.cons_cons _ (List.Sublist.cons_cons _ (List.Sublist.cons_cons _ List.Sublist.slnil))))))))))))) (fun jx r h => h) (fun A w M => Rets.mono (ref_same kv73 dv74 vv75 ((rget l x29).1) kv58 dv59 vv60 ((rget l x29).1) (M.enterW0 ⟨((M.wideC0 1 rfl).imp fun _ h => own_slAt h), ((M.wideC0 2 rfl).imp fun _ h => own_slAt h), ((M.wideC0 3 rfl).imp fun _ h => own_slAt h), (M.wideR0 0 rfl), (M.wideR0 1 rfl), (M.wideR0 2 rfl), trivial⟩)) (fun v_ w_ ⟨e_, m⟩ => ⟨(), e_, (M.leaveW0 m).sel (L' := [fl A, own 9 1 kv73 ((((rget l x29).1).keys).length) ((((rget l x29).1).keys).flatMap strE), own 61 2 dv74 ((((rget l x29).1).kids).length) ((((rget l x29).1).kids).flatMap handleE), own 3 1 vv75 ((((rget l x29).1).vals).length) ((((rget l x29).1).vals).flatMap intE), blk b64 (.cells #[(Value.bool (((rget l x29).1).leaf)), kv58, dv59, vv60] 58), blk b41 (.cells #[(Value.bool (((rget l x29).1).leaf)), kv31, dv32, vv33] 36), own 9 1 kv31 ((((rget l x29).1).keys).length) ((((rget l x29).1).keys).flatMap strE), own 29 2 dv32 ((((rget l x29).1).kids).length) ((((rget l x29).1).kids).flatMap handleE), own 3 1 vv33 ((((rget l x29).1).vals).length) ((((rget l x29).1).vals).flatMap intE), own 61 2 v13 ((rused l).length) ((rused l).flatMap handleE), own 29 2 v10 ((rused l).length) ((rused l).flatMap handleE), blk b4 (.cells #[v] 47), arenaC 71 73 S ab l]) [0, 1, 2, 3, 4, 5, 6, 7, 8, 9, 10, 11, 12] rfl (by decide), fun b hb => M.keptW0 m (fl A) (List.mem_cons_self ..) b hb⟩)) (fun w => CallsF.func Try.en23 rfl) (fun jx v hp hin => ?_)
          replace hp := hp.symm; subst hp
          clear hin
          change TW _ _ _ _ _ _ _ _ (MemA _ _ _ [own 9 1 kv73 ((((rget l x29).1).keys).length) ((((rget l x29).1).keys).flatMap strE), own 61 2 dv74 ((((rget l x29).1).kids).length) ((((rget l x29).1).kids).flatMap handleE), own 3 1 vv75 ((((rget l x29).1).vals).length) ((((rget l x29).1).vals).flatMap intE), blk b64 (.cells #[(Value.bool (((rget l x29).1).leaf)), kv58, dv59, vv60] 58), blk b41 (.cells #[(Value.bool (((rget l x29).1).leaf)), kv31, dv32, vv33] 36), own 9 1 kv31 ((((rget l x29).1).keys).length) ((((rget l x29).1).keys).flatMap strE), own 29 2 dv32 ((((rget l x29).1).kids).length) ((((rget l x29).1).kids).flatMap handleE), own 3 1 vv33 ((((rget l x29).1).vals).length) ((((rget l x29).1).vals).flatMap intE), own 61 2 v13 ((rused l).length) ((rused l).flatMap handleE), own 29 2 v10 ((rused l).length) ((rused l).flatMap handleE), blk b4 (.cells #[v] 47), arenaC 71 73 S ab l] [SlAt 1 kv58 (((rget l x29).1).keys).length ((((rget l x29).1).keys).flatMap strE), SlAt 2 dv59 (((rget l x29).1).kids).length ((((rget l x29).1).kids).flatMap handleE), SlAt 1 vv60 (((rget l x29).1).vals).length ((((rget l x29).1).vals).flatMap intE), SlAt 6 v l.length cs3, RepL RPlaceT cs3 l, RepS RPlaceT v l])
          rw [hh30n]
          refine TW.pure (v := (Value.bool false)) rfl (by decide) (by decide) rfl (fun w => (Step.pure (by kernel_rfl))) ?_
          refine TW.pure (v := (Value.bool false)) rfl (by decide) (by decide) rfl (fun w => (Step.pick (t := false) rfl rfl)) ?_
          refine TW.pure (v := (Value.bool false)) rfl (by decide) (by decide) rfl (fun w => (Step.move rfl)) ?_
          refine TW.pure (v := (Value.pointer (some ⟨ab, 0, none⟩))) rfl (by decide) (by decide) rfl (fun w => (Step.move rfl)) ?_
          refine TW.pure (v := v10) rfl (by decide) (by decide) rfl (fun w => (Step.move rfl)) ?_
          refine TW.pure (v := (Value.int .i64 ↑ia_)) rfl (by decide) (by decide) rfl (fun w => (Step.move rfl)) ?_
          refine TW.pure (v := (Value.pointer (some ⟨(sBlk v10), sOff v10 + ia_ * 2, none⟩))) rfl (by decide) (by decide) rfl (fun w => (Step.indexAddr (i := ia_) (Try.un26).run Try.el29.sized rfl rfl (by omega) hb27 (by omega))) ?_
          refine TW.read (v := (Value.agg #[(Value.int .i64 x29.at_), (Value.int .i64 x29.turn)])) rfl (by decide) (by decide) rfl (fun A w M => (Step.loadEN (k := 0) (cs' := [(Value.int .i64 x29.at_), (Value.int .i64 x29.turn)]) Try.ag29 (flat_ec (own_slAt (M.chunk 7 rfl).inv) hx29 handleE_len) (by decide) rfl rfl rfl)) ?_
          refine TW.callX (ι := Unit) (fun jx v_ => v_ = (Value.bool (rhas l x29))) (fun jx => [own 9 1 kv73 ((((rget l x29).1).keys).length) ((((rget l x29).1).keys).flatMap strE), own 61 2 dv74 ((((rget l x29).1).kids).length) ((((rget l x29).1).kids).flatMap handleE), own 3 1 vv75 ((((rget l x29).1).vals).length) ((((rget l x29).1).vals).flatMap intE), blk b64 (.cells #[(Value.bool (((rget l x29).1).leaf)), kv58, dv59, vv60] 58), blk b41 (.cells #[(Value.bool (((rget l x29).1).leaf)), kv31, dv32, vv33] 36), own 9 1 kv31 ((((rget l x29).1).keys).length) ((((rget l x29).1).keys).flatMap strE), own 29 2 dv32 ((((rget l x29).1).kids).length) ((((rget l x29).1).kids).flatMap handleE), own 3 1 vv33 ((((rget l x29).1).vals).length) ((((rget l x29).1).vals).flatMap intE), own 61 2 v13 ((rused l).length) ((rused l).flatMap handleE), own 29 2 v10 ((rused l).length) ((rused l).flatMap handleE), blk b4 (.cells #[v] 47), arenaC 71 73 S ab l]) (fun jx => [SlAt 1 kv58 (((rget l x29).1).keys).length ((((rget l x29).1).keys).flatMap strE), SlAt 2 dv59 (((rget l x29).1).kids).length ((((rget l x29).1).kids).flatMap handleE), SlAt 1 vv60 (((rget l x29).1).vals).length ((((rget l x29).1).vals).flatMap intE), SlAt 6 v l.length cs3, RepL RPlaceT cs3 l, RepS RPlaceT v l]) rfl (by decide) rfl (fun jx => (List.Sublist.cons _ (List.Sublist.cons _ (List.Sublist.cons _ (List.Sublist.cons_cons _ (List.Sublist.cons_cons _ (List.Sublist.cons_cons _ (List.Sublist.cons_cons _ (List.Sublist.cons_cons _ (List.Sublist.cons_cons _ (List.Sublist.cons_cons _ (List.Sublist.cons_cons _ (List.Sublist.cons_cons _ List.Sublist.slnil))))))))))))) (fun jx r h => h) (fun A w M => Rets.mono (ar_has_p ab l S x29 (M.enterW (C := [arenaC 71 73 S ab l]) (D := [fl A, own 9 1 kv73 ((((rget l x29).1).keys).length) ((((rget l x29).1).keys).flatMap strE), own 61 2 dv74 ((((rget l x29).1).kids).length) ((((rget l x29).1).kids).flatMap handleE), own 3 1 vv75 ((((rget l x29).1).vals).length) ((((rget l x29).1).vals).flatMap intE), blk b64 (.cells #[(Value.bool (((rget l x29).1).leaf)), kv58, dv59, vv60] 58), blk b41 (.cells #[(Value.bool (((rget l x29).1).leaf)), kv31, dv32, vv33] 36), own 9 1 kv31 ((((rget l x29).1).keys).length) ((((rget l x29).1).keys).flatMap strE), own 29 2 dv32 ((((rget l x29).1).kids).length) ((((rget l x29).1).kids).flatMap handleE), own 3 1 vv33 ((((rget l x29).1).vals).length) ((((rget l x29).1).vals).flatMap intE), own 61 2 v13 ((rused l).length) ((rused l).flatMap handleE), own 29 2 v10 ((rused l).length) ((rused l).flatMap handleE), blk b4 (.cells #[v] 47)]) [12, 0, 1, 2, 3, 4, 5, 6, 7, 8, 9, 10, 11] rfl (by decide) trivial)) (fun v_ w_ ⟨e_, m⟩ => ⟨(), e_, (M.leaveW (C := [arenaC 71 73 S ab l]) (D := [fl A, own 9 1 kv73 ((((rget l x29).1).keys).length) ((((rget l x29).1).keys).flatMap strE), own 61 2 dv74 ((((rget l x29).1).kids).length) ((((rget l x29).1).kids).flatMap handleE), own 3 1 vv75 ((((rget l x29).1).vals).length) ((((rget l x29).1).vals).flatMap intE), blk b64 (.cells #[(Value.bool (((rget l x29).1).leaf)), kv58, dv59, vv60] 58), blk b41 (.cells #[(Value.bool (((rget l x29).1).leaf)), kv31, dv32, vv33] 36), own 9 1 kv31 ((((rget l x29).1).keys).length) ((((rget l x29).1).keys).flatMap strE), own 29 2 dv32 ((((rget l x29).1).kids).length) ((((rget l x29).1).kids).flatMap handleE), own 3 1 vv33 ((((rget l x29).1).vals).length) ((((rget l x29).1).vals).flatMap intE), own 61 2 v13 ((rused l).length) ((rused l).flatMap handleE), own 29 2 v10 ((rused l).length) ((rused l).flatMap handleE), blk b4 (.cells #[v] 47)]) [12, 0, 1, 2, 3, 4, 5, 6, 7, 8, 9, 10, 11] rfl (by decide) m).sel (L' := [fl A, own 9 1 kv73 ((((rget l x29).1).keys).length) ((((rget l x29).1).keys).flatMap strE), own 61 2 dv74 ((((rget l x29).1).kids).length) ((((rget l x29).1).kids).flatMap handleE), own 3 1 vv75 ((((rget l x29).1).vals).length) ((((rget l x29).1).vals).flatMap intE), blk b64 (.cells #[(Value.bool (((rget l x29).1).leaf)), kv58, dv59, vv60] 58), blk b41 (.cells #[(Value.bool (((rget l x29).1).leaf)), kv31, dv32, vv33] 36), own 9 1 kv31 ((((rget l x29).1).keys).length) ((((rget l x29).1).keys).flatMap strE), own 29 2 dv32 ((((rget l x29).1).kids).length) ((((rget l x29).1).kids).flatMap handleE), own 3 1 vv33 ((((rget l x29).1).vals).length) ((((rget l x29).1).vals).flatMap intE), own 61 2 v13 ((rused l).length) ((rused l).flatMap handleE), own 29 2 v10 ((rused l).length) ((rused l).flatMap handleE), blk b4 (.cells #[v] 47), arenaC 71 73 S ab l]) [1, 2, 3, 4, 5, 6, 7, 8, 9, 10, 11, 12, 0] rfl (by decide), fun b hb => M.keptW (C := [arenaC 71 73 S ab l]) (D := [fl A, own 9 1 kv73 ((((rget l x29).1).keys).length) ((((rget l x29).1).keys).flatMap strE), own 61 2 dv74 ((((rget l x29).1).kids).length) ((((rget l x29).1).kids).flatMap handleE), own 3 1 vv75 ((((rget l x29).1).vals).length) ((((rget l x29).1).vals).flatMap intE), blk b64 (.cells #[(Value.bool (((rget l x29).1).leaf)), kv58, dv59, vv60] 58), blk b41 (.cells #[(Value.bool (((rget l x29).1).leaf)), kv31, dv32, vv33] 36), own 9 1 kv31 ((((rget l x29).1).keys).length) ((((rget l x29).1).keys).flatMap strE), own 29 2 dv32 ((((rget l x29).1).kids).length) ((((rget l x29).1).kids).flatMap handleE), own 3 1 vv33 ((((rget l x29).1).vals).length) ((((rget l x29).1).vals).flatMap intE), own 61 2 v13 ((rused l).length) ((rused l).flatMap handleE), own 29 2 v10 ((rused l).length) ((rused l).flatMap handleE), blk b4 (.cells #[v] 47)]) [12, 0, 1, 2, 3, 4, 5, 6, 7, 8, 9, 10, 11] rfl (by decide) m (fl A) (List.mem_cons_self ..) b hb⟩)) (fun w => CallsF.func Try.en16 rfl) (fun jx v hp hin => ?_)
          replace hp := hp.symm; subst hp
          clear hin
          change TW _ _ _ _ _ _ _ _ (MemA _ _ _ [own 9 1 kv73 ((((rget l x29).1).keys).length) ((((rget l x29).1).keys).flatMap strE), own 61 2 dv74 ((((rget l x29).1).kids).length) ((((rget l x29).1).kids).flatMap handleE), own 3 1 vv75 ((((rget l x29).1).vals).length) ((((rget l x29).1).vals).flatMap intE), blk b64 (.cells #[(Value.bool (((rget l x29).1).leaf)), kv58, dv59, vv60] 58), blk b41 (.cells #[(Value.bool (((rget l x29).1).leaf)), kv31, dv32, vv33] 36), own 9 1 kv31 ((((rget l x29).1).keys).length) ((((rget l x29).1).keys).flatMap strE), own 29 2 dv32 ((((rget l x29).1).kids).length) ((((rget l x29).1).kids).flatMap handleE), own 3 1 vv33 ((((rget l x29).1).vals).length) ((((rget l x29).1).vals).flatMap intE), own 61 2 v13 ((rused l).length) ((rused l).flatMap handleE), own 29 2 v10 ((rused l).length) ((rused l).flatMap handleE), blk b4 (.cells #[v] 47), arenaC 71 73 S ab l] [SlAt 1 kv58 (((rget l x29).1).keys).length ((((rget l x29).1).keys).flatMap strE), SlAt 2 dv59 (((rget l x29).1).kids).length ((((rget l x29).1).kids).flatMap handleE), SlAt 1 vv60 (((rget l x29).1).vals).length ((((rget l x29).1).vals).flatMap intE), SlAt 6 v l.length cs3, RepL RPlaceT cs3 l, RepS RPlaceT v l])
          rw [hh30]
          refine TW.pure (v := (Value.bool false)) rfl (by decide) (by decide) rfl (fun w => (Step.pure (by kernel_rfl))) ?_
          refine TW.pure (v := (Value.bool false)) rfl (by decide) (by decide) rfl (fun w => (Step.pick (t := false) rfl rfl)) ?_
          refine TW.done (fun w82 M => ?_)
          refine W.cond (t := false) rfl (fun h => by cases h) (fun _ => ?_)
          refine W.skip ?_
          refine W.region rfl ?_
          refine WL.step (v := (Value.agg #[(Value.bool (((rget l x29).1).leaf)), kv31, dv32, vv33])) rfl (Step.loadN Try.ag36 rfl (M.blk 4 rfl) (Nat.le_of_ble_eq_true rfl) rfl) ?_
          refine WL.callX rfl (law_spoil kv31 dv32 vv33 ((rget l x29).1) (M.enterW (C := [own 9 1 kv31 ((((rget l x29).1).keys).length) ((((rget l x29).1).keys).flatMap strE), own 29 2 dv32 ((((rget l x29).1).kids).length) ((((rget l x29).1).kids).flatMap handleE), own 3 1 vv33 ((((rget l x29).1).vals).length) ((((rget l x29).1).vals).flatMap intE)]) (D := [own 9 1 kv73 ((((rget l x29).1).keys).length) ((((rget l x29).1).keys).flatMap strE), own 61 2 dv74 ((((rget l x29).1).kids).length) ((((rget l x29).1).kids).flatMap handleE), own 3 1 vv75 ((((rget l x29).1).vals).length) ((((rget l x29).1).vals).flatMap intE), blk b64 (.cells #[(Value.bool (((rget l x29).1).leaf)), kv58, dv59, vv60] 58), blk b41 (.cells #[(Value.bool (((rget l x29).1).leaf)), kv31, dv32, vv33] 36), own 61 2 v13 ((rused l).length) ((rused l).flatMap handleE), own 29 2 v10 ((rused l).length) ((rused l).flatMap handleE), blk b4 (.cells #[v] 47), arenaC 71 73 S ab l]) [5, 6, 7, 0, 1, 2, 3, 4, 8, 9, 10, 11] rfl (by decide) trivial)) (CallsF.func Try.en33 rfl) ?_
          rintro _ w83 ⟨rfl, m⟩
          replace M := M.leaveW (C := [own 9 1 kv31 ((((rget l x29).1).keys).length) ((((rget l x29).1).keys).flatMap strE), own 29 2 dv32 ((((rget l x29).1).kids).length) ((((rget l x29).1).kids).flatMap handleE), own 3 1 vv33 ((((rget l x29).1).vals).length) ((((rget l x29).1).vals).flatMap intE)]) (D := [own 9 1 kv73 ((((rget l x29).1).keys).length) ((((rget l x29).1).keys).flatMap strE), own 61 2 dv74 ((((rget l x29).1).kids).length) ((((rget l x29).1).kids).flatMap handleE), own 3 1 vv75 ((((rget l x29).1).vals).length) ((((rget l x29).1).vals).flatMap intE), blk b64 (.cells #[(Value.bool (((rget l x29).1).leaf)), kv58, dv59, vv60] 58), blk b41 (.cells #[(Value.bool (((rget l x29).1).leaf)), kv31, dv32, vv33] 36), own 61 2 v13 ((rused l).length) ((rused l).flatMap handleE), own 29 2 v10 ((rused l).length) ((rused l).flatMap handleE), blk b4 (.cells #[v] 47), arenaC 71 73 S ab l]) [5, 6, 7, 0, 1, 2, 3, 4, 8, 9, 10, 11] rfl (by decide) m
          clear m
          replace M : Mem _ _ _ [own 9 1 kv73 ((((rget l x29).1).keys).length) ((((rget l x29).1).keys).flatMap strE), own 61 2 dv74 ((((rget l x29).1).kids).length) ((((rget l x29).1).kids).flatMap handleE), own 3 1 vv75 ((((rget l x29).1).vals).length) ((((rget l x29).1).vals).flatMap intE), blk b64 (.cells #[(Value.bool (((rget l x29).1).leaf)), kv58, dv59, vv60] 58), blk b41 (.cells #[(Value.bool (((rget l x29).1).leaf)), kv31, dv32, vv33] 36), own 61 2 v13 ((rused l).length) ((rused l).flatMap handleE), own 29 2 v10 ((rused l).length) ((rused l).flatMap handleE), blk b4 (.cells #[v] 47), arenaC 71 73 S ab l] [SlAt 1 kv58 (((rget l x29).1).keys).length ((((rget l x29).1).keys).flatMap strE), SlAt 2 dv59 (((rget l x29).1).kids).length ((((rget l x29).1).kids).flatMap handleE), SlAt 1 vv60 (((rget l x29).1).vals).length ((((rget l x29).1).vals).flatMap intE), SlAt 6 v l.length cs3, RepL RPlaceT cs3 l, RepS RPlaceT v l] _ := M
          refine WL.nil ?_
          refine W.region rfl ?_
          refine WL.step (v := (Value.int .i64 ↑ib_)) rfl (Step.move rfl) ?_
          refine WL.step (v := (Value.int .i64 (↑ib_ + 1))) rfl (Step.add rfl rfl (wrap_i64 (by omega))) ?_
          refine WL.step (v := (Value.int .i64 (↑ib_ + 1))) rfl (Step.assign rfl) ?_
          refine WL.nil ?_
          replace M := M.sel (L' := [own 61 2 v13 ((rused l).length) ((rused l).flatMap handleE), own 29 2 v10 ((rused l).length) ((rused l).flatMap handleE), blk b4 (.cells #[v] 47), arenaC 71 73 S ab l]) [5, 6, 7, 8] rfl (by decide)
          replace M := M.sub (List.Sublist.refl _) (R' := [SlAt 6 v l.length cs3, RepL RPlaceT cs3 l, RepS RPlaceT v l]) (fun r h => (List.mem_cons_of_mem _ (List.mem_cons_of_mem _ (List.mem_cons_of_mem _ h))))
          exact ⟨_, (by omega), ib_ + 1, ⟨(by omega), rfl⟩, ⟨rfl, rfl, rfl, rfl, rfl, rfl, rfl, rfl, rfl, rfl, trivial⟩, M⟩
      ·
        have h26p := of_decide_eq_false h26
        refine W.exit ?_
        refine thn_exit ?_
        refine thn_exit ?_
        refine inBlk_hit ?_
        refine W.region rfl ?_
        refine WL.step (v := (Value.int .i64 ↑ia_)) rfl (Step.move rfl) ?_
        refine WL.step (v := (Value.int .i64 (↑ia_ + 1))) rfl (Step.add rfl rfl (wrap_i64 (by omega))) ?_
        refine WL.step (v := (Value.int .i64 (↑ia_ + 1))) rfl (Step.assign rfl) ?_
        refine WL.nil ?_
        exact ⟨_, (by omega), ia_ + 1, ⟨(by omega), rfl⟩, ⟨rfl, rfl, rfl, rfl, rfl, trivial⟩, M⟩
    ·
      have h22p := of_decide_eq_false h22
      refine W.exit ?_
      refine thn_exit ?_
      refine thn_exit ?_
      refine inBlk_hit ?_
      refine W.seq' ?_
      refine W.region rfl ?_
      refine WL.step (v := (Value.bool true)) rfl (Step.assign rfl) ?_
      refine WL.nil ?_
      refine W.ret ?_
      refine ⟨.inl rfl, (Value.bool true), ?_, ?_⟩
      · exact (Res.r1 (show RV _ _ _ (.tmp 4) (Value.bool true) from by exact rfl))
      refine ⟨?_, M.close [3] rfl (by decide) trivial⟩
      rfl
end Go.Proofs
