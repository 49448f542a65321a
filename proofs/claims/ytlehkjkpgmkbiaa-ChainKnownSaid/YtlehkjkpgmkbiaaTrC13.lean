/- Walks. -/
import Derived.Test.YtlehkjkpgmkbiaaTrC12
set_option maxRecDepth 100000
set_option linter.all false
namespace Go.Proofs
open Go Tp
theorem Try.en23 : Enters Try.prog 23 := fun _ _ => by kernel_rfl
theorem Try.en24 : Enters Try.prog 24 := fun _ _ => by kernel_rfl
theorem Try.en27 : Enters Try.prog 27 := fun _ _ => by kernel_rfl
theorem Try.en28 : Enters Try.prog 28 := fun _ _ => by kernel_rfl
theorem Try.en30 : Enters Try.prog 30 := fun _ _ => by kernel_rfl
theorem Try.en33 : Enters Try.prog 33 := fun _ _ => by kernel_rfl

theorem law_tells {G : Nat → Prop} {w : World} (v : Value) (l : List Ver) (a : Int) (b : Int)   (M : Mem G (fun _ => False) w [] [SlAt 6 v l.length (l.flatMap verE)] w) : Rets Try.prog 4 #[v, (Value.int .u64 a), (Value.int .u64 b)] w fun r w' => r = (Value.bool true) ∧ Mem G (fun _ => False) w [] [] w' := by
  refine Rets.enter 170 _ Try.func4 rfl Try.ntmps4 Try.results4 (by simp) ?_
  have hle1 := SlAt.le' (M.rep 0 rfl)
  have sl2 : IsSl v := SlAt.isSl (Mem.rep M 0 rfl)
  refine W.seq' ?_
  refine W.region rfl ?_
  refine WL.step (v := (Value.bool false)) rfl (Step.assign rfl) ?_
  refine WL.nil ?_
  refine W.seq' ?_
  refine W.seq' ?_
  refine W.region rfl ?_
  refine WL.step (v := v) rfl (Step.move rfl) ?_
  refine WL.step (v := (Value.int .i64 ↑l.length)) rfl (Step.lenSl Try.un22 rfl (M.rep 0 rfl)) ?_
  refine WL.step (v := (Value.bool (decide ((↑l.length : Int) > (20 : Int))))) rfl (Step.pure (by kernel_rfl)) ?_
  refine WL.nil ?_
  refine W.cond (t := decide ((↑l.length : Int) > (20 : Int))) rfl (fun h3 => ?_) (fun h3 => ?_)
  ·
    have h3p := of_decide_eq_true h3
    refine W.seq' ?_
    refine W.region rfl ?_
    refine WL.callX rfl (law_works  (M.enterW0 trivial)) (CallsF.func Try.en16 rfl) ?_
    rintro _ w4 ⟨rfl, m⟩
    replace M := M.leaveW0 m
    clear m
    replace M : Mem _ _ _ [] [SlAt 6 v l.length (l.flatMap verE)] _ := M
    refine WL.step (v := (Value.bool true)) rfl (Step.assign rfl) ?_
    refine WL.nil ?_
    refine W.ret ?_
    refine ⟨.inl rfl, (Value.bool true), ?_, ?_⟩
    · exact ⟨rfl, (Res.r1 (show RV _ _ _ (.tmp 6) (Value.bool true) from by exact rfl))⟩
    refine ⟨?_, M.close [] rfl (by decide) trivial⟩
    rfl
  ·
    have h3p := of_decide_eq_false h3
    refine W.skip ?_
    refine W.seq' ?_
    refine W.region rfl ?_
    refine WL.step (v := v) rfl (Step.move rfl) ?_
    refine WL.callX rfl (law_refs v l (by first | omega | assumption | decide | (simp only [List.length_nil, List.length_cons, List.length_take, List.length_drop]; omega)) (M.enterW0 ⟨(M.wideR0 0 rfl), trivial⟩)) (CallsF.func Try.en22 rfl) ?_
    rintro v5 w6 ⟨_, rfl, m⟩
    replace M := M.leaveW0 m
    clear m
    replace M : Mem _ _ _ [own 51 6 v5 l.length (l.flatMap verE)] [SlAt 6 v l.length (l.flatMap verE)] _ := M
    have sl7 : IsSl v5 := SlAt.isSl (own_slAt (Mem.chunk M 0 rfl).inv)
    have hle8 := SlAt.le' (own_slAt (Mem.chunk M 0 rfl).inv)
    refine WL.step (v := v5) rfl (Step.assign rfl) ?_
    refine WL.nil ?_
    refine W.seq' ?_
    refine W.region rfl ?_
    refine WL.step (v := v) rfl (Step.move rfl) ?_
    refine WL.callX rfl (law_own v l (by first | omega | assumption | decide | (simp only [List.length_nil, List.length_cons, List.length_take, List.length_drop]; omega)) (M.enterW0 ⟨(M.wideR0 0 rfl), trivial⟩)) (CallsF.func Try.en23 rfl) ?_
    rintro v9 w10 ⟨_, rfl, m⟩
    replace M := M.leaveW0 m
    clear m
    replace M : Mem _ _ _ [own 34 6 v9 l.length (l.flatMap verE), own 51 6 v5 l.length (l.flatMap verE)] [SlAt 6 v l.length (l.flatMap verE)] _ := M
    have sl11 : IsSl v9 := SlAt.isSl (own_slAt (Mem.chunk M 0 rfl).inv)
    have hle12 := SlAt.le' (own_slAt (Mem.chunk M 0 rfl).inv)
    refine WL.step (v := v9) rfl (Step.assign rfl) ?_
    refine WL.nil ?_
    refine W.seq' ?_
    refine W.region rfl ?_
    refine WL.step (v := v9) rfl (Step.move rfl) ?_
    rcases Bool.eq_false_or_eq_true (chainB l) with h13 | h13
    ·
      have hcl : chainP l := chainB_iff.1 h13
      refine WL.callX rfl (ch_of v9 l (by first | omega | assumption | decide | (simp only [List.length_nil, List.length_cons, List.length_take, List.length_drop]; omega)) h13 (M.enterW0 ⟨((M.wideC0 0 rfl).imp fun _ h => own_slAt h), trivial⟩)) (CallsF.func Try.en17 rfl) ?_
      rintro _ w16 ⟨cb14, v15, rfl, m⟩
      replace M := M.leaveW0 m
      clear m
      replace M : Mem _ _ _ [blk cb14 (.cells #[v15] 135), own 34 6 v15 l.length (l.flatMap verE), own 34 6 v9 l.length (l.flatMap verE), own 51 6 v5 l.length (l.flatMap verE)] [SlAt 6 v l.length (l.flatMap verE)] _ := M
      have sl17 : IsSl v15 := SlAt.isSl (own_slAt (Mem.chunk M 1 rfl).inv)
      have hle18 := SlAt.le' (own_slAt (Mem.chunk M 1 rfl).inv)
      refine WL.step (v := (Value.tuple #[(Value.pointer (some ⟨cb14, 0, none⟩)), (Value.int .i64 0)])) rfl (Step.move rfl) ?_
      refine WL.step (v := (Value.pointer (some ⟨cb14, 0, none⟩))) rfl (Step.pure (by kernel_rfl)) ?_
      refine WL.step (v := (Value.int .i64 0)) rfl (Step.pure (by kernel_rfl)) ?_
      refine WL.step (v := (Value.pointer (some ⟨cb14, 0, none⟩))) rfl (Step.assign rfl) ?_
      refine WL.step (v := (Value.int .i64 0)) rfl (Step.assign rfl) ?_
      refine WL.nil ?_
      refine W.seq' ?_
      refine W.seq' ?_
      refine W.region rfl ?_
      refine WL.step (v := (Value.int .i64 0)) rfl (Step.assign rfl) ?_
      refine WL.nil ?_
      refine W.block ?_
      refine W.loop (fun kk ρ w' => ∃ (i_ : Nat) (ys_ : List Ver), ((ys_.length = l.length) ∧ (i_ ≤ l.length) ∧ kk = l.length - i_) ∧ ρ.has [(0, v), (1, (Value.int .u64 a)), (2, (Value.int .u64 b)), (6, (Value.bool false)), (7, v5), (8, v9), (9, (Value.pointer (some ⟨cb14, 0, none⟩))), (10, (Value.int .i64 0)), (11, (Value.int .i64 ↑i_))] ∧ Mem G (fun _ => False) w [blk cb14 (.cells #[v15] 135), own 34 6 v15 l.length (l.flatMap verE), own 34 6 v9 ys_.length (ys_.flatMap verE), own 51 6 v5 l.length (l.flatMap verE)] [SlAt 6 v l.length (l.flatMap verE)]  w') _ ⟨0, l, ⟨(by first | rfl | simp), (Nat.zero_le _), rfl⟩, ⟨rfl, rfl, rfl, rfl, rfl, rfl, rfl, rfl, rfl, rfl, rfl⟩, M⟩ ?_
      rintro _ ρ20 w19 ⟨i_, ys_, ⟨hi21, hi22, rfl⟩, hρ, M⟩
      obtain ⟨ρ20, rfl⟩ := hρ.know
      clear hρ
      refine W.seq' ?_
      refine W.seq' ?_
      refine W.region rfl ?_
      refine WL.step (v := (Value.int .i64 ↑i_)) rfl (Step.move rfl) ?_
      refine WL.step (v := v9) rfl (Step.move rfl) ?_
      refine WL.step (v := (Value.int .i64 ↑ys_.length)) rfl (Step.lenSl Try.un22 rfl (own_slAt (M.chunk 2 rfl).inv)) ?_
      refine WL.step (v := (Value.bool (decide ((↑i_ : Int) < (↑ys_.length : Int))))) rfl (Step.pure (by kernel_rfl)) ?_
      refine WL.nil ?_
      refine W.cond (t := decide ((↑i_ : Int) < (↑ys_.length : Int))) rfl (fun h23 => ?_) (fun h23 => ?_)
      ·
        have h23p := of_decide_eq_true h23
        refine W.skip ?_
        refine W.seq' ?_
        refine W.block ?_
        refine W.region rfl ?_
        refine WL.step (v := v9) rfl (Step.move rfl) ?_
        refine WL.step (v := (Value.int .i64 ↑i_)) rfl (Step.move rfl) ?_
        refine WL.step (v := (Value.agg #[(Value.int .u64 0), (Value.bool false), (Value.int .i64 0), (Value.int .i64 0), (Value.int .i64 0), (Value.int .i64 0)])) rfl (Step.pure (by kernel_rfl)) ?_
        obtain ⟨cap25, hb24⟩ := SlAt.base (own_slAt (M.chunk 2 rfl).inv) (by omega)
        obtain ⟨x26, hx26⟩ := elem_of_lt (xs := ys_) (i := i_) (by omega)
        refine WL.step (v := (Value.pointer (some ⟨(sBlk v9), sOff v9 + i_ * 6, none⟩))) rfl (Step.indexAddr (i := i_) (Try.un22).run Try.el34.sized rfl rfl (by omega) hb24 (by omega)) ?_
        obtain ⟨pre27, post28, hcs29, hpre30, hback31⟩ := flat_open verE_len hx26
        replace M := M.rechunk 2 (c' := own 34 6 v9 ys_.length (pre27 ++ ([(Value.int .u64 x26.epoch), (Value.bool x26.dead), (Value.int .i64 x26.agg.count), (Value.int .i64 x26.agg.sum), (Value.int .i64 x26.agg.min), (Value.int .i64 x26.agg.max)] ++ post28))) rfl (by rw [hcs29]; rfl)
        replace M : Mem _ _ _ [blk cb14 (.cells #[v15] 135), own 34 6 v15 l.length (l.flatMap verE), own 34 6 v9 ys_.length (pre27 ++ ([(Value.int .u64 x26.epoch), (Value.bool x26.dead), (Value.int .i64 x26.agg.count), (Value.int .i64 x26.agg.sum), (Value.int .i64 x26.agg.min), (Value.int .i64 x26.agg.max)] ++ post28)), own 51 6 v5 l.length (l.flatMap verE)] [SlAt 6 v l.length (l.flatMap verE)] _ := M
        refine WL.act rfl (M.storeAt (cells := [(Value.int .u64 x26.epoch), (Value.bool x26.dead), (Value.int .i64 x26.agg.count), (Value.int .i64 x26.agg.sum), (Value.int .i64 x26.agg.min), (Value.int .i64 x26.agg.max)]) (cells' := [(Value.int .u64 0), (Value.bool false), (Value.int .i64 0), (Value.int .i64 0), (Value.int .i64 0), (Value.int .i64 0)]) (new := [(Value.int .u64 0), (Value.bool false), (Value.int .i64 0), (Value.int .i64 0), (Value.int .i64 0), (Value.int .i64 0)]) (k := 0) 2 rfl hpre30 Try.el34.sized rfl rfl rfl (cel_cons rfl (cel_cons rfl (cel_cons rfl (cel_cons rfl (cel_cons rfl (cel_cons rfl cel_nil)))))) (by first | omega | (simp only [List.length_set, List.length_append, List.length_cons, List.length_nil]; omega)) (Nat.le_of_ble_eq_true rfl) rfl rfl) ?_
        rintro w32 ⟨M, -⟩
        replace M : Mem _ _ _ [blk cb14 (.cells #[v15] 135), own 34 6 v15 l.length (l.flatMap verE), own 34 6 v9 ys_.length (pre27 ++ ([(Value.int .u64 0), (Value.bool false), (Value.int .i64 0), (Value.int .i64 0), (Value.int .i64 0), (Value.int .i64 0)] ++ post28)), own 51 6 v5 l.length (l.flatMap verE)] [SlAt 6 v l.length (l.flatMap verE)] _ := M
        refine WL.nil ?_
        refine W.region rfl ?_
        refine WL.step (v := (Value.int .i64 ↑i_)) rfl (Step.move rfl) ?_
        refine WL.step (v := (Value.int .i64 (↑i_ + 1))) rfl (Step.add rfl rfl (wrap_i64 (by omega))) ?_
        refine WL.step (v := (Value.int .i64 (↑i_ + 1))) rfl (Step.assign rfl) ?_
        refine WL.nil ?_
        replace M := M.rechunk 2 (c' := own 34 6 v9 (ys_.length) ((ys_.set i_ (⟨0, false, (⟨0, 0, 0, 0⟩ : Agg5)⟩ : Ver)).flatMap verE)) rfl (by rw [← hback31]; rfl)
        replace M := M.rechunk 2 (c' := own 34 6 v9 ((ys_.set i_ (⟨0, false, (⟨0, 0, 0, 0⟩ : Agg5)⟩ : Ver)).length) ((ys_.set i_ (⟨0, false, (⟨0, 0, 0, 0⟩ : Agg5)⟩ : Ver)).flatMap verE)) rfl (by rw [List.length_set])
        replace M : Mem _ _ _ [blk cb14 (.cells #[v15] 135), own 34 6 v15 l.length (l.flatMap verE), own 34 6 v9 ((ys_.set i_ (⟨0, false, (⟨0, 0, 0, 0⟩ : Agg5)⟩ : Ver)).length) ((ys_.set i_ (⟨0, false, (⟨0, 0, 0, 0⟩ : Agg5)⟩ : Ver)).flatMap verE), own 51 6 v5 l.length (l.flatMap verE)] [SlAt 6 v l.length (l.flatMap verE)] _ := M
        exact ⟨_, (by omega), i_ + 1, ys_.set i_ (⟨0, false, (⟨0, 0, 0, 0⟩ : Agg5)⟩ : Ver), ⟨(by rw [List.length_set]; assumption), (by omega), rfl⟩, ⟨rfl, rfl, rfl, rfl, rfl, rfl, rfl, rfl, rfl, rfl, rfl⟩, M⟩
      ·
        have h23p := of_decide_eq_false h23
        refine W.exit ?_
        refine thn_exit ?_
        refine thn_exit ?_
        refine inBlk_hit ?_
        refine W.seq' ?_
        refine W.seq' ?_
        refine W.region rfl ?_
        refine WL.step (v := (Value.int .i64 0)) rfl (Step.move rfl) ?_
        refine WL.step (v := (Value.bool true)) rfl (Step.pure (by kernel_rfl)) ?_
        refine WL.step (v := v5) rfl (Step.move rfl) ?_
        refine WL.callX rfl (rf_right v5 l (M.enterW0 ⟨((M.wideC0 3 rfl).imp fun _ h => own_slAt h), trivial⟩)) (CallsF.func Try.en24 rfl) ?_
        rintro _ w33 ⟨rfl, m⟩
        replace M := M.leaveW0 m
        clear m
        replace M : Mem _ _ _ [blk cb14 (.cells #[v15] 135), own 34 6 v15 l.length (l.flatMap verE), own 34 6 v9 ys_.length (ys_.flatMap verE), own 51 6 v5 l.length (l.flatMap verE)] [SlAt 6 v l.length (l.flatMap verE)] _ := M
        rw [h13]
        refine WL.step (v := (Value.bool false)) rfl (Step.cast (congrArg Value.bool (show (!(true == true)) = false by rfl)) (Step.pure (by kernel_rfl))) ?_
        refine WL.step (v := (Value.bool false)) rfl (Step.move rfl) ?_
        refine WL.step (v := v) rfl (Step.move rfl) ?_
        refine WL.callX rfl (ch_right v l (M.enterW0 ⟨(M.wideR0 0 rfl), trivial⟩)) (CallsF.func Try.en15 rfl) ?_
        rintro _ w34 ⟨rfl, m⟩
        replace M := M.leaveW0 m
        clear m
        replace M : Mem _ _ _ [blk cb14 (.cells #[v15] 135), own 34 6 v15 l.length (l.flatMap verE), own 34 6 v9 ys_.length (ys_.flatMap verE), own 51 6 v5 l.length (l.flatMap verE)] [SlAt 6 v l.length (l.flatMap verE)] _ := M
        rw [h13]
        refine WL.step (v := v5) rfl (Step.move rfl) ?_
        refine WL.callX rfl (rf_right v5 l (M.enterW0 ⟨((M.wideC0 3 rfl).imp fun _ h => own_slAt h), trivial⟩)) (CallsF.func Try.en24 rfl) ?_
        rintro _ w35 ⟨rfl, m⟩
        replace M := M.leaveW0 m
        clear m
        replace M : Mem _ _ _ [blk cb14 (.cells #[v15] 135), own 34 6 v15 l.length (l.flatMap verE), own 34 6 v9 ys_.length (ys_.flatMap verE), own 51 6 v5 l.length (l.flatMap verE)] [SlAt 6 v l.length (l.flatMap verE)] _ := M
        rw [h13]
        refine WL.step (v := (Value.bool false)) rfl (Step.cast (congrArg Value.bool (show (!(true == true)) = false by rfl)) (Step.pure (by kernel_rfl))) ?_
        refine WL.step (v := (Value.bool false)) rfl (Step.pick (t := false) rfl rfl) ?_
        refine WL.step (v := (Value.bool false)) rfl (Step.move rfl) ?_
        refine WL.step (v := (Value.int .i64 0)) rfl (Step.move rfl) ?_
        refine WL.step (v := (Value.bool false)) rfl (Step.pure (by kernel_rfl)) ?_
        refine WL.step (v := (Value.bool false)) rfl (Step.move rfl) ?_
        refine WL.pass rfl ?_
        refine WL.pass rfl ?_
        refine WL.pass rfl ?_
        refine WL.pass rfl ?_
        refine WL.pass rfl ?_
        refine WL.pass rfl ?_
        refine WL.step (v := (Value.bool false)) rfl (Step.pick (t := false) rfl rfl) ?_
        refine WL.step (v := (Value.bool false)) rfl (Step.pick (t := false) rfl rfl) ?_
        refine WL.nil ?_
        refine W.cond (t := false) rfl (fun h => by cases h) (fun _ => ?_)
        refine W.skip ?_
        refine W.seq' ?_
        refine W.seq' ?_
        refine W.region rfl ?_
        refine WL.step (v := (Value.int .i64 0)) rfl (Step.move rfl) ?_
        refine WL.step (v := (Value.bool false)) rfl (Step.pure (by kernel_rfl)) ?_
        refine WL.nil ?_
        refine W.cond (t := false) rfl (fun h => by cases h) (fun _ => ?_)
        refine W.skip ?_
        refine W.seq' ?_
        refine W.seq' ?_
        refine W.region rfl ?_
        refine WL.step (v := (Value.int .i64 0)) rfl (Step.assign rfl) ?_
        refine WL.nil ?_
        refine W.block ?_
        refine W.loop (fun kk ρ w' => ∃ (t_ : Nat), ((t_ ≤ 2) ∧ kk = 2 - t_) ∧ ρ.has [(1, (Value.int .u64 a)), (2, (Value.int .u64 b)), (7, v5), (9, (Value.pointer (some ⟨cb14, 0, none⟩))), (12, (Value.int .i64 ↑t_))] ∧ Mem G (fun _ => False) w [blk cb14 (.cells #[v15] 135), own 34 6 v15 l.length (l.flatMap verE), own 34 6 v9 ys_.length (ys_.flatMap verE), own 51 6 v5 l.length (l.flatMap verE)] [SlAt 6 v l.length (l.flatMap verE)]  w') _ ⟨0, ⟨(Nat.zero_le _), rfl⟩, ⟨rfl, rfl, rfl, rfl, rfl, rfl, rfl⟩, M⟩ ?_
        rintro _ ρ37 w36 ⟨t_, ⟨hi38, rfl⟩, hρ, M⟩
        obtain ⟨ρ37, rfl⟩ := hρ.know
        clear hρ
        refine W.seq' ?_
        refine W.seq' ?_
        refine W.region rfl ?_
        refine WL.step (v := (Value.int .i64 ↑t_)) rfl (Step.move rfl) ?_
        refine WL.step (v := (Value.bool (decide ((↑t_ : Int) < (2 : Int))))) rfl (Step.pure (by kernel_rfl)) ?_
        refine WL.nil ?_
        refine W.cond (t := decide ((↑t_ : Int) < (2 : Int))) rfl (fun h39 => ?_) (fun h39 => ?_)
        ·
          have h39p := of_decide_eq_true h39
          refine W.skip ?_
          refine W.seq' ?_
          refine W.block ?_
          refine W.seq' ?_
          refine W.region rfl ?_
          refine WL.step (v := (Value.pointer (some ⟨cb14, 0, none⟩))) rfl (Step.move rfl) ?_
          refine WL.step (v := (Value.int .u64 a)) rfl (Step.move rfl) ?_
          refine WL.callX rfl (ch_at cb14 v15 l a (M.enterW0 ⟨(M.wideC0 0 rfl), ((M.wideC0 1 rfl).imp fun _ h => own_slAt h), trivial⟩)) (CallsF.func Try.en21 rfl) ?_
          rintro _ w40 ⟨rfl, m⟩
          replace M := M.leaveW0 m
          clear m
          replace M : Mem _ _ _ [blk cb14 (.cells #[v15] 135), own 34 6 v15 l.length (l.flatMap verE), own 34 6 v9 ys_.length (ys_.flatMap verE), own 51 6 v5 l.length (l.flatMap verE)] [SlAt 6 v l.length (l.flatMap verE)] _ := M
          refine WL.step (v := (Value.tuple #[(Value.agg #[(Value.int .i64 ((atV l a).count)), (Value.int .i64 ((atV l a).sum)), (Value.int .i64 ((atV l a).min)), (Value.int .i64 ((atV l a).max))]), (Value.bool (!decide (atV l a = aggZ)))])) rfl (Step.move rfl) ?_
          refine WL.step (v := (Value.agg #[(Value.int .i64 ((atV l a).count)), (Value.int .i64 ((atV l a).sum)), (Value.int .i64 ((atV l a).min)), (Value.int .i64 ((atV l a).max))])) rfl (Step.pure (by kernel_rfl)) ?_
          refine WL.step (v := (Value.bool (!decide (atV l a = aggZ)))) rfl (Step.pure (by kernel_rfl)) ?_
          refine WL.alloc (c := #[(Value.int .i64 0), (Value.int .i64 0), (Value.int .i64 0), (Value.int .i64 0)]) M rfl Try.el32.zero rfl (fun b41 w42 hb41 M => ?_)
          refine WL.store (v := (Value.agg #[(Value.int .i64 ((atV l a).count)), (Value.int .i64 ((atV l a).sum)), (Value.int .i64 ((atV l a).min)), (Value.int .i64 ((atV l a).max))])) (cs := [(Value.int .i64 ((atV l a).count)), (Value.int .i64 ((atV l a).sum)), (Value.int .i64 ((atV l a).min)), (Value.int .i64 ((atV l a).max))]) (c' := #[(Value.int .i64 ((atV l a).count)), (Value.int .i64 ((atV l a).sum)), (Value.int .i64 ((atV l a).min)), (Value.int .i64 ((atV l a).max))]) M 0 rfl rfl Try.el32.sized rfl rfl rfl rfl (Nat.le_of_ble_eq_true rfl) (cel_cons rfl (cel_cons rfl (cel_cons rfl (cel_cons rfl cel_nil)))) rfl rfl (fun w43 M => ?_)
          refine WL.step (v := (Value.bool (!decide (atV l a = aggZ)))) rfl (Step.assign rfl) ?_
          refine WL.nil ?_
          refine W.seq' ?_
          refine W.region rfl ?_
          refine WL.step (v := v5) rfl (Step.move rfl) ?_
          refine WL.step (v := (Value.int .u64 a)) rfl (Step.move rfl) ?_
          refine WL.callX rfl (ref_at v5 l a (by assumption) (M.enterW0 ⟨((M.wideC0 4 rfl).imp fun _ h => own_slAt h), trivial⟩)) (CallsF.func Try.en25 rfl) ?_
          rintro _ w44 ⟨rfl, m⟩
          replace M := M.leaveW0 m
          clear m
          replace M : Mem _ _ _ [blk b41 (.cells #[(Value.int .i64 ((atV l a).count)), (Value.int .i64 ((atV l a).sum)), (Value.int .i64 ((atV l a).min)), (Value.int .i64 ((atV l a).max))] 32), blk cb14 (.cells #[v15] 135), own 34 6 v15 l.length (l.flatMap verE), own 34 6 v9 ys_.length (ys_.flatMap verE), own 51 6 v5 l.length (l.flatMap verE)] [SlAt 6 v l.length (l.flatMap verE)] _ := M
          refine WL.step (v := (Value.tuple #[(Value.agg #[(Value.int .i64 ((atV l a).count)), (Value.int .i64 ((atV l a).sum)), (Value.int .i64 ((atV l a).min)), (Value.int .i64 ((atV l a).max))]), (Value.bool (!decide (atV l a = aggZ)))])) rfl (Step.move rfl) ?_
          refine WL.step (v := (Value.agg #[(Value.int .i64 ((atV l a).count)), (Value.int .i64 ((atV l a).sum)), (Value.int .i64 ((atV l a).min)), (Value.int .i64 ((atV l a).max))])) rfl (Step.pure (by kernel_rfl)) ?_
          refine WL.step (v := (Value.bool (!decide (atV l a = aggZ)))) rfl (Step.pure (by kernel_rfl)) ?_
          refine WL.alloc (c := #[(Value.int .i64 0), (Value.int .i64 0), (Value.int .i64 0), (Value.int .i64 0)]) M rfl Try.el45.zero rfl (fun b45 w46 hb45 M => ?_)
          refine WL.store (v := (Value.agg #[(Value.int .i64 ((atV l a).count)), (Value.int .i64 ((atV l a).sum)), (Value.int .i64 ((atV l a).min)), (Value.int .i64 ((atV l a).max))])) (cs := [(Value.int .i64 ((atV l a).count)), (Value.int .i64 ((atV l a).sum)), (Value.int .i64 ((atV l a).min)), (Value.int .i64 ((atV l a).max))]) (c' := #[(Value.int .i64 ((atV l a).count)), (Value.int .i64 ((atV l a).sum)), (Value.int .i64 ((atV l a).min)), (Value.int .i64 ((atV l a).max))]) M 0 rfl rfl Try.el45.sized rfl rfl rfl rfl (Nat.le_of_ble_eq_true rfl) (cel_cons rfl (cel_cons rfl (cel_cons rfl (cel_cons rfl cel_nil)))) rfl rfl (fun w47 M => ?_)
          refine WL.step (v := (Value.bool (!decide (atV l a = aggZ)))) rfl (Step.assign rfl) ?_
          refine WL.nil ?_
          refine W.seq' ?_
          refine W.region rfl ?_
          refine WL.step (v := (Value.pointer (some ⟨cb14, 0, none⟩))) rfl (Step.move rfl) ?_
          refine WL.step (v := (Value.int .u64 a)) rfl (Step.move rfl) ?_
          refine WL.callX rfl (ch_next cb14 v15 l a (M.enterW0 ⟨(M.wideC0 2 rfl), ((M.wideC0 3 rfl).imp fun _ h => own_slAt h), trivial⟩)) (CallsF.func Try.en26 rfl) ?_
          rintro _ w48 ⟨rfl, m⟩
          replace M := M.leaveW0 m
          clear m
          replace M : Mem _ _ _ [blk b45 (.cells #[(Value.int .i64 ((atV l a).count)), (Value.int .i64 ((atV l a).sum)), (Value.int .i64 ((atV l a).min)), (Value.int .i64 ((atV l a).max))] 45), blk b41 (.cells #[(Value.int .i64 ((atV l a).count)), (Value.int .i64 ((atV l a).sum)), (Value.int .i64 ((atV l a).min)), (Value.int .i64 ((atV l a).max))] 32), blk cb14 (.cells #[v15] 135), own 34 6 v15 l.length (l.flatMap verE), own 34 6 v9 ys_.length (ys_.flatMap verE), own 51 6 v5 l.length (l.flatMap verE)] [SlAt 6 v l.length (l.flatMap verE)] _ := M
          refine WL.step (v := (Value.tuple #[(Value.agg #[(Value.int .u64 (((nextV l a).1).epoch)), (Value.bool (((nextV l a).1).dead)), (Value.int .i64 (((nextV l a).1).agg.count)), (Value.int .i64 (((nextV l a).1).agg.sum)), (Value.int .i64 (((nextV l a).1).agg.min)), (Value.int .i64 (((nextV l a).1).agg.max))]), (Value.bool ((nextV l a).2))])) rfl (Step.move rfl) ?_
          refine WL.step (v := (Value.agg #[(Value.int .u64 (((nextV l a).1).epoch)), (Value.bool (((nextV l a).1).dead)), (Value.int .i64 (((nextV l a).1).agg.count)), (Value.int .i64 (((nextV l a).1).agg.sum)), (Value.int .i64 (((nextV l a).1).agg.min)), (Value.int .i64 (((nextV l a).1).agg.max))])) rfl (Step.pure (by kernel_rfl)) ?_
          refine WL.step (v := (Value.bool ((nextV l a).2))) rfl (Step.pure (by kernel_rfl)) ?_
          refine WL.alloc (c := #[(Value.int .u64 0), (Value.bool false), (Value.int .i64 0), (Value.int .i64 0), (Value.int .i64 0), (Value.int .i64 0)]) M rfl Try.el34.zero rfl (fun b49 w50 hb49 M => ?_)
          refine WL.store (v := (Value.agg #[(Value.int .u64 (((nextV l a).1).epoch)), (Value.bool (((nextV l a).1).dead)), (Value.int .i64 (((nextV l a).1).agg.count)), (Value.int .i64 (((nextV l a).1).agg.sum)), (Value.int .i64 (((nextV l a).1).agg.min)), (Value.int .i64 (((nextV l a).1).agg.max))])) (cs := [(Value.int .u64 (((nextV l a).1).epoch)), (Value.bool (((nextV l a).1).dead)), (Value.int .i64 (((nextV l a).1).agg.count)), (Value.int .i64 (((nextV l a).1).agg.sum)), (Value.int .i64 (((nextV l a).1).agg.min)), (Value.int .i64 (((nextV l a).1).agg.max))]) (c' := #[(Value.int .u64 (((nextV l a).1).epoch)), (Value.bool (((nextV l a).1).dead)), (Value.int .i64 (((nextV l a).1).agg.count)), (Value.int .i64 (((nextV l a).1).agg.sum)), (Value.int .i64 (((nextV l a).1).agg.min)), (Value.int .i64 (((nextV l a).1).agg.max))]) M 0 rfl rfl Try.el34.sized rfl rfl rfl rfl (Nat.le_of_ble_eq_true rfl) (cel_cons rfl (cel_cons rfl (cel_cons rfl (cel_cons rfl (cel_cons rfl (cel_cons rfl cel_nil)))))) rfl rfl (fun w51 M => ?_)
          refine WL.step (v := (Value.bool ((nextV l a).2))) rfl (Step.assign rfl) ?_
          refine WL.nil ?_
          refine W.seq' ?_
          refine W.region rfl ?_
          refine WL.step (v := v5) rfl (Step.move rfl) ?_
          refine WL.step (v := (Value.int .u64 a)) rfl (Step.move rfl) ?_
          refine WL.callX rfl (ref_next v5 l a (M.enterW0 ⟨((M.wideC0 6 rfl).imp fun _ h => own_slAt h), trivial⟩)) (CallsF.func Try.en27 rfl) ?_
          rintro _ w52 ⟨rfl, m⟩
          replace M := M.leaveW0 m
          clear m
          replace M : Mem _ _ _ [blk b49 (.cells #[(Value.int .u64 (((nextV l a).1).epoch)), (Value.bool (((nextV l a).1).dead)), (Value.int .i64 (((nextV l a).1).agg.count)), (Value.int .i64 (((nextV l a).1).agg.sum)), (Value.int .i64 (((nextV l a).1).agg.min)), (Value.int .i64 (((nextV l a).1).agg.max))] 34), blk b45 (.cells #[(Value.int .i64 ((atV l a).count)), (Value.int .i64 ((atV l a).sum)), (Value.int .i64 ((atV l a).min)), (Value.int .i64 ((atV l a).max))] 45), blk b41 (.cells #[(Value.int .i64 ((atV l a).count)), (Value.int .i64 ((atV l a).sum)), (Value.int .i64 ((atV l a).min)), (Value.int .i64 ((atV l a).max))] 32), blk cb14 (.cells #[v15] 135), own 34 6 v15 l.length (l.flatMap verE), own 34 6 v9 ys_.length (ys_.flatMap verE), own 51 6 v5 l.length (l.flatMap verE)] [SlAt 6 v l.length (l.flatMap verE)] _ := M
          refine WL.step (v := (Value.tuple #[(Value.agg #[(Value.int .u64 (((nextV l a).1).epoch)), (Value.bool (((nextV l a).1).dead)), (Value.int .i64 (((nextV l a).1).agg.count)), (Value.int .i64 (((nextV l a).1).agg.sum)), (Value.int .i64 (((nextV l a).1).agg.min)), (Value.int .i64 (((nextV l a).1).agg.max))]), (Value.bool ((nextV l a).2))])) rfl (Step.move rfl) ?_
          refine WL.step (v := (Value.agg #[(Value.int .u64 (((nextV l a).1).epoch)), (Value.bool (((nextV l a).1).dead)), (Value.int .i64 (((nextV l a).1).agg.count)), (Value.int .i64 (((nextV l a).1).agg.sum)), (Value.int .i64 (((nextV l a).1).agg.min)), (Value.int .i64 (((nextV l a).1).agg.max))])) rfl (Step.pure (by kernel_rfl)) ?_
          refine WL.step (v := (Value.bool ((nextV l a).2))) rfl (Step.pure (by kernel_rfl)) ?_
          refine WL.alloc (c := #[(Value.int .u64 0), (Value.bool false), (Value.int .i64 0), (Value.int .i64 0), (Value.int .i64 0), (Value.int .i64 0)]) M rfl Try.el51.zero rfl (fun b53 w54 hb53 M => ?_)
          refine WL.store (v := (Value.agg #[(Value.int .u64 (((nextV l a).1).epoch)), (Value.bool (((nextV l a).1).dead)), (Value.int .i64 (((nextV l a).1).agg.count)), (Value.int .i64 (((nextV l a).1).agg.sum)), (Value.int .i64 (((nextV l a).1).agg.min)), (Value.int .i64 (((nextV l a).1).agg.max))])) (cs := [(Value.int .u64 (((nextV l a).1).epoch)), (Value.bool (((nextV l a).1).dead)), (Value.int .i64 (((nextV l a).1).agg.count)), (Value.int .i64 (((nextV l a).1).agg.sum)), (Value.int .i64 (((nextV l a).1).agg.min)), (Value.int .i64 (((nextV l a).1).agg.max))]) (c' := #[(Value.int .u64 (((nextV l a).1).epoch)), (Value.bool (((nextV l a).1).dead)), (Value.int .i64 (((nextV l a).1).agg.count)), (Value.int .i64 (((nextV l a).1).agg.sum)), (Value.int .i64 (((nextV l a).1).agg.min)), (Value.int .i64 (((nextV l a).1).agg.max))]) M 0 rfl rfl Try.el51.sized rfl rfl rfl rfl (Nat.le_of_ble_eq_true rfl) (cel_cons rfl (cel_cons rfl (cel_cons rfl (cel_cons rfl (cel_cons rfl (cel_cons rfl cel_nil)))))) rfl rfl (fun w55 M => ?_)
          refine WL.step (v := (Value.bool ((nextV l a).2))) rfl (Step.assign rfl) ?_
          refine WL.nil ?_
          refine W.seq' ?_
          refine W.seq' ?_
          refine W.drawn M [0, 1, 2, 3, 4, 5, 6, 7, 8, 9, 10, 11, 12, 13, 14, 15, 16, 17, 18, 19, 20, 21, 26, 22, 23, 24, 25, 27, 28, 29, 30, 31, 32, 33, 34, 35, 36, 37, 38, 39, 40, 41, 42, 43, 44, 45, 46, 47, 48, 49, 50, 51] [2, 13, 17, 23, 25, 38, 42, 47] [22] [blk b53 (.cells #[(Value.int .u64 (((nextV l a).1).epoch)), (Value.bool (((nextV l a).1).dead)), (Value.int .i64 (((nextV l a).1).agg.count)), (Value.int .i64 (((nextV l a).1).agg.sum)), (Value.int .i64 (((nextV l a).1).agg.min)), (Value.int .i64 (((nextV l a).1).agg.max))] 51), blk b49 (.cells #[(Value.int .u64 (((nextV l a).1).epoch)), (Value.bool (((nextV l a).1).dead)), (Value.int .i64 (((nextV l a).1).agg.count)), (Value.int .i64 (((nextV l a).1).agg.sum)), (Value.int .i64 (((nextV l a).1).agg.min)), (Value.int .i64 (((nextV l a).1).agg.max))] 34), blk b45 (.cells #[(Value.int .i64 ((atV l a).count)), (Value.int .i64 ((atV l a).sum)), (Value.int .i64 ((atV l a).min)), (Value.int .i64 ((atV l a).max))] 45), blk b41 (.cells #[(Value.int .i64 ((atV l a).count)), (Value.int .i64 ((atV l a).sum)), (Value.int .i64 ((atV l a).min)), (Value.int .i64 ((atV l a).max))] 32), blk cb14 (.cells #[v15] 135), own 34 6 v15 l.length (l.flatMap verE), own 34 6 v9 ys_.length (ys_.flatMap verE), own 51 6 v5 l.length (l.flatMap verE)] [SlAt 6 v l.length (l.flatMap verE)] (List.Sublist.cons_cons _ (List.Sublist.cons_cons _ (List.Sublist.cons_cons _ (List.Sublist.cons_cons _ (List.Sublist.cons_cons _ (List.Sublist.cons_cons _ (List.Sublist.cons_cons _ (List.Sublist.cons_cons _ List.Sublist.slnil)))))))) (fun _ h => h) Try.mixed (by kernel_rfl) ?_
          refine TW.read (v := (Value.agg #[(Value.int .i64 ((atV l a).count)), (Value.int .i64 ((atV l a).sum)), (Value.int .i64 ((atV l a).min)), (Value.int .i64 ((atV l a).max))])) rfl (by decide) (by decide) rfl (fun A w M => (Step.loadN Try.ag32 rfl (M.blk 4 rfl) (Nat.le_of_ble_eq_true rfl) rfl)) ?_
          refine TW.read (v := (Value.agg #[(Value.int .i64 ((atV l a).count)), (Value.int .i64 ((atV l a).sum)), (Value.int .i64 ((atV l a).min)), (Value.int .i64 ((atV l a).max))])) rfl (by decide) (by decide) rfl (fun A w M => (Step.loadN Try.ag45 rfl (M.blk 3 rfl) (Nat.le_of_ble_eq_true rfl) rfl)) ?_
          refine TW.callX (ι := Unit) (fun jx v_ => v_ = (Value.bool (decide ((atV l a) = (atV l a))))) (fun jx => [blk b53 (.cells #[(Value.int .u64 (((nextV l a).1).epoch)), (Value.bool (((nextV l a).1).dead)), (Value.int .i64 (((nextV l a).1).agg.count)), (Value.int .i64 (((nextV l a).1).agg.sum)), (Value.int .i64 (((nextV l a).1).agg.min)), (Value.int .i64 (((nextV l a).1).agg.max))] 51), blk b49 (.cells #[(Value.int .u64 (((nextV l a).1).epoch)), (Value.bool (((nextV l a).1).dead)), (Value.int .i64 (((nextV l a).1).agg.count)), (Value.int .i64 (((nextV l a).1).agg.sum)), (Value.int .i64 (((nextV l a).1).agg.min)), (Value.int .i64 (((nextV l a).1).agg.max))] 34), blk b45 (.cells #[(Value.int .i64 ((atV l a).count)), (Value.int .i64 ((atV l a).sum)), (Value.int .i64 ((atV l a).min)), (Value.int .i64 ((atV l a).max))] 45), blk b41 (.cells #[(Value.int .i64 ((atV l a).count)), (Value.int .i64 ((atV l a).sum)), (Value.int .i64 ((atV l a).min)), (Value.int .i64 ((atV l a).max))] 32), blk cb14 (.cells #[v15] 135), own 34 6 v15 l.length (l.flatMap verE), own 34 6 v9 ys_.length (ys_.flatMap verE), own 51 6 v5 l.length (l.flatMap verE)]) (fun jx => [SlAt 6 v l.length (l.flatMap verE)]) rfl (by decide) rfl (fun jx => (List.Sublist.cons_cons _ (List.Sublist.cons_cons _ (List.Sublist.cons_cons _ (List.Sublist.cons_cons _ (List.Sublist.cons_cons _ (List.Sublist.cons_cons _ (List.Sublist.cons_cons _ (List.Sublist.cons_cons _ List.Sublist.slnil))))))))) (fun jx r h => h) (fun A w M => Rets.mono (law_is (atV l a) (atV l a) (M.enterW0 trivial)) (fun v_ w_ ⟨e_, m⟩ => ⟨(), e_, (M.leaveW0 m).sel (L' := [fl A, blk b53 (.cells #[(Value.int .u64 (((nextV l a).1).epoch)), (Value.bool (((nextV l a).1).dead)), (Value.int .i64 (((nextV l a).1).agg.count)), (Value.int .i64 (((nextV l a).1).agg.sum)), (Value.int .i64 (((nextV l a).1).agg.min)), (Value.int .i64 (((nextV l a).1).agg.max))] 51), blk b49 (.cells #[(Value.int .u64 (((nextV l a).1).epoch)), (Value.bool (((nextV l a).1).dead)), (Value.int .i64 (((nextV l a).1).agg.count)), (Value.int .i64 (((nextV l a).1).agg.sum)), (Value.int .i64 (((nextV l a).1).agg.min)), (Value.int .i64 (((nextV l a).1).agg.max))] 34), blk b45 (.cells #[(Value.int .i64 ((atV l a).count)), (Value.int .i64 ((atV l a).sum)), (Value.int .i64 ((atV l a).min)), (Value.int .i64 ((atV l a).max))] 45), blk b41 (.cells #[(Value.int .i64 ((atV l a).count)), (Value.int .i64 ((atV l a).sum)), (Value.int .i64 ((atV l a).min)), (Value.int .i64 ((atV l a).max))] 32), blk cb14 (.cells #[v15] 135), own 34 6 v15 l.length (l.flatMap verE), own 34 6 v9 ys_.length (ys_.flatMap verE), own 51 6 v5 l.length (l.flatMap verE)]) [0, 1, 2, 3, 4, 5, 6, 7, 8] rfl (by decide), fun b hb => M.keptW0 m (fl A) (List.mem_cons_self ..) b hb⟩)) (fun w => CallsF.func Try.en28 rfl) (fun jx v hp hin => ?_)
          replace hp := hp.symm; subst hp
          clear hin
          change TW _ _ _ _ _ _ _ _ (MemA _ _ _ [blk b53 (.cells #[(Value.int .u64 (((nextV l a).1).epoch)), (Value.bool (((nextV l a).1).dead)), (Value.int .i64 (((nextV l a).1).agg.count)), (Value.int .i64 (((nextV l a).1).agg.sum)), (Value.int .i64 (((nextV l a).1).agg.min)), (Value.int .i64 (((nextV l a).1).agg.max))] 51), blk b49 (.cells #[(Value.int .u64 (((nextV l a).1).epoch)), (Value.bool (((nextV l a).1).dead)), (Value.int .i64 (((nextV l a).1).agg.count)), (Value.int .i64 (((nextV l a).1).agg.sum)), (Value.int .i64 (((nextV l a).1).agg.min)), (Value.int .i64 (((nextV l a).1).agg.max))] 34), blk b45 (.cells #[(Value.int .i64 ((atV l a).count)), (Value.int .i64 ((atV l a).sum)), (Value.int .i64 ((atV l a).min)), (Value.int .i64 ((atV l a).max))] 45), blk b41 (.cells #[(Value.int .i64 ((atV l a).count)), (Value.int .i64 ((atV l a).sum)), (Value.int .i64 ((atV l a).min)), (Value.int .i64 ((atV l a).max))] 32), blk cb14 (.cells #[v15] 135), own 34 6 v15 l.length (l.flatMap verE), own 34 6 v9 ys_.length (ys_.flatMap verE), own 51 6 v5 l.length (l.flatMap verE)] [SlAt 6 v l.length (l.flatMap verE)])
          rw [(show (decide ((atV l a) = (atV l a))) = true by simp)]
          refine TW.pure (v := (Value.bool false)) rfl (by decide) (by decide) rfl (fun w => (Step.pure (by kernel_rfl))) ?_
          refine TW.pure (v := (Value.bool false)) rfl (by decide) (by decide) rfl (fun w => (Step.move rfl)) ?_
          refine TW.pure (v := (Value.bool (!decide (atV l a = aggZ)))) rfl (by decide) (by decide) rfl (fun w => (Step.move rfl)) ?_
          refine TW.pure (v := (Value.bool (!decide (atV l a = aggZ)))) rfl (by decide) (by decide) rfl (fun w => (Step.move rfl)) ?_
          refine TW.pure (v := (Value.bool false)) rfl (by decide) (by decide) rfl (fun w => (Step.cast (congrArg Value.bool (by simp)) (Step.pure (v := .bool (!((!decide (atV l a = aggZ)) == (!decide (atV l a = aggZ))))) (by kernel_rfl)))) ?_
          refine TW.pure (v := (Value.bool false)) rfl (by decide) (by decide) rfl (fun w => (Step.pick (t := false) rfl rfl)) ?_
          refine TW.pure (v := (Value.bool false)) rfl (by decide) (by decide) rfl (fun w => (Step.move rfl)) ?_
          refine TW.pure (v := (Value.pointer (some ⟨cb14, 0, none⟩))) rfl (by decide) (by decide) rfl (fun w => (Step.move rfl)) ?_
          refine TW.pure (v := (Value.int .u64 a)) rfl (by decide) (by decide) rfl (fun w => (Step.move rfl)) ?_
          refine TW.pure (v := (Value.int .u64 b)) rfl (by decide) (by decide) rfl (fun w => (Step.move rfl)) ?_
          refine TW.callX (ι := Unit) (fun jx v_ => v_ = (Value.bool (!decide (atV l a = atV l b)))) (fun jx => [blk b53 (.cells #[(Value.int .u64 (((nextV l a).1).epoch)), (Value.bool (((nextV l a).1).dead)), (Value.int .i64 (((nextV l a).1).agg.count)), (Value.int .i64 (((nextV l a).1).agg.sum)), (Value.int .i64 (((nextV l a).1).agg.min)), (Value.int .i64 (((nextV l a).1).agg.max))] 51), blk b49 (.cells #[(Value.int .u64 (((nextV l a).1).epoch)), (Value.bool (((nextV l a).1).dead)), (Value.int .i64 (((nextV l a).1).agg.count)), (Value.int .i64 (((nextV l a).1).agg.sum)), (Value.int .i64 (((nextV l a).1).agg.min)), (Value.int .i64 (((nextV l a).1).agg.max))] 34), blk b45 (.cells #[(Value.int .i64 ((atV l a).count)), (Value.int .i64 ((atV l a).sum)), (Value.int .i64 ((atV l a).min)), (Value.int .i64 ((atV l a).max))] 45), blk b41 (.cells #[(Value.int .i64 ((atV l a).count)), (Value.int .i64 ((atV l a).sum)), (Value.int .i64 ((atV l a).min)), (Value.int .i64 ((atV l a).max))] 32), blk cb14 (.cells #[v15] 135), own 34 6 v15 l.length (l.flatMap verE), own 34 6 v9 ys_.length (ys_.flatMap verE), own 51 6 v5 l.length (l.flatMap verE)]) (fun jx => [SlAt 6 v l.length (l.flatMap verE)]) rfl (by decide) rfl (fun jx => (List.Sublist.cons_cons _ (List.Sublist.cons_cons _ (List.Sublist.cons_cons _ (List.Sublist.cons_cons _ (List.Sublist.cons_cons _ (List.Sublist.cons_cons _ (List.Sublist.cons_cons _ (List.Sublist.cons_cons _ List.Sublist.slnil))))))))) (fun jx r h => h) (fun A w M => Rets.mono (ch_differs cb14 v15 l a b (M.enterW0 ⟨(M.wideC0 5 rfl), ((M.wideC0 6 rfl).imp fun _ h => own_slAt h), trivial⟩)) (fun v_ w_ ⟨e_, m⟩ => ⟨(), e_, (M.leaveW0 m).sel (L' := [fl A, blk b53 (.cells #[(Value.int .u64 (((nextV l a).1).epoch)), (Value.bool (((nextV l a).1).dead)), (Value.int .i64 (((nextV l a).1).agg.count)), (Value.int .i64 (((nextV l a).1).agg.sum)), (Value.int .i64 (((nextV l a).1).agg.min)), (Value.int .i64 (((nextV l a).1).agg.max))] 51), blk b49 (.cells #[(Value.int .u64 (((nextV l a).1).epoch)), (Value.bool (((nextV l a).1).dead)), (Value.int .i64 (((nextV l a).1).agg.count)), (Value.int .i64 (((nextV l a).1).agg.sum)), (Value.int .i64 (((nextV l a).1).agg.min)), (Value.int .i64 (((nextV l a).1).agg.max))] 34), blk b45 (.cells #[(Value.int .i64 ((atV l a).count)), (Value.int .i64 ((atV l a).sum)), (Value.int .i64 ((atV l a).min)), (Value.int .i64 ((atV l a).max))] 45), blk b41 (.cells #[(Value.int .i64 ((atV l a).count)), (Value.int .i64 ((atV l a).sum)), (Value.int .i64 ((atV l a).min)), (Value.int .i64 ((atV l a).max))] 32), blk cb14 (.cells #[v15] 135), own 34 6 v15 l.length (l.flatMap verE), own 34 6 v9 ys_.length (ys_.flatMap verE), own 51 6 v5 l.length (l.flatMap verE)]) [0, 1, 2, 3, 4, 5, 6, 7, 8] rfl (by decide), fun b hb => M.keptW0 m (fl A) (List.mem_cons_self ..) b hb⟩)) (fun w => CallsF.func Try.en29 rfl) (fun jx v hp hin => ?_)
          replace hp := hp.symm; subst hp
          clear hin
          change TW _ _ _ _ _ _ _ _ (MemA _ _ _ [blk b53 (.cells #[(Value.int .u64 (((nextV l a).1).epoch)), (Value.bool (((nextV l a).1).dead)), (Value.int .i64 (((nextV l a).1).agg.count)), (Value.int .i64 (((nextV l a).1).agg.sum)), (Value.int .i64 (((nextV l a).1).agg.min)), (Value.int .i64 (((nextV l a).1).agg.max))] 51), blk b49 (.cells #[(Value.int .u64 (((nextV l a).1).epoch)), (Value.bool (((nextV l a).1).dead)), (Value.int .i64 (((nextV l a).1).agg.count)), (Value.int .i64 (((nextV l a).1).agg.sum)), (Value.int .i64 (((nextV l a).1).agg.min)), (Value.int .i64 (((nextV l a).1).agg.max))] 34), blk b45 (.cells #[(Value.int .i64 ((atV l a).count)), (Value.int .i64 ((atV l a).sum)), (Value.int .i64 ((atV l a).min)), (Value.int .i64 ((atV l a).max))] 45), blk b41 (.cells #[(Value.int .i64 ((atV l a).count)), (Value.int .i64 ((atV l a).sum)), (Value.int .i64 ((atV l a).min)), (Value.int .i64 ((atV l a).max))] 32), blk cb14 (.cells #[v15] 135), own 34 6 v15 l.length (l.flatMap verE), own 34 6 v9 ys_.length (ys_.flatMap verE), own 51 6 v5 l.length (l.flatMap verE)] [SlAt 6 v l.length (l.flatMap verE)])
          refine TW.pure (v := v5) rfl (by decide) (by decide) rfl (fun w => (Step.move rfl)) ?_
          refine TW.pure (v := (Value.int .u64 a)) rfl (by decide) (by decide) rfl (fun w => (Step.move rfl)) ?_
          refine TW.pure (v := (Value.int .u64 b)) rfl (by decide) (by decide) rfl (fun w => (Step.move rfl)) ?_
          refine TW.callX (ι := Unit) (fun jx v_ => v_ = (Value.bool (!decide (atV l a = atV l b)))) (fun jx => [blk b53 (.cells #[(Value.int .u64 (((nextV l a).1).epoch)), (Value.bool (((nextV l a).1).dead)), (Value.int .i64 (((nextV l a).1).agg.count)), (Value.int .i64 (((nextV l a).1).agg.sum)), (Value.int .i64 (((nextV l a).1).agg.min)), (Value.int .i64 (((nextV l a).1).agg.max))] 51), blk b49 (.cells #[(Value.int .u64 (((nextV l a).1).epoch)), (Value.bool (((nextV l a).1).dead)), (Value.int .i64 (((nextV l a).1).agg.count)), (Value.int .i64 (((nextV l a).1).agg.sum)), (Value.int .i64 (((nextV l a).1).agg.min)), (Value.int .i64 (((nextV l a).1).agg.max))] 34), blk b45 (.cells #[(Value.int .i64 ((atV l a).count)), (Value.int .i64 ((atV l a).sum)), (Value.int .i64 ((atV l a).min)), (Value.int .i64 ((atV l a).max))] 45), blk b41 (.cells #[(Value.int .i64 ((atV l a).count)), (Value.int .i64 ((atV l a).sum)), (Value.int .i64 ((atV l a).min)), (Value.int .i64 ((atV l a).max))] 32), blk cb14 (.cells #[v15] 135), own 34 6 v15 l.length (l.flatMap verE), own 34 6 v9 ys_.length (ys_.flatMap verE), own 51 6 v5 l.length (l.flatMap verE)]) (fun jx => [SlAt 6 v l.length (l.flatMap verE)]) rfl (by decide) rfl (fun jx => (List.Sublist.cons_cons _ (List.Sublist.cons_cons _ (List.Sublist.cons_cons _ (List.Sublist.cons_cons _ (List.Sublist.cons_cons _ (List.Sublist.cons_cons _ (List.Sublist.cons_cons _ (List.Sublist.cons_cons _ List.Sublist.slnil))))))))) (fun jx r h => h) (fun A w M => Rets.mono (ref_differs v5 l a b (by assumption) (M.enterW0 ⟨((M.wideC0 8 rfl).imp fun _ h => own_slAt h), trivial⟩)) (fun v_ w_ ⟨e_, m⟩ => ⟨(), e_, (M.leaveW0 m).sel (L' := [fl A, blk b53 (.cells #[(Value.int .u64 (((nextV l a).1).epoch)), (Value.bool (((nextV l a).1).dead)), (Value.int .i64 (((nextV l a).1).agg.count)), (Value.int .i64 (((nextV l a).1).agg.sum)), (Value.int .i64 (((nextV l a).1).agg.min)), (Value.int .i64 (((nextV l a).1).agg.max))] 51), blk b49 (.cells #[(Value.int .u64 (((nextV l a).1).epoch)), (Value.bool (((nextV l a).1).dead)), (Value.int .i64 (((nextV l a).1).agg.count)), (Value.int .i64 (((nextV l a).1).agg.sum)), (Value.int .i64 (((nextV l a).1).agg.min)), (Value.int .i64 (((nextV l a).1).agg.max))] 34), blk b45 (.cells #[(Value.int .i64 ((atV l a).count)), (Value.int .i64 ((atV l a).sum)), (Value.int .i64 ((atV l a).min)), (Value.int .i64 ((atV l a).max))] 45), blk b41 (.cells #[(Value.int .i64 ((atV l a).count)), (Value.int .i64 ((atV l a).sum)), (Value.int .i64 ((atV l a).min)), (Value.int .i64 ((atV l a).max))] 32), blk cb14 (.cells #[v15] 135), own 34 6 v15 l.length (l.flatMap verE), own 34 6 v9 ys_.length (ys_.flatMap verE), own 51 6 v5 l.length (l.flatMap verE)]) [0, 1, 2, 3, 4, 5, 6, 7, 8] rfl (by decide), fun b hb => M.keptW0 m (fl A) (List.mem_cons_self ..) b hb⟩)) (fun w => CallsF.func Try.en30 rfl) (fun jx v hp hin => ?_)
          replace hp := hp.symm; subst hp
          clear hin
          change TW _ _ _ _ _ _ _ _ (MemA _ _ _ [blk b53 (.cells #[(Value.int .u64 (((nextV l a).1).epoch)), (Value.bool (((nextV l a).1).dead)), (Value.int .i64 (((nextV l a).1).agg.count)), (Value.int .i64 (((nextV l a).1).agg.sum)), (Value.int .i64 (((nextV l a).1).agg.min)), (Value.int .i64 (((nextV l a).1).agg.max))] 51), blk b49 (.cells #[(Value.int .u64 (((nextV l a).1).epoch)), (Value.bool (((nextV l a).1).dead)), (Value.int .i64 (((nextV l a).1).agg.count)), (Value.int .i64 (((nextV l a).1).agg.sum)), (Value.int .i64 (((nextV l a).1).agg.min)), (Value.int .i64 (((nextV l a).1).agg.max))] 34), blk b45 (.cells #[(Value.int .i64 ((atV l a).count)), (Value.int .i64 ((atV l a).sum)), (Value.int .i64 ((atV l a).min)), (Value.int .i64 ((atV l a).max))] 45), blk b41 (.cells #[(Value.int .i64 ((atV l a).count)), (Value.int .i64 ((atV l a).sum)), (Value.int .i64 ((atV l a).min)), (Value.int .i64 ((atV l a).max))] 32), blk cb14 (.cells #[v15] 135), own 34 6 v15 l.length (l.flatMap verE), own 34 6 v9 ys_.length (ys_.flatMap verE), own 51 6 v5 l.length (l.flatMap verE)] [SlAt 6 v l.length (l.flatMap verE)])
          refine TW.pure (v := (Value.bool false)) rfl (by decide) (by decide) rfl (fun w => (Step.cast (congrArg Value.bool (by simp)) (Step.pure (v := .bool (!((!decide (atV l a = atV l b)) == (!decide (atV l a = atV l b))))) (by kernel_rfl)))) ?_
          refine TW.pure (v := (Value.bool false)) rfl (by decide) (by decide) rfl (fun w => (Step.pick (t := false) rfl rfl)) ?_
          refine TW.pure (v := (Value.bool false)) rfl (by decide) (by decide) rfl (fun w => (Step.move rfl)) ?_
          refine TW.read (v := (Value.agg #[(Value.int .u64 (((nextV l a).1).epoch)), (Value.bool (((nextV l a).1).dead)), (Value.int .i64 (((nextV l a).1).agg.count)), (Value.int .i64 (((nextV l a).1).agg.sum)), (Value.int .i64 (((nextV l a).1).agg.min)), (Value.int .i64 (((nextV l a).1).agg.max))])) rfl (by decide) (by decide) rfl (fun A w M => (Step.loadN Try.ag34 rfl (M.blk 2 rfl) (Nat.le_of_ble_eq_true rfl) rfl)) ?_
          refine TW.read (v := (Value.agg #[(Value.int .u64 (((nextV l a).1).epoch)), (Value.bool (((nextV l a).1).dead)), (Value.int .i64 (((nextV l a).1).agg.count)), (Value.int .i64 (((nextV l a).1).agg.sum)), (Value.int .i64 (((nextV l a).1).agg.min)), (Value.int .i64 (((nextV l a).1).agg.max))])) rfl (by decide) (by decide) rfl (fun A w M => (Step.loadN Try.ag51 rfl (M.blk 1 rfl) (Nat.le_of_ble_eq_true rfl) rfl)) ?_
          refine TW.new (obj := .cells #[(Value.int .u64 (((nextV l a).1).epoch)), (Value.bool (((nextV l a).1).dead)), (Value.int .i64 (((nextV l a).1).agg.count)), (Value.int .i64 (((nextV l a).1).agg.sum)), (Value.int .i64 (((nextV l a).1).agg.min)), (Value.int .i64 (((nextV l a).1).agg.max))] 34) (fun b => .slice (some ⟨b, 0, none⟩) 1 1) rfl (by decide) (by decide) rfl (fun w => Step.make (by kernel_rfl)) (fun b62 => ?_)
          refine TW.callX (ι := Value) (fun jx v_ => v_ = jx) (fun jx => [own 51 6 jx (([((nextV l a).1)] : List Ver).length) (([((nextV l a).1)] : List Ver).flatMap verE), blk b62 (.cells #[(Value.int .u64 (((nextV l a).1).epoch)), (Value.bool (((nextV l a).1).dead)), (Value.int .i64 (((nextV l a).1).agg.count)), (Value.int .i64 (((nextV l a).1).agg.sum)), (Value.int .i64 (((nextV l a).1).agg.min)), (Value.int .i64 (((nextV l a).1).agg.max))] 34), blk b53 (.cells #[(Value.int .u64 (((nextV l a).1).epoch)), (Value.bool (((nextV l a).1).dead)), (Value.int .i64 (((nextV l a).1).agg.count)), (Value.int .i64 (((nextV l a).1).agg.sum)), (Value.int .i64 (((nextV l a).1).agg.min)), (Value.int .i64 (((nextV l a).1).agg.max))] 51), blk b49 (.cells #[(Value.int .u64 (((nextV l a).1).epoch)), (Value.bool (((nextV l a).1).dead)), (Value.int .i64 (((nextV l a).1).agg.count)), (Value.int .i64 (((nextV l a).1).agg.sum)), (Value.int .i64 (((nextV l a).1).agg.min)), (Value.int .i64 (((nextV l a).1).agg.max))] 34), blk b45 (.cells #[(Value.int .i64 ((atV l a).count)), (Value.int .i64 ((atV l a).sum)), (Value.int .i64 ((atV l a).min)), (Value.int .i64 ((atV l a).max))] 45), blk b41 (.cells #[(Value.int .i64 ((atV l a).count)), (Value.int .i64 ((atV l a).sum)), (Value.int .i64 ((atV l a).min)), (Value.int .i64 ((atV l a).max))] 32), blk cb14 (.cells #[v15] 135), own 34 6 v15 l.length (l.flatMap verE), own 34 6 v9 ys_.length (ys_.flatMap verE), own 51 6 v5 l.length (l.flatMap verE)]) (fun jx => [SlAt 6 v l.length (l.flatMap verE)]) rfl (by decide) rfl (fun jx => (List.Sublist.cons _ (List.Sublist.cons _ (List.Sublist.cons_cons _ (List.Sublist.cons_cons _ (List.Sublist.cons_cons _ (List.Sublist.cons_cons _ (List.Sublist.cons_cons _ (List.Sublist.cons_cons _ (List.Sublist.cons_cons _ (List.Sublist.cons_cons _ List.Sublist.slnil))))))))))) (fun jx r h => h) (fun A w M => Rets.mono (law_refs (Value.slice (some ⟨b62, 0, none⟩) 1 1) ([((nextV l a).1)] : List Ver) (by first | omega | assumption | decide | (simp only [List.length_nil, List.length_cons, List.length_take, List.length_drop]; omega)) (M.enterW0 ⟨((M.wideC0 1 rfl).imp fun _ h => SlAt.of_blk (n := 1) (size := 6) h rfl (by decide)), trivial⟩)) (fun v_ w_ ⟨v63, e_, m⟩ => ⟨v63, e_, (M.leaveW0 m).sel (L' := [fl A, own 51 6 v63 (([((nextV l a).1)] : List Ver).length) (([((nextV l a).1)] : List Ver).flatMap verE), blk b62 (.cells #[(Value.int .u64 (((nextV l a).1).epoch)), (Value.bool (((nextV l a).1).dead)), (Value.int .i64 (((nextV l a).1).agg.count)), (Value.int .i64 (((nextV l a).1).agg.sum)), (Value.int .i64 (((nextV l a).1).agg.min)), (Value.int .i64 (((nextV l a).1).agg.max))] 34), blk b53 (.cells #[(Value.int .u64 (((nextV l a).1).epoch)), (Value.bool (((nextV l a).1).dead)), (Value.int .i64 (((nextV l a).1).agg.count)), (Value.int .i64 (((nextV l a).1).agg.sum)), (Value.int .i64 (((nextV l a).1).agg.min)), (Value.int .i64 (((nextV l a).1).agg.max))] 51), blk b49 (.cells #[(Value.int .u64 (((nextV l a).1).epoch)), (Value.bool (((nextV l a).1).dead)), (Value.int .i64 (((nextV l a).1).agg.count)), (Value.int .i64 (((nextV l a).1).agg.sum)), (Value.int .i64 (((nextV l a).1).agg.min)), (Value.int .i64 (((nextV l a).1).agg.max))] 34), blk b45 (.cells #[(Value.int .i64 ((atV l a).count)), (Value.int .i64 ((atV l a).sum)), (Value.int .i64 ((atV l a).min)), (Value.int .i64 ((atV l a).max))] 45), blk b41 (.cells #[(Value.int .i64 ((atV l a).count)), (Value.int .i64 ((atV l a).sum)), (Value.int .i64 ((atV l a).min)), (Value.int .i64 ((atV l a).max))] 32), blk cb14 (.cells #[v15] 135), own 34 6 v15 l.length (l.flatMap verE), own 34 6 v9 ys_.length (ys_.flatMap verE), own 51 6 v5 l.length (l.flatMap verE)]) [1, 0, 2, 3, 4, 5, 6, 7, 8, 9, 10] rfl (by decide), fun b hb => M.keptW0 m (fl A) (List.mem_cons_self ..) b hb⟩)) (fun w => CallsF.func Try.en22 rfl) (fun v63 v hp hin => ?_)
          replace hp := hp.symm; subst hp
          obtain ⟨_, _, hin⟩ := hin
          have sl64 : IsSl v63 := SlAt.isSl (own_slAt (Mem.chunk hin 1 rfl).inv)
          have hle65 := SlAt.le' (own_slAt (Mem.chunk hin 1 rfl).inv)
          obtain ⟨_, hb66⟩ := SlAt.base (n := 1) (own_slAt (Mem.chunk hin 1 rfl).inv) (by simp)
          clear hin
          change TW _ _ _ _ _ _ _ _ (MemA _ _ _ [own 51 6 v63 (([((nextV l a).1)] : List Ver).length) (([((nextV l a).1)] : List Ver).flatMap verE), blk b62 (.cells #[(Value.int .u64 (((nextV l a).1).epoch)), (Value.bool (((nextV l a).1).dead)), (Value.int .i64 (((nextV l a).1).agg.count)), (Value.int .i64 (((nextV l a).1).agg.sum)), (Value.int .i64 (((nextV l a).1).agg.min)), (Value.int .i64 (((nextV l a).1).agg.max))] 34), blk b53 (.cells #[(Value.int .u64 (((nextV l a).1).epoch)), (Value.bool (((nextV l a).1).dead)), (Value.int .i64 (((nextV l a).1).agg.count)), (Value.int .i64 (((nextV l a).1).agg.sum)), (Value.int .i64 (((nextV l a).1).agg.min)), (Value.int .i64 (((nextV l a).1).agg.max))] 51), blk b49 (.cells #[(Value.int .u64 (((nextV l a).1).epoch)), (Value.bool (((nextV l a).1).dead)), (Value.int .i64 (((nextV l a).1).agg.count)), (Value.int .i64 (((nextV l a).1).agg.sum)), (Value.int .i64 (((nextV l a).1).agg.min)), (Value.int .i64 (((nextV l a).1).agg.max))] 34), blk b45 (.cells #[(Value.int .i64 ((atV l a).count)), (Value.int .i64 ((atV l a).sum)), (Value.int .i64 ((atV l a).min)), (Value.int .i64 ((atV l a).max))] 45), blk b41 (.cells #[(Value.int .i64 ((atV l a).count)), (Value.int .i64 ((atV l a).sum)), (Value.int .i64 ((atV l a).min)), (Value.int .i64 ((atV l a).max))] 32), blk cb14 (.cells #[v15] 135), own 34 6 v15 l.length (l.flatMap verE), own 34 6 v9 ys_.length (ys_.flatMap verE), own 51 6 v5 l.length (l.flatMap verE)] [SlAt 6 v l.length (l.flatMap verE)])
          refine TW.pure (v := (Value.pointer (some ⟨(sBlk v63), sOff v63 + 0 * 6, none⟩))) rfl (by decide) (by decide) rfl (fun w => (Step.indexAddr (i := 0) (Try.un41).run Try.el51.sized rfl rfl rfl hb66 (by omega))) ?_
          refine TW.readL (v := (Value.agg #[(Value.int .u64 (((nextV l a).1).epoch)), (Value.bool (((nextV l a).1).dead)), (Value.int .i64 (((nextV l a).1).agg.count)), (Value.int .i64 (((nextV l a).1).agg.sum)), (Value.int .i64 (((nextV l a).1).agg.min)), (Value.int .i64 (((nextV l a).1).agg.max))])) rfl (by decide) rfl (List.Sublist.cons _ (List.Sublist.cons _ (List.Sublist.cons_cons _ (List.Sublist.cons_cons _ (List.Sublist.cons_cons _ (List.Sublist.cons_cons _ (List.Sublist.cons_cons _ (List.Sublist.cons_cons _ (List.Sublist.cons_cons _ (List.Sublist.cons_cons _ List.Sublist.slnil)))))))))) (fun r h => h) (fun A w M => (Step.loadEN (k := 0) (cs' := [(Value.int .u64 (((nextV l a).1).epoch)), (Value.bool (((nextV l a).1).dead)), (Value.int .i64 (((nextV l a).1).agg.count)), (Value.int .i64 (((nextV l a).1).agg.sum)), (Value.int .i64 (((nextV l a).1).agg.min)), (Value.int .i64 (((nextV l a).1).agg.max))]) Try.ag51 (flat_ec (i := 0) (x := ((nextV l a).1)) (own_slAt (M.chunk 1 rfl).inv) rfl verE_len) (by decide) rfl rfl rfl)) ?_
          refine TW.pure (v := (Value.bool false)) rfl (by decide) (by decide) rfl (fun w => (Step.cast (congrArg Value.bool (show (!(((((nextV l a).1).epoch : Int) == (((nextV l a).1).epoch : Int)) && (((((nextV l a).1).dead : Bool) == (((nextV l a).1).dead : Bool)) && ((((((nextV l a).1).agg.count : Int) == (((nextV l a).1).agg.count : Int)) && (((((nextV l a).1).agg.sum : Int) == (((nextV l a).1).agg.sum : Int)) && (((((nextV l a).1).agg.min : Int) == (((nextV l a).1).agg.min : Int)) && (((((nextV l a).1).agg.max : Int) == (((nextV l a).1).agg.max : Int)) && true)))) && true)))) = false by rw [ver_eqB ((nextV l a).1) ((nextV l a).1)]; simp)) (Step.neqAgg Try.eg51 rfl rfl rfl (Try.eq51 9997 (((nextV l a).1).epoch : Int) (((nextV l a).1).dead) (((nextV l a).1).agg.count : Int) (((nextV l a).1).agg.sum : Int) (((nextV l a).1).agg.min : Int) (((nextV l a).1).agg.max : Int) (((nextV l a).1).epoch : Int) (((nextV l a).1).dead) (((nextV l a).1).agg.count : Int) (((nextV l a).1).agg.sum : Int) (((nextV l a).1).agg.min : Int) (((nextV l a).1).agg.max : Int))))) ?_
          refine TW.pure (v := (Value.bool false)) rfl (by decide) (by decide) rfl (fun w => (Step.pick (t := false) rfl rfl)) ?_
          refine TW.pure (v := (Value.bool false)) rfl (by decide) (by decide) rfl (fun w => (Step.move rfl)) ?_
          refine TW.pure (v := (Value.bool ((nextV l a).2))) rfl (by decide) (by decide) rfl (fun w => (Step.move rfl)) ?_
          refine TW.pure (v := (Value.bool ((nextV l a).2))) rfl (by decide) (by decide) rfl (fun w => (Step.move rfl)) ?_
          refine TW.pure (v := (Value.bool false)) rfl (by decide) (by decide) rfl (fun w => (Step.cast (congrArg Value.bool (by simp)) (Step.pure (v := .bool (!(((nextV l a).2) == ((nextV l a).2)))) (by kernel_rfl)))) ?_
          refine TW.pure (v := (Value.bool false)) rfl (by decide) (by decide) rfl (fun w => (Step.pick (t := false) rfl rfl)) ?_
          refine TW.pure (v := (Value.bool false)) rfl (by decide) (by decide) rfl (fun w => (Step.move rfl)) ?_
          refine TW.pure (v := (Value.pointer (some ⟨cb14, 0, none⟩))) rfl (by decide) (by decide) rfl (fun w => (Step.move rfl)) ?_
          refine TW.pure (v := (Value.int .u64 a)) rfl (by decide) (by decide) rfl (fun w => (Step.move rfl)) ?_
          refine TW.pure (v := (Value.int .u64 b)) rfl (by decide) (by decide) rfl (fun w => (Step.move rfl)) ?_
          refine TW.callX (ι := Unit) (fun jx v_ => v_ = (Value.bool (garb l a b))) (fun jx => [own 51 6 v63 (([((nextV l a).1)] : List Ver).length) (([((nextV l a).1)] : List Ver).flatMap verE), blk b62 (.cells #[(Value.int .u64 (((nextV l a).1).epoch)), (Value.bool (((nextV l a).1).dead)), (Value.int .i64 (((nextV l a).1).agg.count)), (Value.int .i64 (((nextV l a).1).agg.sum)), (Value.int .i64 (((nextV l a).1).agg.min)), (Value.int .i64 (((nextV l a).1).agg.max))] 34), blk b53 (.cells #[(Value.int .u64 (((nextV l a).1).epoch)), (Value.bool (((nextV l a).1).dead)), (Value.int .i64 (((nextV l a).1).agg.count)), (Value.int .i64 (((nextV l a).1).agg.sum)), (Value.int .i64 (((nextV l a).1).agg.min)), (Value.int .i64 (((nextV l a).1).agg.max))] 51), blk b49 (.cells #[(Value.int .u64 (((nextV l a).1).epoch)), (Value.bool (((nextV l a).1).dead)), (Value.int .i64 (((nextV l a).1).agg.count)), (Value.int .i64 (((nextV l a).1).agg.sum)), (Value.int .i64 (((nextV l a).1).agg.min)), (Value.int .i64 (((nextV l a).1).agg.max))] 34), blk b45 (.cells #[(Value.int .i64 ((atV l a).count)), (Value.int .i64 ((atV l a).sum)), (Value.int .i64 ((atV l a).min)), (Value.int .i64 ((atV l a).max))] 45), blk b41 (.cells #[(Value.int .i64 ((atV l a).count)), (Value.int .i64 ((atV l a).sum)), (Value.int .i64 ((atV l a).min)), (Value.int .i64 ((atV l a).max))] 32), blk cb14 (.cells #[v15] 135), own 34 6 v15 l.length (l.flatMap verE), own 34 6 v9 ys_.length (ys_.flatMap verE), own 51 6 v5 l.length (l.flatMap verE)]) (fun jx => [SlAt 6 v l.length (l.flatMap verE)]) rfl (by decide) rfl (fun jx => (List.Sublist.cons _ (List.Sublist.cons _ (List.Sublist.cons_cons _ (List.Sublist.cons_cons _ (List.Sublist.cons_cons _ (List.Sublist.cons_cons _ (List.Sublist.cons_cons _ (List.Sublist.cons_cons _ (List.Sublist.cons_cons _ (List.Sublist.cons_cons _ List.Sublist.slnil))))))))))) (fun jx r h => h) (fun A w M => Rets.mono (ch_garb cb14 v15 l a b (M.enterW0 ⟨(M.wideC0 7 rfl), ((M.wideC0 8 rfl).imp fun _ h => own_slAt h), trivial⟩)) (fun v_ w_ ⟨e_, m⟩ => ⟨(), e_, (M.leaveW0 m).sel (L' := [fl A, own 51 6 v63 (([((nextV l a).1)] : List Ver).length) (([((nextV l a).1)] : List Ver).flatMap verE), blk b62 (.cells #[(Value.int .u64 (((nextV l a).1).epoch)), (Value.bool (((nextV l a).1).dead)), (Value.int .i64 (((nextV l a).1).agg.count)), (Value.int .i64 (((nextV l a).1).agg.sum)), (Value.int .i64 (((nextV l a).1).agg.min)), (Value.int .i64 (((nextV l a).1).agg.max))] 34), blk b53 (.cells #[(Value.int .u64 (((nextV l a).1).epoch)), (Value.bool (((nextV l a).1).dead)), (Value.int .i64 (((nextV l a).1).agg.count)), (Value.int .i64 (((nextV l a).1).agg.sum)), (Value.int .i64 (((nextV l a).1).agg.min)), (Value.int .i64 (((nextV l a).1).agg.max))] 51), blk b49 (.cells #[(Value.int .u64 (((nextV l a).1).epoch)), (Value.bool (((nextV l a).1).dead)), (Value.int .i64 (((nextV l a).1).agg.count)), (Value.int .i64 (((nextV l a).1).agg.sum)), (Value.int .i64 (((nextV l a).1).agg.min)), (Value.int .i64 (((nextV l a).1).agg.max))] 34), blk b45 (.cells #[(Value.int .i64 ((atV l a).count)), (Value.int .i64 ((atV l a).sum)), (Value.int .i64 ((atV l a).min)), (Value.int .i64 ((atV l a).max))] 45), blk b41 (.cells #[(Value.int .i64 ((atV l a).count)), (Value.int .i64 ((atV l a).sum)), (Value.int .i64 ((atV l a).min)), (Value.int .i64 ((atV l a).max))] 32), blk cb14 (.cells #[v15] 135), own 34 6 v15 l.length (l.flatMap verE), own 34 6 v9 ys_.length (ys_.flatMap verE), own 51 6 v5 l.length (l.flatMap verE)]) [0, 1, 2, 3, 4, 5, 6, 7, 8, 9, 10] rfl (by decide), fun b hb => M.keptW0 m (fl A) (List.mem_cons_self ..) b hb⟩)) (fun w => CallsF.func Try.en18 rfl) (fun jx v hp hin => ?_)
          replace hp := hp.symm; subst hp
          clear hin
          change TW _ _ _ _ _ _ _ _ (MemA _ _ _ [own 51 6 v63 (([((nextV l a).1)] : List Ver).length) (([((nextV l a).1)] : List Ver).flatMap verE), blk b62 (.cells #[(Value.int .u64 (((nextV l a).1).epoch)), (Value.bool (((nextV l a).1).dead)), (Value.int .i64 (((nextV l a).1).agg.count)), (Value.int .i64 (((nextV l a).1).agg.sum)), (Value.int .i64 (((nextV l a).1).agg.min)), (Value.int .i64 (((nextV l a).1).agg.max))] 34), blk b53 (.cells #[(Value.int .u64 (((nextV l a).1).epoch)), (Value.bool (((nextV l a).1).dead)), (Value.int .i64 (((nextV l a).1).agg.count)), (Value.int .i64 (((nextV l a).1).agg.sum)), (Value.int .i64 (((nextV l a).1).agg.min)), (Value.int .i64 (((nextV l a).1).agg.max))] 51), blk b49 (.cells #[(Value.int .u64 (((nextV l a).1).epoch)), (Value.bool (((nextV l a).1).dead)), (Value.int .i64 (((nextV l a).1).agg.count)), (Value.int .i64 (((nextV l a).1).agg.sum)), (Value.int .i64 (((nextV l a).1).agg.min)), (Value.int .i64 (((nextV l a).1).agg.max))] 34), blk b45 (.cells #[(Value.int .i64 ((atV l a).count)), (Value.int .i64 ((atV l a).sum)), (Value.int .i64 ((atV l a).min)), (Value.int .i64 ((atV l a).max))] 45), blk b41 (.cells #[(Value.int .i64 ((atV l a).count)), (Value.int .i64 ((atV l a).sum)), (Value.int .i64 ((atV l a).min)), (Value.int .i64 ((atV l a).max))] 32), blk cb14 (.cells #[v15] 135), own 34 6 v15 l.length (l.flatMap verE), own 34 6 v9 ys_.length (ys_.flatMap verE), own 51 6 v5 l.length (l.flatMap verE)] [SlAt 6 v l.length (l.flatMap verE)])
          refine TW.pure (v := v5) rfl (by decide) (by decide) rfl (fun w => (Step.move rfl)) ?_
          refine TW.pure (v := (Value.int .u64 a)) rfl (by decide) (by decide) rfl (fun w => (Step.move rfl)) ?_
          refine TW.pure (v := (Value.int .u64 b)) rfl (by decide) (by decide) rfl (fun w => (Step.move rfl)) ?_
          refine TW.callX (ι := Unit) (fun jx v_ => v_ = (Value.bool (garb l a b))) (fun jx => [own 51 6 v63 (([((nextV l a).1)] : List Ver).length) (([((nextV l a).1)] : List Ver).flatMap verE), blk b62 (.cells #[(Value.int .u64 (((nextV l a).1).epoch)), (Value.bool (((nextV l a).1).dead)), (Value.int .i64 (((nextV l a).1).agg.count)), (Value.int .i64 (((nextV l a).1).agg.sum)), (Value.int .i64 (((nextV l a).1).agg.min)), (Value.int .i64 (((nextV l a).1).agg.max))] 34), blk b53 (.cells #[(Value.int .u64 (((nextV l a).1).epoch)), (Value.bool (((nextV l a).1).dead)), (Value.int .i64 (((nextV l a).1).agg.count)), (Value.int .i64 (((nextV l a).1).agg.sum)), (Value.int .i64 (((nextV l a).1).agg.min)), (Value.int .i64 (((nextV l a).1).agg.max))] 51), blk b49 (.cells #[(Value.int .u64 (((nextV l a).1).epoch)), (Value.bool (((nextV l a).1).dead)), (Value.int .i64 (((nextV l a).1).agg.count)), (Value.int .i64 (((nextV l a).1).agg.sum)), (Value.int .i64 (((nextV l a).1).agg.min)), (Value.int .i64 (((nextV l a).1).agg.max))] 34), blk b45 (.cells #[(Value.int .i64 ((atV l a).count)), (Value.int .i64 ((atV l a).sum)), (Value.int .i64 ((atV l a).min)), (Value.int .i64 ((atV l a).max))] 45), blk b41 (.cells #[(Value.int .i64 ((atV l a).count)), (Value.int .i64 ((atV l a).sum)), (Value.int .i64 ((atV l a).min)), (Value.int .i64 ((atV l a).max))] 32), blk cb14 (.cells #[v15] 135), own 34 6 v15 l.length (l.flatMap verE), own 34 6 v9 ys_.length (ys_.flatMap verE), own 51 6 v5 l.length (l.flatMap verE)]) (fun jx => [SlAt 6 v l.length (l.flatMap verE)]) rfl (by decide) rfl (fun jx => (List.Sublist.cons _ (List.Sublist.cons _ (List.Sublist.cons_cons _ (List.Sublist.cons_cons _ (List.Sublist.cons_cons _ (List.Sublist.cons_cons _ (List.Sublist.cons_cons _ (List.Sublist.cons_cons _ (List.Sublist.cons_cons _ (List.Sublist.cons_cons _ List.Sublist.slnil))))))))))) (fun jx r h => h) (fun A w M => Rets.mono (ref_garb v5 l a b (by assumption) (M.enterW0 ⟨((M.wideC0 10 rfl).imp fun _ h => own_slAt h), trivial⟩)) (fun v_ w_ ⟨e_, m⟩ => ⟨(), e_, (M.leaveW0 m).sel (L' := [fl A, own 51 6 v63 (([((nextV l a).1)] : List Ver).length) (([((nextV l a).1)] : List Ver).flatMap verE), blk b62 (.cells #[(Value.int .u64 (((nextV l a).1).epoch)), (Value.bool (((nextV l a).1).dead)), (Value.int .i64 (((nextV l a).1).agg.count)), (Value.int .i64 (((nextV l a).1).agg.sum)), (Value.int .i64 (((nextV l a).1).agg.min)), (Value.int .i64 (((nextV l a).1).agg.max))] 34), blk b53 (.cells #[(Value.int .u64 (((nextV l a).1).epoch)), (Value.bool (((nextV l a).1).dead)), (Value.int .i64 (((nextV l a).1).agg.count)), (Value.int .i64 (((nextV l a).1).agg.sum)), (Value.int .i64 (((nextV l a).1).agg.min)), (Value.int .i64 (((nextV l a).1).agg.max))] 51), blk b49 (.cells #[(Value.int .u64 (((nextV l a).1).epoch)), (Value.bool (((nextV l a).1).dead)), (Value.int .i64 (((nextV l a).1).agg.count)), (Value.int .i64 (((nextV l a).1).agg.sum)), (Value.int .i64 (((nextV l a).1).agg.min)), (Value.int .i64 (((nextV l a).1).agg.max))] 34), blk b45 (.cells #[(Value.int .i64 ((atV l a).count)), (Value.int .i64 ((atV l a).sum)), (Value.int .i64 ((atV l a).min)), (Value.int .i64 ((atV l a).max))] 45), blk b41 (.cells #[(Value.int .i64 ((atV l a).count)), (Value.int .i64 ((atV l a).sum)), (Value.int .i64 ((atV l a).min)), (Value.int .i64 ((atV l a).max))] 32), blk cb14 (.cells #[v15] 135), own 34 6 v15 l.length (l.flatMap verE), own 34 6 v9 ys_.length (ys_.flatMap verE), own 51 6 v5 l.length (l.flatMap verE)]) [0, 1, 2, 3, 4, 5, 6, 7, 8, 9, 10] rfl (by decide), fun b hb => M.keptW0 m (fl A) (List.mem_cons_self ..) b hb⟩)) (fun w => CallsF.func Try.en31 rfl) (fun jx v hp hin => ?_)
          replace hp := hp.symm; subst hp
          clear hin
          change TW _ _ _ _ _ _ _ _ (MemA _ _ _ [own 51 6 v63 (([((nextV l a).1)] : List Ver).length) (([((nextV l a).1)] : List Ver).flatMap verE), blk b62 (.cells #[(Value.int .u64 (((nextV l a).1).epoch)), (Value.bool (((nextV l a).1).dead)), (Value.int .i64 (((nextV l a).1).agg.count)), (Value.int .i64 (((nextV l a).1).agg.sum)), (Value.int .i64 (((nextV l a).1).agg.min)), (Value.int .i64 (((nextV l a).1).agg.max))] 34), blk b53 (.cells #[(Value.int .u64 (((nextV l a).1).epoch)), (Value.bool (((nextV l a).1).dead)), (Value.int .i64 (((nextV l a).1).agg.count)), (Value.int .i64 (((nextV l a).1).agg.sum)), (Value.int .i64 (((nextV l a).1).agg.min)), (Value.int .i64 (((nextV l a).1).agg.max))] 51), blk b49 (.cells #[(Value.int .u64 (((nextV l a).1).epoch)), (Value.bool (((nextV l a).1).dead)), (Value.int .i64 (((nextV l a).1).agg.count)), (Value.int .i64 (((nextV l a).1).agg.sum)), (Value.int .i64 (((nextV l a).1).agg.min)), (Value.int .i64 (((nextV l a).1).agg.max))] 34), blk b45 (.cells #[(Value.int .i64 ((atV l a).count)), (Value.int .i64 ((atV l a).sum)), (Value.int .i64 ((atV l a).min)), (Value.int .i64 ((atV l a).max))] 45), blk b41 (.cells #[(Value.int .i64 ((atV l a).count)), (Value.int .i64 ((atV l a).sum)), (Value.int .i64 ((atV l a).min)), (Value.int .i64 ((atV l a).max))] 32), blk cb14 (.cells #[v15] 135), own 34 6 v15 l.length (l.flatMap verE), own 34 6 v9 ys_.length (ys_.flatMap verE), own 51 6 v5 l.length (l.flatMap verE)] [SlAt 6 v l.length (l.flatMap verE)])
          refine TW.pure (v := (Value.bool false)) rfl (by decide) (by decide) rfl (fun w => (Step.cast (congrArg Value.bool (by simp)) (Step.pure (v := .bool (!((garb l a b) == (garb l a b)))) (by kernel_rfl)))) ?_
          refine TW.pure (v := (Value.bool false)) rfl (by decide) (by decide) rfl (fun w => (Step.pick (t := false) rfl rfl)) ?_
          refine TW.pure (v := (Value.bool false)) rfl (by decide) (by decide) rfl (fun w => (Step.move rfl)) ?_
          refine TW.pure (v := (Value.pointer (some ⟨cb14, 0, none⟩))) rfl (by decide) (by decide) rfl (fun w => (Step.move rfl)) ?_
          refine TW.callX (ι := Unit) (fun jx v_ => v_ = (Value.int .i64 ↑l.length)) (fun jx => [own 51 6 v63 (([((nextV l a).1)] : List Ver).length) (([((nextV l a).1)] : List Ver).flatMap verE), blk b62 (.cells #[(Value.int .u64 (((nextV l a).1).epoch)), (Value.bool (((nextV l a).1).dead)), (Value.int .i64 (((nextV l a).1).agg.count)), (Value.int .i64 (((nextV l a).1).agg.sum)), (Value.int .i64 (((nextV l a).1).agg.min)), (Value.int .i64 (((nextV l a).1).agg.max))] 34), blk b53 (.cells #[(Value.int .u64 (((nextV l a).1).epoch)), (Value.bool (((nextV l a).1).dead)), (Value.int .i64 (((nextV l a).1).agg.count)), (Value.int .i64 (((nextV l a).1).agg.sum)), (Value.int .i64 (((nextV l a).1).agg.min)), (Value.int .i64 (((nextV l a).1).agg.max))] 51), blk b49 (.cells #[(Value.int .u64 (((nextV l a).1).epoch)), (Value.bool (((nextV l a).1).dead)), (Value.int .i64 (((nextV l a).1).agg.count)), (Value.int .i64 (((nextV l a).1).agg.sum)), (Value.int .i64 (((nextV l a).1).agg.min)), (Value.int .i64 (((nextV l a).1).agg.max))] 34), blk b45 (.cells #[(Value.int .i64 ((atV l a).count)), (Value.int .i64 ((atV l a).sum)), (Value.int .i64 ((atV l a).min)), (Value.int .i64 ((atV l a).max))] 45), blk b41 (.cells #[(Value.int .i64 ((atV l a).count)), (Value.int .i64 ((atV l a).sum)), (Value.int .i64 ((atV l a).min)), (Value.int .i64 ((atV l a).max))] 32), blk cb14 (.cells #[v15] 135), own 34 6 v15 l.length (l.flatMap verE), own 34 6 v9 ys_.length (ys_.flatMap verE), own 51 6 v5 l.length (l.flatMap verE)]) (fun jx => [SlAt 6 v l.length (l.flatMap verE)]) rfl (by decide) rfl (fun jx => (List.Sublist.cons _ (List.Sublist.cons _ (List.Sublist.cons_cons _ (List.Sublist.cons_cons _ (List.Sublist.cons_cons _ (List.Sublist.cons_cons _ (List.Sublist.cons_cons _ (List.Sublist.cons_cons _ (List.Sublist.cons_cons _ (List.Sublist.cons_cons _ List.Sublist.slnil))))))))))) (fun jx r h => h) (fun A w M => Rets.mono (ch_len cb14 v15 l (by first | omega | assumption | decide | (simp only [List.length_nil, List.length_cons, List.length_take, List.length_drop]; omega)) (M.enterW0 ⟨(M.wideC0 7 rfl), ((M.wideC0 8 rfl).imp fun _ h => own_slAt h), trivial⟩)) (fun v_ w_ ⟨e_, m⟩ => ⟨(), e_, (M.leaveW0 m).sel (L' := [fl A, own 51 6 v63 (([((nextV l a).1)] : List Ver).length) (([((nextV l a).1)] : List Ver).flatMap verE), blk b62 (.cells #[(Value.int .u64 (((nextV l a).1).epoch)), (Value.bool (((nextV l a).1).dead)), (Value.int .i64 (((nextV l a).1).agg.count)), (Value.int .i64 (((nextV l a).1).agg.sum)), (Value.int .i64 (((nextV l a).1).agg.min)), (Value.int .i64 (((nextV l a).1).agg.max))] 34), blk b53 (.cells #[(Value.int .u64 (((nextV l a).1).epoch)), (Value.bool (((nextV l a).1).dead)), (Value.int .i64 (((nextV l a).1).agg.count)), (Value.int .i64 (((nextV l a).1).agg.sum)), (Value.int .i64 (((nextV l a).1).agg.min)), (Value.int .i64 (((nextV l a).1).agg.max))] 51), blk b49 (.cells #[(Value.int .u64 (((nextV l a).1).epoch)), (Value.bool (((nextV l a).1).dead)), (Value.int .i64 (((nextV l a).1).agg.count)), (Value.int .i64 (((nextV l a).1).agg.sum)), (Value.int .i64 (((nextV l a).1).agg.min)), (Value.int .i64 (((nextV l a).1).agg.max))] 34), blk b45 (.cells #[(Value.int .i64 ((atV l a).count)), (Value.int .i64 ((atV l a).sum)), (Value.int .i64 ((atV l a).min)), (Value.int .i64 ((atV l a).max))] 45), blk b41 (.cells #[(Value.int .i64 ((atV l a).count)), (Value.int .i64 ((atV l a).sum)), (Value.int .i64 ((atV l a).min)), (Value.int .i64 ((atV l a).max))] 32), blk cb14 (.cells #[v15] 135), own 34 6 v15 l.length (l.flatMap verE), own 34 6 v9 ys_.length (ys_.flatMap verE), own 51 6 v5 l.length (l.flatMap verE)]) [0, 1, 2, 3, 4, 5, 6, 7, 8, 9, 10] rfl (by decide), fun b hb => M.keptW0 m (fl A) (List.mem_cons_self ..) b hb⟩)) (fun w => CallsF.func Try.en32 rfl) (fun jx v hp hin => ?_)
          replace hp := hp.symm; subst hp
          clear hin
          change TW _ _ _ _ _ _ _ _ (MemA _ _ _ [own 51 6 v63 (([((nextV l a).1)] : List Ver).length) (([((nextV l a).1)] : List Ver).flatMap verE), blk b62 (.cells #[(Value.int .u64 (((nextV l a).1).epoch)), (Value.bool (((nextV l a).1).dead)), (Value.int .i64 (((nextV l a).1).agg.count)), (Value.int .i64 (((nextV l a).1).agg.sum)), (Value.int .i64 (((nextV l a).1).agg.min)), (Value.int .i64 (((nextV l a).1).agg.max))] 34), blk b53 (.cells #[(Value.int .u64 (((nextV l a).1).epoch)), (Value.bool (((nextV l a).1).dead)), (Value.int .i64 (((nextV l a).1).agg.count)), (Value.int .i64 (((nextV l a).1).agg.sum)), (Value.int .i64 (((nextV l a).1).agg.min)), (Value.int .i64 (((nextV l a).1).agg.max))] 51), blk b49 (.cells #[(Value.int .u64 (((nextV l a).1).epoch)), (Value.bool (((nextV l a).1).dead)), (Value.int .i64 (((nextV l a).1).agg.count)), (Value.int .i64 (((nextV l a).1).agg.sum)), (Value.int .i64 (((nextV l a).1).agg.min)), (Value.int .i64 (((nextV l a).1).agg.max))] 34), blk b45 (.cells #[(Value.int .i64 ((atV l a).count)), (Value.int .i64 ((atV l a).sum)), (Value.int .i64 ((atV l a).min)), (Value.int .i64 ((atV l a).max))] 45), blk b41 (.cells #[(Value.int .i64 ((atV l a).count)), (Value.int .i64 ((atV l a).sum)), (Value.int .i64 ((atV l a).min)), (Value.int .i64 ((atV l a).max))] 32), blk cb14 (.cells #[v15] 135), own 34 6 v15 l.length (l.flatMap verE), own 34 6 v9 ys_.length (ys_.flatMap verE), own 51 6 v5 l.length (l.flatMap verE)] [SlAt 6 v l.length (l.flatMap verE)])
          refine TW.pure (v := v5) rfl (by decide) (by decide) rfl (fun w => (Step.move rfl)) ?_
          refine TW.read (v := (Value.int .i64 ↑l.length)) rfl (by decide) (by decide) rfl (fun A w M => (Step.lenSl Try.un41 rfl (own_slAt (M.chunk 8 rfl).inv))) ?_
          refine TW.pure (v := (Value.bool false)) rfl (by decide) (by decide) rfl (fun w => (Step.cast (congrArg Value.bool (show ((↑l.length : Int) != (↑l.length : Int)) = false by simp)) (Step.pure (by kernel_rfl)))) ?_
          refine TW.pure (v := (Value.bool false)) rfl (by decide) (by decide) rfl (fun w => (Step.pick (t := false) rfl rfl)) ?_
          refine TW.done (fun w67 M => ?_)
          refine W.cond (t := false) rfl (fun h => by cases h) (fun _ => ?_)
          refine W.skip ?_
          refine W.seq' ?_
          refine W.region rfl ?_
          refine WL.step (v := (Value.pointer (some ⟨cb14, 0, none⟩))) rfl (Step.move rfl) ?_
          refine WL.callX rfl (ch_versions cb14 v15 l (by first | omega | assumption | decide | (simp only [List.length_nil, List.length_cons, List.length_take, List.length_drop]; omega)) (M.enterW0 ⟨(M.wideC0 6 rfl), ((M.wideC0 7 rfl).imp fun _ h => own_slAt h), trivial⟩)) (CallsF.func Try.en20 rfl) ?_
          rintro v68 w69 ⟨_, rfl, m⟩
          replace M := M.leaveW0 m
          clear m
          replace M : Mem _ _ _ [own 34 6 v68 l.length (l.flatMap verE), own 51 6 v63 (([((nextV l a).1)] : List Ver).length) (([((nextV l a).1)] : List Ver).flatMap verE), blk b62 (.cells #[(Value.int .u64 (((nextV l a).1).epoch)), (Value.bool (((nextV l a).1).dead)), (Value.int .i64 (((nextV l a).1).agg.count)), (Value.int .i64 (((nextV l a).1).agg.sum)), (Value.int .i64 (((nextV l a).1).agg.min)), (Value.int .i64 (((nextV l a).1).agg.max))] 34), blk b53 (.cells #[(Value.int .u64 (((nextV l a).1).epoch)), (Value.bool (((nextV l a).1).dead)), (Value.int .i64 (((nextV l a).1).agg.count)), (Value.int .i64 (((nextV l a).1).agg.sum)), (Value.int .i64 (((nextV l a).1).agg.min)), (Value.int .i64 (((nextV l a).1).agg.max))] 51), blk b49 (.cells #[(Value.int .u64 (((nextV l a).1).epoch)), (Value.bool (((nextV l a).1).dead)), (Value.int .i64 (((nextV l a).1).agg.count)), (Value.int .i64 (((nextV l a).1).agg.sum)), (Value.int .i64 (((nextV l a).1).agg.min)), (Value.int .i64 (((nextV l a).1).agg.max))] 34), blk b45 (.cells #[(Value.int .i64 ((atV l a).count)), (Value.int .i64 ((atV l a).sum)), (Value.int .i64 ((atV l a).min)), (Value.int .i64 ((atV l a).max))] 45), blk b41 (.cells #[(Value.int .i64 ((atV l a).count)), (Value.int .i64 ((atV l a).sum)), (Value.int .i64 ((atV l a).min)), (Value.int .i64 ((atV l a).max))] 32), blk cb14 (.cells #[v15] 135), own 34 6 v15 l.length (l.flatMap verE), own 34 6 v9 ys_.length (ys_.flatMap verE), own 51 6 v5 l.length (l.flatMap verE)] [SlAt 6 v l.length (l.flatMap verE)] _ := M
          have sl70 : IsSl v68 := SlAt.isSl (own_slAt (Mem.chunk M 0 rfl).inv)
          have hle71 := SlAt.le' (own_slAt (Mem.chunk M 0 rfl).inv)
          refine WL.step (v := v68) rfl (Step.assign rfl) ?_
          refine WL.nil ?_
          refine W.seq' ?_
          refine W.seq' ?_
          refine W.region rfl ?_
          refine WL.step (v := v68) rfl (Step.move rfl) ?_
          refine WL.step (v := v5) rfl (Step.move rfl) ?_
          refine WL.callX rfl (law_same v68 l v5 l (by first | omega | assumption | decide | (simp only [List.length_nil, List.length_cons, List.length_take, List.length_drop]; omega)) (M.enterW0 ⟨((M.wideC0 0 rfl).imp fun _ h => own_slAt h), ((M.wideC0 10 rfl).imp fun _ h => own_slAt h), trivial⟩)) (CallsF.func Try.en33 rfl) ?_
          rintro _ w72 ⟨rfl, m⟩
          replace M := M.leaveW0 m
          clear m
          replace M : Mem _ _ _ [own 34 6 v68 l.length (l.flatMap verE), own 51 6 v63 (([((nextV l a).1)] : List Ver).length) (([((nextV l a).1)] : List Ver).flatMap verE), blk b62 (.cells #[(Value.int .u64 (((nextV l a).1).epoch)), (Value.bool (((nextV l a).1).dead)), (Value.int .i64 (((nextV l a).1).agg.count)), (Value.int .i64 (((nextV l a).1).agg.sum)), (Value.int .i64 (((nextV l a).1).agg.min)), (Value.int .i64 (((nextV l a).1).agg.max))] 34), blk b53 (.cells #[(Value.int .u64 (((nextV l a).1).epoch)), (Value.bool (((nextV l a).1).dead)), (Value.int .i64 (((nextV l a).1).agg.count)), (Value.int .i64 (((nextV l a).1).agg.sum)), (Value.int .i64 (((nextV l a).1).agg.min)), (Value.int .i64 (((nextV l a).1).agg.max))] 51), blk b49 (.cells #[(Value.int .u64 (((nextV l a).1).epoch)), (Value.bool (((nextV l a).1).dead)), (Value.int .i64 (((nextV l a).1).agg.count)), (Value.int .i64 (((nextV l a).1).agg.sum)), (Value.int .i64 (((nextV l a).1).agg.min)), (Value.int .i64 (((nextV l a).1).agg.max))] 34), blk b45 (.cells #[(Value.int .i64 ((atV l a).count)), (Value.int .i64 ((atV l a).sum)), (Value.int .i64 ((atV l a).min)), (Value.int .i64 ((atV l a).max))] 45), blk b41 (.cells #[(Value.int .i64 ((atV l a).count)), (Value.int .i64 ((atV l a).sum)), (Value.int .i64 ((atV l a).min)), (Value.int .i64 ((atV l a).max))] 32), blk cb14 (.cells #[v15] 135), own 34 6 v15 l.length (l.flatMap verE), own 34 6 v9 ys_.length (ys_.flatMap verE), own 51 6 v5 l.length (l.flatMap verE)] [SlAt 6 v l.length (l.flatMap verE)] _ := M
          rw [(show (decide (l = l)) = true by simp)]
          refine WL.step (v := (Value.bool false)) rfl (Step.pure (by kernel_rfl)) ?_
          refine WL.nil ?_
          refine W.cond (t := false) rfl (fun h => by cases h) (fun _ => ?_)
          refine W.skip ?_
          refine W.seq' ?_
          refine W.region rfl ?_
          refine WL.step (v := (Value.int .i64 0)) rfl (Step.assign rfl) ?_
          refine WL.nil ?_
          refine W.block ?_
          refine W.loop (fun kk ρ w' => ∃ (j_ : Nat) (zs_ : List Ver), ((zs_.length = l.length) ∧ (j_ ≤ l.length) ∧ kk = l.length - j_) ∧ ρ.has [(1, (Value.int .u64 a)), (2, (Value.int .u64 b)), (7, v5), (9, (Value.pointer (some ⟨cb14, 0, none⟩))), (12, (Value.int .i64 ↑t_)), (13, (Value.pointer (some ⟨b41, 0, none⟩))), (14, (Value.bool (!decide (atV l a = aggZ)))), (15, (Value.pointer (some ⟨b45, 0, none⟩))), (16, (Value.bool (!decide (atV l a = aggZ)))), (17, (Value.pointer (some ⟨b49, 0, none⟩))), (18, (Value.bool ((nextV l a).2))), (19, (Value.pointer (some ⟨b53, 0, none⟩))), (20, (Value.bool ((nextV l a).2))), (21, v68), (22, (Value.int .i64 ↑j_)), (73, (Value.int .i64 ↑t_)), (74, (Value.bool (decide ((↑t_ : Int) < (2 : Int))))), (77, (Value.tuple #[(Value.agg #[(Value.int .i64 ((atV l a).count)), (Value.int .i64 ((atV l a).sum)), (Value.int .i64 ((atV l a).min)), (Value.int .i64 ((atV l a).max))]), (Value.bool (!decide (atV l a = aggZ)))])), (78, (Value.pointer (some ⟨cb14, 0, none⟩))), (79, (Value.int .u64 a)), (80, (Value.tuple #[(Value.agg #[(Value.int .i64 ((atV l a).count)), (Value.int .i64 ((atV l a).sum)), (Value.int .i64 ((atV l a).min)), (Value.int .i64 ((atV l a).max))]), (Value.bool (!decide (atV l a = aggZ)))])), (81, (Value.agg #[(Value.int .i64 ((atV l a).count)), (Value.int .i64 ((atV l a).sum)), (Value.int .i64 ((atV l a).min)), (Value.int .i64 ((atV l a).max))])), (82, (Value.bool (!decide (atV l a = aggZ)))), (83, (Value.tuple #[(Value.agg #[(Value.int .i64 ((atV l a).count)), (Value.int .i64 ((atV l a).sum)), (Value.int .i64 ((atV l a).min)), (Value.int .i64 ((atV l a).max))]), (Value.bool (!decide (atV l a = aggZ)))])), (84, v5), (85, (Value.int .u64 a)), (86, (Value.tuple #[(Value.agg #[(Value.int .i64 ((atV l a).count)), (Value.int .i64 ((atV l a).sum)), (Value.int .i64 ((atV l a).min)), (Value.int .i64 ((atV l a).max))]), (Value.bool (!decide (atV l a = aggZ)))])), (87, (Value.agg #[(Value.int .i64 ((atV l a).count)), (Value.int .i64 ((atV l a).sum)), (Value.int .i64 ((atV l a).min)), (Value.int .i64 ((atV l a).max))])), (88, (Value.bool (!decide (atV l a = aggZ)))), (89, (Value.tuple #[(Value.agg #[(Value.int .u64 (((nextV l a).1).epoch)), (Value.bool (((nextV l a).1).dead)), (Value.int .i64 (((nextV l a).1).agg.count)), (Value.int .i64 (((nextV l a).1).agg.sum)), (Value.int .i64 (((nextV l a).1).agg.min)), (Value.int .i64 (((nextV l a).1).agg.max))]), (Value.bool ((nextV l a).2))])), (90, (Value.pointer (some ⟨cb14, 0, none⟩))), (91, (Value.int .u64 a)), (92, (Value.tuple #[(Value.agg #[(Value.int .u64 (((nextV l a).1).epoch)), (Value.bool (((nextV l a).1).dead)), (Value.int .i64 (((nextV l a).1).agg.count)), (Value.int .i64 (((nextV l a).1).agg.sum)), (Value.int .i64 (((nextV l a).1).agg.min)), (Value.int .i64 (((nextV l a).1).agg.max))]), (Value.bool ((nextV l a).2))])), (93, (Value.agg #[(Value.int .u64 (((nextV l a).1).epoch)), (Value.bool (((nextV l a).1).dead)), (Value.int .i64 (((nextV l a).1).agg.count)), (Value.int .i64 (((nextV l a).1).agg.sum)), (Value.int .i64 (((nextV l a).1).agg.min)), (Value.int .i64 (((nextV l a).1).agg.max))])), (94, (Value.bool ((nextV l a).2))), (95, (Value.tuple #[(Value.agg #[(Value.int .u64 (((nextV l a).1).epoch)), (Value.bool (((nextV l a).1).dead)), (Value.int .i64 (((nextV l a).1).agg.count)), (Value.int .i64 (((nextV l a).1).agg.sum)), (Value.int .i64 (((nextV l a).1).agg.min)), (Value.int .i64 (((nextV l a).1).agg.max))]), (Value.bool ((nextV l a).2))])), (96, v5), (97, (Value.int .u64 a)), (98, (Value.tuple #[(Value.agg #[(Value.int .u64 (((nextV l a).1).epoch)), (Value.bool (((nextV l a).1).dead)), (Value.int .i64 (((nextV l a).1).agg.count)), (Value.int .i64 (((nextV l a).1).agg.sum)), (Value.int .i64 (((nextV l a).1).agg.min)), (Value.int .i64 (((nextV l a).1).agg.max))]), (Value.bool ((nextV l a).2))])), (99, (Value.agg #[(Value.int .u64 (((nextV l a).1).epoch)), (Value.bool (((nextV l a).1).dead)), (Value.int .i64 (((nextV l a).1).agg.count)), (Value.int .i64 (((nextV l a).1).agg.sum)), (Value.int .i64 (((nextV l a).1).agg.min)), (Value.int .i64 (((nextV l a).1).agg.max))])), (100, (Value.bool ((nextV l a).2))), (101, (Value.agg #[(Value.int .i64 ((atV l a).count)), (Value.int .i64 ((atV l a).sum)), (Value.int .i64 ((atV l a).min)), (Value.int .i64 ((atV l a).max))])), (102, (Value.agg #[(Value.int .i64 ((atV l a).count)), (Value.int .i64 ((atV l a).sum)), (Value.int .i64 ((atV l a).min)), (Value.int .i64 ((atV l a).max))])), (103, (Value.bool true)), (104, (Value.bool false)), (105, (Value.bool false)), (106, (Value.bool (!decide (atV l a = aggZ)))), (107, (Value.bool (!decide (atV l a = aggZ)))), (108, (Value.bool false)), (109, (Value.bool false)), (110, (Value.bool false)), (111, (Value.pointer (some ⟨cb14, 0, none⟩))), (112, (Value.int .u64 a)), (113, (Value.int .u64 b)), (114, (Value.bool (!decide (atV l a = atV l b)))), (115, v5), (116, (Value.int .u64 a)), (117, (Value.int .u64 b)), (118, (Value.bool (!decide (atV l a = atV l b)))), (119, (Value.bool false)), (120, (Value.bool false)), (121, (Value.bool false)), (122, (Value.agg #[(Value.int .u64 (((nextV l a).1).epoch)), (Value.bool (((nextV l a).1).dead)), (Value.int .i64 (((nextV l a).1).agg.count)), (Value.int .i64 (((nextV l a).1).agg.sum)), (Value.int .i64 (((nextV l a).1).agg.min)), (Value.int .i64 (((nextV l a).1).agg.max))])), (123, (Value.slice (some ⟨b62, 0, none⟩) 1 1)), (124, v63), (125, (Value.pointer (some ⟨(sBlk v63), sOff v63 + 0 * 6, none⟩))), (126, (Value.agg #[(Value.int .u64 (((nextV l a).1).epoch)), (Value.bool (((nextV l a).1).dead)), (Value.int .i64 (((nextV l a).1).agg.count)), (Value.int .i64 (((nextV l a).1).agg.sum)), (Value.int .i64 (((nextV l a).1).agg.min)), (Value.int .i64 (((nextV l a).1).agg.max))])), (127, (Value.agg #[(Value.int .u64 (((nextV l a).1).epoch)), (Value.bool (((nextV l a).1).dead)), (Value.int .i64 (((nextV l a).1).agg.count)), (Value.int .i64 (((nextV l a).1).agg.sum)), (Value.int .i64 (((nextV l a).1).agg.min)), (Value.int .i64 (((nextV l a).1).agg.max))])), (128, (Value.bool false)), (129, (Value.bool false)), (130, (Value.bool false)), (131, (Value.bool ((nextV l a).2))), (132, (Value.bool ((nextV l a).2))), (133, (Value.bool false)), (134, (Value.bool false)), (135, (Value.bool false)), (136, (Value.pointer (some ⟨cb14, 0, none⟩))), (137, (Value.int .u64 a)), (138, (Value.int .u64 b)), (139, (Value.bool (garb l a b))), (140, v5), (141, (Value.int .u64 a)), (142, (Value.int .u64 b)), (143, (Value.bool (garb l a b))), (144, (Value.bool false)), (145, (Value.bool false)), (146, (Value.bool false)), (147, (Value.pointer (some ⟨cb14, 0, none⟩))), (148, (Value.int .i64 ↑l.length)), (149, v5), (150, (Value.int .i64 ↑l.length)), (151, (Value.bool false)), (152, (Value.bool false)), (153, (Value.pointer (some ⟨cb14, 0, none⟩))), (154, v68), (155, v68), (156, v5), (157, (Value.bool true)), (158, (Value.bool false))] ∧ Mem G (fun _ => False) w [own 34 6 v68 zs_.length (zs_.flatMap verE), own 51 6 v63 (([((nextV l a).1)] : List Ver).length) (([((nextV l a).1)] : List Ver).flatMap verE), blk b62 (.cells #[(Value.int .u64 (((nextV l a).1).epoch)), (Value.bool (((nextV l a).1).dead)), (Value.int .i64 (((nextV l a).1).agg.count)), (Value.int .i64 (((nextV l a).1).agg.sum)), (Value.int .i64 (((nextV l a).1).agg.min)), (Value.int .i64 (((nextV l a).1).agg.max))] 34), blk b53 (.cells #[(Value.int .u64 (((nextV l a).1).epoch)), (Value.bool (((nextV l a).1).dead)), (Value.int .i64 (((nextV l a).1).agg.count)), (Value.int .i64 (((nextV l a).1).agg.sum)), (Value.int .i64 (((nextV l a).1).agg.min)), (Value.int .i64 (((nextV l a).1).agg.max))] 51), blk b49 (.cells #[(Value.int .u64 (((nextV l a).1).epoch)), (Value.bool (((nextV l a).1).dead)), (Value.int .i64 (((nextV l a).1).agg.count)), (Value.int .i64 (((nextV l a).1).agg.sum)), (Value.int .i64 (((nextV l a).1).agg.min)), (Value.int .i64 (((nextV l a).1).agg.max))] 34), blk b45 (.cells #[(Value.int .i64 ((atV l a).count)), (Value.int .i64 ((atV l a).sum)), (Value.int .i64 ((atV l a).min)), (Value.int .i64 ((atV l a).max))] 45), blk b41 (.cells #[(Value.int .i64 ((atV l a).count)), (Value.int .i64 ((atV l a).sum)), (Value.int .i64 ((atV l a).min)), (Value.int .i64 ((atV l a).max))] 32), blk cb14 (.cells #[v15] 135), own 34 6 v15 l.length (l.flatMap verE), own 34 6 v9 ys_.length (ys_.flatMap verE), own 51 6 v5 l.length (l.flatMap verE)] [SlAt 6 v l.length (l.flatMap verE)]  w') _ ⟨0, l, ⟨(by first | rfl | simp), (Nat.zero_le _), rfl⟩, ⟨rfl, rfl, rfl, rfl, rfl, rfl, rfl, rfl, rfl, rfl, rfl, rfl, rfl, rfl, rfl, rfl, rfl, rfl, rfl, rfl, rfl, rfl, rfl, rfl, rfl, rfl, rfl, rfl, rfl, rfl, rfl, rfl, rfl, rfl, rfl, rfl, rfl, rfl, rfl, rfl, rfl, rfl, rfl, rfl, rfl, rfl, rfl, rfl, rfl, rfl, rfl, rfl, rfl, rfl, rfl, rfl, rfl, rfl, rfl, rfl, rfl, rfl, rfl, rfl, rfl, rfl, rfl, rfl, rfl, rfl, rfl, rfl, rfl, rfl, rfl, rfl, rfl, rfl, rfl, rfl, rfl, rfl, rfl, rfl, rfl, rfl, rfl, rfl, rfl, rfl, rfl, rfl, rfl, rfl, rfl, rfl, rfl, rfl, rfl, rfl, rfl⟩, M⟩ ?_
          rintro _ ρ74 w73 ⟨j_, zs_, ⟨hi75, hi76, rfl⟩, hρ, M⟩
          obtain ⟨ρ74, rfl⟩ := hρ.know
          clear hρ
          refine W.seq' ?_
          refine W.seq' ?_
          refine W.region rfl ?_
          refine WL.step (v := (Value.int .i64 ↑j_)) rfl (Step.move rfl) ?_
          refine WL.step (v := v68) rfl (Step.move rfl) ?_
          refine WL.step (v := (Value.int .i64 ↑zs_.length)) rfl (Step.lenSl Try.un22 rfl (own_slAt (M.chunk 0 rfl).inv)) ?_
          refine WL.step (v := (Value.bool (decide ((↑j_ : Int) < (↑zs_.length : Int))))) rfl (Step.pure (by kernel_rfl)) ?_
          refine WL.nil ?_
          refine W.cond (t := decide ((↑j_ : Int) < (↑zs_.length : Int))) rfl (fun h77 => ?_) (fun h77 => ?_)
          ·
            have h77p := of_decide_eq_true h77
            refine W.skip ?_
            refine W.seq' ?_
            refine W.block ?_
            refine W.region rfl ?_
            refine WL.step (v := v68) rfl (Step.move rfl) ?_
            refine WL.step (v := (Value.int .i64 ↑j_)) rfl (Step.move rfl) ?_
            refine WL.step (v := (Value.agg #[(Value.int .u64 0), (Value.bool false), (Value.int .i64 0), (Value.int .i64 0), (Value.int .i64 0), (Value.int .i64 0)])) rfl (Step.pure (by kernel_rfl)) ?_
            obtain ⟨cap79, hb78⟩ := SlAt.base (own_slAt (M.chunk 0 rfl).inv) (by omega)
            obtain ⟨x80, hx80⟩ := elem_of_lt (xs := zs_) (i := j_) (by omega)
            refine WL.step (v := (Value.pointer (some ⟨(sBlk v68), sOff v68 + j_ * 6, none⟩))) rfl (Step.indexAddr (i := j_) (Try.un22).run Try.el34.sized rfl rfl (by omega) hb78 (by omega)) ?_
            obtain ⟨pre81, post82, hcs83, hpre84, hback85⟩ := flat_open verE_len hx80
            replace M := M.rechunk 0 (c' := own 34 6 v68 zs_.length (pre81 ++ ([(Value.int .u64 x80.epoch), (Value.bool x80.dead), (Value.int .i64 x80.agg.count), (Value.int .i64 x80.agg.sum), (Value.int .i64 x80.agg.min), (Value.int .i64 x80.agg.max)] ++ post82))) rfl (by rw [hcs83]; rfl)
            replace M : Mem _ _ _ [own 34 6 v68 zs_.length (pre81 ++ ([(Value.int .u64 x80.epoch), (Value.bool x80.dead), (Value.int .i64 x80.agg.count), (Value.int .i64 x80.agg.sum), (Value.int .i64 x80.agg.min), (Value.int .i64 x80.agg.max)] ++ post82)), own 51 6 v63 (([((nextV l a).1)] : List Ver).length) (([((nextV l a).1)] : List Ver).flatMap verE), blk b62 (.cells #[(Value.int .u64 (((nextV l a).1).epoch)), (Value.bool (((nextV l a).1).dead)), (Value.int .i64 (((nextV l a).1).agg.count)), (Value.int .i64 (((nextV l a).1).agg.sum)), (Value.int .i64 (((nextV l a).1).agg.min)), (Value.int .i64 (((nextV l a).1).agg.max))] 34), blk b53 (.cells #[(Value.int .u64 (((nextV l a).1).epoch)), (Value.bool (((nextV l a).1).dead)), (Value.int .i64 (((nextV l a).1).agg.count)), (Value.int .i64 (((nextV l a).1).agg.sum)), (Value.int .i64 (((nextV l a).1).agg.min)), (Value.int .i64 (((nextV l a).1).agg.max))] 51), blk b49 (.cells #[(Value.int .u64 (((nextV l a).1).epoch)), (Value.bool (((nextV l a).1).dead)), (Value.int .i64 (((nextV l a).1).agg.count)), (Value.int .i64 (((nextV l a).1).agg.sum)), (Value.int .i64 (((nextV l a).1).agg.min)), (Value.int .i64 (((nextV l a).1).agg.max))] 34), blk b45 (.cells #[(Value.int .i64 ((atV l a).count)), (Value.int .i64 ((atV l a).sum)), (Value.int .i64 ((atV l a).min)), (Value.int .i64 ((atV l a).max))] 45), blk b41 (.cells #[(Value.int .i64 ((atV l a).count)), (Value.int .i64 ((atV l a).sum)), (Value.int .i64 ((atV l a).min)), (Value.int .i64 ((atV l a).max))] 32), blk cb14 (.cells #[v15] 135), own 34 6 v15 l.length (l.flatMap verE), own 34 6 v9 ys_.length (ys_.flatMap verE), own 51 6 v5 l.length (l.flatMap verE)] [SlAt 6 v l.length (l.flatMap verE)] _ := M
            refine WL.act rfl (M.storeAt (cells := [(Value.int .u64 x80.epoch), (Value.bool x80.dead), (Value.int .i64 x80.agg.count), (Value.int .i64 x80.agg.sum), (Value.int .i64 x80.agg.min), (Value.int .i64 x80.agg.max)]) (cells' := [(Value.int .u64 0), (Value.bool false), (Value.int .i64 0), (Value.int .i64 0), (Value.int .i64 0), (Value.int .i64 0)]) (new := [(Value.int .u64 0), (Value.bool false), (Value.int .i64 0), (Value.int .i64 0), (Value.int .i64 0), (Value.int .i64 0)]) (k := 0) 0 rfl hpre84 Try.el34.sized rfl rfl rfl (cel_cons rfl (cel_cons rfl (cel_cons rfl (cel_cons rfl (cel_cons rfl (cel_cons rfl cel_nil)))))) (by first | omega | (simp only [List.length_set, List.length_append, List.length_cons, List.length_nil]; omega)) (Nat.le_of_ble_eq_true rfl) rfl rfl) ?_
            rintro w86 ⟨M, -⟩
            replace M : Mem _ _ _ [own 34 6 v68 zs_.length (pre81 ++ ([(Value.int .u64 0), (Value.bool false), (Value.int .i64 0), (Value.int .i64 0), (Value.int .i64 0), (Value.int .i64 0)] ++ post82)), own 51 6 v63 (([((nextV l a).1)] : List Ver).length) (([((nextV l a).1)] : List Ver).flatMap verE), blk b62 (.cells #[(Value.int .u64 (((nextV l a).1).epoch)), (Value.bool (((nextV l a).1).dead)), (Value.int .i64 (((nextV l a).1).agg.count)), (Value.int .i64 (((nextV l a).1).agg.sum)), (Value.int .i64 (((nextV l a).1).agg.min)), (Value.int .i64 (((nextV l a).1).agg.max))] 34), blk b53 (.cells #[(Value.int .u64 (((nextV l a).1).epoch)), (Value.bool (((nextV l a).1).dead)), (Value.int .i64 (((nextV l a).1).agg.count)), (Value.int .i64 (((nextV l a).1).agg.sum)), (Value.int .i64 (((nextV l a).1).agg.min)), (Value.int .i64 (((nextV l a).1).agg.max))] 51), blk b49 (.cells #[(Value.int .u64 (((nextV l a).1).epoch)), (Value.bool (((nextV l a).1).dead)), (Value.int .i64 (((nextV l a).1).agg.count)), (Value.int .i64 (((nextV l a).1).agg.sum)), (Value.int .i64 (((nextV l a).1).agg.min)), (Value.int .i64 (((nextV l a).1).agg.max))] 34), blk b45 (.cells #[(Value.int .i64 ((atV l a).count)), (Value.int .i64 ((atV l a).sum)), (Value.int .i64 ((atV l a).min)), (Value.int .i64 ((atV l a).max))] 45), blk b41 (.cells #[(Value.int .i64 ((atV l a).count)), (Value.int .i64 ((atV l a).sum)), (Value.int .i64 ((atV l a).min)), (Value.int .i64 ((atV l a).max))] 32), blk cb14 (.cells #[v15] 135), own 34 6 v15 l.length (l.flatMap verE), own 34 6 v9 ys_.length (ys_.flatMap verE), own 51 6 v5 l.length (l.flatMap verE)] [SlAt 6 v l.length (l.flatMap verE)] _ := M
            refine WL.nil ?_
            refine W.region rfl ?_
            refine WL.step (v := (Value.int .i64 ↑j_)) rfl (Step.move rfl) ?_
            refine WL.step (v := (Value.int .i64 (↑j_ + 1))) rfl (Step.add rfl rfl (wrap_i64 (by omega))) ?_
            refine WL.step (v := (Value.int .i64 (↑j_ + 1))) rfl (Step.assign rfl) ?_
            refine WL.nil ?_
            replace M := M.rechunk 0 (c' := own 34 6 v68 (zs_.length) ((zs_.set j_ (⟨0, false, (⟨0, 0, 0, 0⟩ : Agg5)⟩ : Ver)).flatMap verE)) rfl (by rw [← hback85]; rfl)
            replace M := M.rechunk 0 (c' := own 34 6 v68 ((zs_.set j_ (⟨0, false, (⟨0, 0, 0, 0⟩ : Agg5)⟩ : Ver)).length) ((zs_.set j_ (⟨0, false, (⟨0, 0, 0, 0⟩ : Agg5)⟩ : Ver)).flatMap verE)) rfl (by rw [List.length_set])
            replace M : Mem _ _ _ [own 34 6 v68 ((zs_.set j_ (⟨0, false, (⟨0, 0, 0, 0⟩ : Agg5)⟩ : Ver)).length) ((zs_.set j_ (⟨0, false, (⟨0, 0, 0, 0⟩ : Agg5)⟩ : Ver)).flatMap verE), own 51 6 v63 (([((nextV l a).1)] : List Ver).length) (([((nextV l a).1)] : List Ver).flatMap verE), blk b62 (.cells #[(Value.int .u64 (((nextV l a).1).epoch)), (Value.bool (((nextV l a).1).dead)), (Value.int .i64 (((nextV l a).1).agg.count)), (Value.int .i64 (((nextV l a).1).agg.sum)), (Value.int .i64 (((nextV l a).1).agg.min)), (Value.int .i64 (((nextV l a).1).agg.max))] 34), blk b53 (.cells #[(Value.int .u64 (((nextV l a).1).epoch)), (Value.bool (((nextV l a).1).dead)), (Value.int .i64 (((nextV l a).1).agg.count)), (Value.int .i64 (((nextV l a).1).agg.sum)), (Value.int .i64 (((nextV l a).1).agg.min)), (Value.int .i64 (((nextV l a).1).agg.max))] 51), blk b49 (.cells #[(Value.int .u64 (((nextV l a).1).epoch)), (Value.bool (((nextV l a).1).dead)), (Value.int .i64 (((nextV l a).1).agg.count)), (Value.int .i64 (((nextV l a).1).agg.sum)), (Value.int .i64 (((nextV l a).1).agg.min)), (Value.int .i64 (((nextV l a).1).agg.max))] 34), blk b45 (.cells #[(Value.int .i64 ((atV l a).count)), (Value.int .i64 ((atV l a).sum)), (Value.int .i64 ((atV l a).min)), (Value.int .i64 ((atV l a).max))] 45), blk b41 (.cells #[(Value.int .i64 ((atV l a).count)), (Value.int .i64 ((atV l a).sum)), (Value.int .i64 ((atV l a).min)), (Value.int .i64 ((atV l a).max))] 32), blk cb14 (.cells #[v15] 135), own 34 6 v15 l.length (l.flatMap verE), own 34 6 v9 ys_.length (ys_.flatMap verE), own 51 6 v5 l.length (l.flatMap verE)] [SlAt 6 v l.length (l.flatMap verE)] _ := M
            exact ⟨_, (by omega), j_ + 1, zs_.set j_ (⟨0, false, (⟨0, 0, 0, 0⟩ : Agg5)⟩ : Ver), ⟨(by rw [List.length_set]; assumption), (by omega), rfl⟩, ⟨rfl, rfl, rfl, rfl, rfl, rfl, rfl, rfl, rfl, rfl, rfl, rfl, rfl, rfl, rfl, rfl, rfl, rfl, rfl, rfl, rfl, rfl, rfl, rfl, rfl, rfl, rfl, rfl, rfl, rfl, rfl, rfl, rfl, rfl, rfl, rfl, rfl, rfl, rfl, rfl, rfl, rfl, rfl, rfl, rfl, rfl, rfl, rfl, rfl, rfl, rfl, rfl, rfl, rfl, rfl, rfl, rfl, rfl, rfl, rfl, rfl, rfl, rfl, rfl, rfl, rfl, rfl, rfl, rfl, rfl, rfl, rfl, rfl, rfl, rfl, rfl, rfl, rfl, rfl, rfl, rfl, rfl, rfl, rfl, rfl, rfl, rfl, rfl, rfl, rfl, rfl, rfl, rfl, rfl, rfl, rfl, rfl, rfl, rfl, rfl, rfl⟩, M⟩
          ·
            have h77p := of_decide_eq_false h77
            refine W.exit ?_
            refine thn_exit ?_
            refine thn_exit ?_
            refine inBlk_hit ?_
            refine W.region rfl ?_
            refine WL.step (v := (Value.int .i64 ↑t_)) rfl (Step.move rfl) ?_
            refine WL.step (v := (Value.int .i64 (↑t_ + 1))) rfl (Step.add rfl rfl (wrap_i64 (by omega))) ?_
            refine WL.step (v := (Value.int .i64 (↑t_ + 1))) rfl (Step.assign rfl) ?_
            refine WL.nil ?_
            replace M := M.sel (L' := [blk cb14 (.cells #[v15] 135), own 34 6 v15 l.length (l.flatMap verE), own 34 6 v9 ys_.length (ys_.flatMap verE), own 51 6 v5 l.length (l.flatMap verE)]) [7, 8, 9, 10] rfl (by decide)
            exact ⟨_, (by omega), t_ + 1, ⟨(by omega), rfl⟩, ⟨rfl, rfl, rfl, rfl, rfl, rfl, rfl⟩, M⟩
        ·
          have h39p := of_decide_eq_false h39
          refine W.exit ?_
          refine thn_exit ?_
          refine thn_exit ?_
          refine inBlk_hit ?_
          refine W.seq' ?_
          refine W.region rfl ?_
          refine WL.callX rfl (law_works  (M.enterW0 trivial)) (CallsF.func Try.en16 rfl) ?_
          rintro _ w87 ⟨rfl, m⟩
          replace M := M.leaveW0 m
          clear m
          replace M : Mem _ _ _ [blk cb14 (.cells #[v15] 135), own 34 6 v15 l.length (l.flatMap verE), own 34 6 v9 ys_.length (ys_.flatMap verE), own 51 6 v5 l.length (l.flatMap verE)] [SlAt 6 v l.length (l.flatMap verE)] _ := M
          refine WL.step (v := (Value.bool true)) rfl (Step.assign rfl) ?_
          refine WL.nil ?_
          refine W.ret ?_
          refine ⟨.inl rfl, (Value.bool true), ?_, ?_⟩
          · exact ⟨rfl, (Res.r1 (show RV _ _ _ (.tmp 6) (Value.bool true) from by exact rfl))⟩
          refine ⟨?_, M.close [] rfl (by decide) trivial⟩
          rfl
    ·
      refine WL.callX rfl (ch_ofno v9 l h13 (M.enterW0 ⟨((M.wideC0 0 rfl).imp fun _ h => own_slAt h), trivial⟩)) (CallsF.func Try.en17 rfl) ?_
      rintro _ w88 ⟨rfl, m⟩
      replace M := M.leaveW0 m
      clear m
      replace M : Mem _ _ _ [own 34 6 v9 l.length (l.flatMap verE), own 51 6 v5 l.length (l.flatMap verE)] [SlAt 6 v l.length (l.flatMap verE)] _ := M
      refine WL.step (v := (Value.tuple #[(Value.pointer none), (Value.int .i64 2)])) rfl (Step.move rfl) ?_
      refine WL.step (v := (Value.pointer none)) rfl (Step.pure (by kernel_rfl)) ?_
      refine WL.step (v := (Value.int .i64 2)) rfl (Step.pure (by kernel_rfl)) ?_
      refine WL.step (v := (Value.pointer none)) rfl (Step.assign rfl) ?_
      refine WL.step (v := (Value.int .i64 2)) rfl (Step.assign rfl) ?_
      refine WL.nil ?_
      refine W.seq' ?_
      refine W.seq' ?_
      refine W.region rfl ?_
      refine WL.step (v := (Value.int .i64 0)) rfl (Step.assign rfl) ?_
      refine WL.nil ?_
      refine W.block ?_
      refine W.loop (fun kk ρ w' => ∃ (i_ : Nat) (ys_ : List Ver), ((ys_.length = l.length) ∧ (i_ ≤ l.length) ∧ kk = l.length - i_) ∧ ρ.has [(0, v), (1, (Value.int .u64 a)), (2, (Value.int .u64 b)), (6, (Value.bool false)), (7, v5), (8, v9), (9, (Value.pointer none)), (10, (Value.int .i64 2)), (11, (Value.int .i64 ↑i_))] ∧ Mem G (fun _ => False) w [own 34 6 v9 ys_.length (ys_.flatMap verE), own 51 6 v5 l.length (l.flatMap verE)] [SlAt 6 v l.length (l.flatMap verE)]  w') _ ⟨0, l, ⟨(by first | rfl | simp), (Nat.zero_le _), rfl⟩, ⟨rfl, rfl, rfl, rfl, rfl, rfl, rfl, rfl, rfl, rfl, rfl⟩, M⟩ ?_
      rintro _ ρ90 w89 ⟨i_, ys_, ⟨hi91, hi92, rfl⟩, hρ, M⟩
      obtain ⟨ρ90, rfl⟩ := hρ.know
      clear hρ
      refine W.seq' ?_
      refine W.seq' ?_
      refine W.region rfl ?_
      refine WL.step (v := (Value.int .i64 ↑i_)) rfl (Step.move rfl) ?_
      refine WL.step (v := v9) rfl (Step.move rfl) ?_
      refine WL.step (v := (Value.int .i64 ↑ys_.length)) rfl (Step.lenSl Try.un22 rfl (own_slAt (M.chunk 0 rfl).inv)) ?_
      refine WL.step (v := (Value.bool (decide ((↑i_ : Int) < (↑ys_.length : Int))))) rfl (Step.pure (by kernel_rfl)) ?_
      refine WL.nil ?_
      refine W.cond (t := decide ((↑i_ : Int) < (↑ys_.length : Int))) rfl (fun h93 => ?_) (fun h93 => ?_)
      ·
        have h93p := of_decide_eq_true h93
        refine W.skip ?_
        refine W.seq' ?_
        refine W.block ?_
        refine W.region rfl ?_
        refine WL.step (v := v9) rfl (Step.move rfl) ?_
        refine WL.step (v := (Value.int .i64 ↑i_)) rfl (Step.move rfl) ?_
        refine WL.step (v := (Value.agg #[(Value.int .u64 0), (Value.bool false), (Value.int .i64 0), (Value.int .i64 0), (Value.int .i64 0), (Value.int .i64 0)])) rfl (Step.pure (by kernel_rfl)) ?_
        obtain ⟨cap95, hb94⟩ := SlAt.base (own_slAt (M.chunk 0 rfl).inv) (by omega)
        obtain ⟨x96, hx96⟩ := elem_of_lt (xs := ys_) (i := i_) (by omega)
        refine WL.step (v := (Value.pointer (some ⟨(sBlk v9), sOff v9 + i_ * 6, none⟩))) rfl (Step.indexAddr (i := i_) (Try.un22).run Try.el34.sized rfl rfl (by omega) hb94 (by omega)) ?_
        obtain ⟨pre97, post98, hcs99, hpre100, hback101⟩ := flat_open verE_len hx96
        replace M := M.rechunk 0 (c' := own 34 6 v9 ys_.length (pre97 ++ ([(Value.int .u64 x96.epoch), (Value.bool x96.dead), (Value.int .i64 x96.agg.count), (Value.int .i64 x96.agg.sum), (Value.int .i64 x96.agg.min), (Value.int .i64 x96.agg.max)] ++ post98))) rfl (by rw [hcs99]; rfl)
        replace M : Mem _ _ _ [own 34 6 v9 ys_.length (pre97 ++ ([(Value.int .u64 x96.epoch), (Value.bool x96.dead), (Value.int .i64 x96.agg.count), (Value.int .i64 x96.agg.sum), (Value.int .i64 x96.agg.min), (Value.int .i64 x96.agg.max)] ++ post98)), own 51 6 v5 l.length (l.flatMap verE)] [SlAt 6 v l.length (l.flatMap verE)] _ := M
        refine WL.act rfl (M.storeAt (cells := [(Value.int .u64 x96.epoch), (Value.bool x96.dead), (Value.int .i64 x96.agg.count), (Value.int .i64 x96.agg.sum), (Value.int .i64 x96.agg.min), (Value.int .i64 x96.agg.max)]) (cells' := [(Value.int .u64 0), (Value.bool false), (Value.int .i64 0), (Value.int .i64 0), (Value.int .i64 0), (Value.int .i64 0)]) (new := [(Value.int .u64 0), (Value.bool false), (Value.int .i64 0), (Value.int .i64 0), (Value.int .i64 0), (Value.int .i64 0)]) (k := 0) 0 rfl hpre100 Try.el34.sized rfl rfl rfl (cel_cons rfl (cel_cons rfl (cel_cons rfl (cel_cons rfl (cel_cons rfl (cel_cons rfl cel_nil)))))) (by first | omega | (simp only [List.length_set, List.length_append, List.length_cons, List.length_nil]; omega)) (Nat.le_of_ble_eq_true rfl) rfl rfl) ?_
        rintro w102 ⟨M, -⟩
        replace M : Mem _ _ _ [own 34 6 v9 ys_.length (pre97 ++ ([(Value.int .u64 0), (Value.bool false), (Value.int .i64 0), (Value.int .i64 0), (Value.int .i64 0), (Value.int .i64 0)] ++ post98)), own 51 6 v5 l.length (l.flatMap verE)] [SlAt 6 v l.length (l.flatMap verE)] _ := M
        refine WL.nil ?_
        refine W.region rfl ?_
        refine WL.step (v := (Value.int .i64 ↑i_)) rfl (Step.move rfl) ?_
        refine WL.step (v := (Value.int .i64 (↑i_ + 1))) rfl (Step.add rfl rfl (wrap_i64 (by omega))) ?_
        refine WL.step (v := (Value.int .i64 (↑i_ + 1))) rfl (Step.assign rfl) ?_
        refine WL.nil ?_
        replace M := M.rechunk 0 (c' := own 34 6 v9 (ys_.length) ((ys_.set i_ (⟨0, false, (⟨0, 0, 0, 0⟩ : Agg5)⟩ : Ver)).flatMap verE)) rfl (by rw [← hback101]; rfl)
        replace M := M.rechunk 0 (c' := own 34 6 v9 ((ys_.set i_ (⟨0, false, (⟨0, 0, 0, 0⟩ : Agg5)⟩ : Ver)).length) ((ys_.set i_ (⟨0, false, (⟨0, 0, 0, 0⟩ : Agg5)⟩ : Ver)).flatMap verE)) rfl (by rw [List.length_set])
        replace M : Mem _ _ _ [own 34 6 v9 ((ys_.set i_ (⟨0, false, (⟨0, 0, 0, 0⟩ : Agg5)⟩ : Ver)).length) ((ys_.set i_ (⟨0, false, (⟨0, 0, 0, 0⟩ : Agg5)⟩ : Ver)).flatMap verE), own 51 6 v5 l.length (l.flatMap verE)] [SlAt 6 v l.length (l.flatMap verE)] _ := M
        exact ⟨_, (by omega), i_ + 1, ys_.set i_ (⟨0, false, (⟨0, 0, 0, 0⟩ : Agg5)⟩ : Ver), ⟨(by rw [List.length_set]; assumption), (by omega), rfl⟩, ⟨rfl, rfl, rfl, rfl, rfl, rfl, rfl, rfl, rfl, rfl, rfl⟩, M⟩
      ·
        have h93p := of_decide_eq_false h93
        refine W.exit ?_
        refine thn_exit ?_
        refine thn_exit ?_
        refine inBlk_hit ?_
        refine W.seq' ?_
        refine W.seq' ?_
        refine W.region rfl ?_
        refine WL.step (v := (Value.int .i64 2)) rfl (Step.move rfl) ?_
        refine WL.step (v := (Value.bool false)) rfl (Step.pure (by kernel_rfl)) ?_
        refine WL.step (v := v5) rfl (Step.move rfl) ?_
        refine WL.callX rfl (rf_right v5 l (M.enterW0 ⟨((M.wideC0 1 rfl).imp fun _ h => own_slAt h), trivial⟩)) (CallsF.func Try.en24 rfl) ?_
        rintro _ w103 ⟨rfl, m⟩
        replace M := M.leaveW0 m
        clear m
        replace M : Mem _ _ _ [own 34 6 v9 ys_.length (ys_.flatMap verE), own 51 6 v5 l.length (l.flatMap verE)] [SlAt 6 v l.length (l.flatMap verE)] _ := M
        rw [h13]
        refine WL.step (v := (Value.bool false)) rfl (Step.cast (congrArg Value.bool (show (!(false == false)) = false by rfl)) (Step.pure (by kernel_rfl))) ?_
        refine WL.step (v := (Value.bool false)) rfl (Step.move rfl) ?_
        refine WL.step (v := v) rfl (Step.move rfl) ?_
        refine WL.callX rfl (ch_right v l (M.enterW0 ⟨(M.wideR0 0 rfl), trivial⟩)) (CallsF.func Try.en15 rfl) ?_
        rintro _ w104 ⟨rfl, m⟩
        replace M := M.leaveW0 m
        clear m
        replace M : Mem _ _ _ [own 34 6 v9 ys_.length (ys_.flatMap verE), own 51 6 v5 l.length (l.flatMap verE)] [SlAt 6 v l.length (l.flatMap verE)] _ := M
        rw [h13]
        refine WL.step (v := v5) rfl (Step.move rfl) ?_
        refine WL.callX rfl (rf_right v5 l (M.enterW0 ⟨((M.wideC0 1 rfl).imp fun _ h => own_slAt h), trivial⟩)) (CallsF.func Try.en24 rfl) ?_
        rintro _ w105 ⟨rfl, m⟩
        replace M := M.leaveW0 m
        clear m
        replace M : Mem _ _ _ [own 34 6 v9 ys_.length (ys_.flatMap verE), own 51 6 v5 l.length (l.flatMap verE)] [SlAt 6 v l.length (l.flatMap verE)] _ := M
        rw [h13]
        refine WL.step (v := (Value.bool false)) rfl (Step.cast (congrArg Value.bool (show (!(false == false)) = false by rfl)) (Step.pure (by kernel_rfl))) ?_
        refine WL.step (v := (Value.bool false)) rfl (Step.pick (t := false) rfl rfl) ?_
        refine WL.step (v := (Value.bool false)) rfl (Step.move rfl) ?_
        refine WL.step (v := (Value.int .i64 2)) rfl (Step.move rfl) ?_
        refine WL.step (v := (Value.bool true)) rfl (Step.pure (by kernel_rfl)) ?_
        refine WL.step (v := (Value.bool true)) rfl (Step.move rfl) ?_
        refine WL.step (v := (Value.int .i64 2)) rfl (Step.move rfl) ?_
        refine WL.step (v := (Value.bool false)) rfl (Step.pure (by kernel_rfl)) ?_
        refine WL.step (v := (Value.bool false)) rfl (Step.move rfl) ?_
        refine WL.step (v := (Value.pointer none)) rfl (Step.move rfl) ?_
        refine WL.step (v := (Value.bool false)) rfl (Step.pure (by kernel_rfl)) ?_
        refine WL.step (v := (Value.bool false)) rfl (Step.pick (t := false) rfl rfl) ?_
        refine WL.step (v := (Value.bool false)) rfl (Step.pick (t := true) rfl rfl) ?_
        refine WL.step (v := (Value.bool false)) rfl (Step.pick (t := false) rfl rfl) ?_
        refine WL.nil ?_
        refine W.cond (t := false) rfl (fun h => by cases h) (fun _ => ?_)
        refine W.skip ?_
        refine W.seq' ?_
        refine W.seq' ?_
        refine W.region rfl ?_
        refine WL.step (v := (Value.int .i64 2)) rfl (Step.move rfl) ?_
        refine WL.step (v := (Value.bool true)) rfl (Step.pure (by kernel_rfl)) ?_
        refine WL.nil ?_
        refine W.cond (t := true) rfl (fun _ => ?_) (fun h => by cases h)
        refine W.seq' ?_
        refine W.region rfl ?_
        refine WL.callX rfl (law_works  (M.enterW0 trivial)) (CallsF.func Try.en16 rfl) ?_
        rintro _ w106 ⟨rfl, m⟩
        replace M := M.leaveW0 m
        clear m
        replace M : Mem _ _ _ [own 34 6 v9 ys_.length (ys_.flatMap verE), own 51 6 v5 l.length (l.flatMap verE)] [SlAt 6 v l.length (l.flatMap verE)] _ := M
        refine WL.step (v := (Value.bool true)) rfl (Step.assign rfl) ?_
        refine WL.nil ?_
        refine W.ret ?_
        refine ⟨.inl rfl, (Value.bool true), ?_, ?_⟩
        · exact ⟨rfl, (Res.r1 (show RV _ _ _ (.tmp 6) (Value.bool true) from by exact rfl))⟩
        refine ⟨?_, M.close [] rfl (by decide) trivial⟩
        rfl
end Go.Proofs
