/- Walks. -/
import Derived.Test.YtlehkjkpgmkbiaaTrC11
set_option maxRecDepth 100000
set_option linter.all false
namespace Go.Proofs
open Go Tp
theorem Try.en16 : Enters Try.prog 16 := fun _ _ => by kernel_rfl
theorem Try.en29 : Enters Try.prog 29 := fun _ _ => by kernel_rfl
theorem Try.en38 : Enters Try.prog 38 := fun _ _ => by kernel_rfl

theorem law_none {G : Nat → Prop} {w : World} (v : Ver) (a : Int) (b : Int)   (M : Mem G (fun _ => False) w [] [] w) : Rets Try.prog 6 #[(Value.agg #[(Value.int .u64 v.epoch), (Value.bool v.dead), (Value.int .i64 v.agg.count), (Value.int .i64 v.agg.sum), (Value.int .i64 v.agg.min), (Value.int .i64 v.agg.max)]), (Value.int .u64 a), (Value.int .u64 b)] w fun r w' => r = (Value.bool true) ∧ Mem G (fun _ => False) w [] [] w' := by
  refine Rets.enter 77 _ Try.func6 rfl Try.ntmps6 Try.results6 (by simp) ?_
  refine W.seq' ?_
  refine W.region rfl ?_
  refine WL.box (v := (Value.agg #[(Value.int .u64 v.epoch), (Value.bool v.dead), (Value.int .i64 v.agg.count), (Value.int .i64 v.agg.sum), (Value.int .i64 v.agg.min), (Value.int .i64 v.agg.max)])) (c := #[(Value.int .u64 v.epoch), (Value.bool v.dead), (Value.int .i64 v.agg.count), (Value.int .i64 v.agg.sum), (Value.int .i64 v.agg.min), (Value.int .i64 v.agg.max)]) M rfl rfl rfl (fun b1 w2 hb1 M => ?_)
  refine WL.step (v := (Value.bool false)) rfl (Step.assign rfl) ?_
  refine WL.nil ?_
  refine W.seq' ?_
  refine W.region rfl ?_
  refine WL.step (v := (Value.pointer none)) rfl (Step.assign rfl) ?_
  refine WL.nil ?_
  refine W.seq' ?_
  refine W.region rfl ?_
  refine WL.step (v := (Value.pointer none)) rfl (Step.move rfl) ?_
  refine WL.step (v := (Value.int .u64 a)) rfl (Step.move rfl) ?_
  refine WL.callX rfl (chn_at a (M.enterW0 trivial)) (CallsF.func Try.en21 rfl) ?_
  rintro _ w3 ⟨rfl, m⟩
  replace M := M.leaveW0 m
  clear m
  replace M : Mem _ _ _ [blk b1 (.cells #[(Value.int .u64 v.epoch), (Value.bool v.dead), (Value.int .i64 v.agg.count), (Value.int .i64 v.agg.sum), (Value.int .i64 v.agg.min), (Value.int .i64 v.agg.max)] 34)] [] _ := M
  refine WL.step (v := (Value.tuple #[(Value.agg #[(Value.int .i64 0), (Value.int .i64 0), (Value.int .i64 0), (Value.int .i64 0)]), (Value.bool false)])) rfl (Step.move rfl) ?_
  refine WL.step (v := (Value.agg #[(Value.int .i64 0), (Value.int .i64 0), (Value.int .i64 0), (Value.int .i64 0)])) rfl (Step.pure (by kernel_rfl)) ?_
  refine WL.step (v := (Value.bool false)) rfl (Step.pure (by kernel_rfl)) ?_
  refine WL.alloc (c := #[(Value.int .i64 0), (Value.int .i64 0), (Value.int .i64 0), (Value.int .i64 0)]) M rfl Try.el32.zero rfl (fun b4 w5 hb4 M => ?_)
  refine WL.store (v := (Value.agg #[(Value.int .i64 0), (Value.int .i64 0), (Value.int .i64 0), (Value.int .i64 0)])) (cs := [(Value.int .i64 0), (Value.int .i64 0), (Value.int .i64 0), (Value.int .i64 0)]) (c' := #[(Value.int .i64 0), (Value.int .i64 0), (Value.int .i64 0), (Value.int .i64 0)]) M 0 rfl rfl Try.el32.sized rfl rfl rfl rfl (Nat.le_of_ble_eq_true rfl) (cel_cons rfl (cel_cons rfl (cel_cons rfl (cel_cons rfl cel_nil)))) rfl rfl (fun w6 M => ?_)
  refine WL.step (v := (Value.bool false)) rfl (Step.assign rfl) ?_
  refine WL.nil ?_
  refine W.seq' ?_
  refine W.region rfl ?_
  refine WL.step (v := (Value.pointer none)) rfl (Step.move rfl) ?_
  refine WL.step (v := (Value.int .u64 a)) rfl (Step.move rfl) ?_
  refine WL.callX rfl (chn_next a (M.enterW0 trivial)) (CallsF.func Try.en26 rfl) ?_
  rintro _ w7 ⟨rfl, m⟩
  replace M := M.leaveW0 m
  clear m
  replace M : Mem _ _ _ [blk b4 (.cells #[(Value.int .i64 0), (Value.int .i64 0), (Value.int .i64 0), (Value.int .i64 0)] 32), blk b1 (.cells #[(Value.int .u64 v.epoch), (Value.bool v.dead), (Value.int .i64 v.agg.count), (Value.int .i64 v.agg.sum), (Value.int .i64 v.agg.min), (Value.int .i64 v.agg.max)] 34)] [] _ := M
  refine WL.step (v := (Value.tuple #[(Value.agg #[(Value.int .u64 0), (Value.bool false), (Value.int .i64 0), (Value.int .i64 0), (Value.int .i64 0), (Value.int .i64 0)]), (Value.bool false)])) rfl (Step.move rfl) ?_
  refine WL.step (v := (Value.agg #[(Value.int .u64 0), (Value.bool false), (Value.int .i64 0), (Value.int .i64 0), (Value.int .i64 0), (Value.int .i64 0)])) rfl (Step.pure (by kernel_rfl)) ?_
  refine WL.step (v := (Value.bool false)) rfl (Step.pure (by kernel_rfl)) ?_
  refine WL.alloc (c := #[(Value.int .u64 0), (Value.bool false), (Value.int .i64 0), (Value.int .i64 0), (Value.int .i64 0), (Value.int .i64 0)]) M rfl Try.el34.zero rfl (fun b8 w9 hb8 M => ?_)
  refine WL.store (v := (Value.agg #[(Value.int .u64 0), (Value.bool false), (Value.int .i64 0), (Value.int .i64 0), (Value.int .i64 0), (Value.int .i64 0)])) (cs := [(Value.int .u64 0), (Value.bool false), (Value.int .i64 0), (Value.int .i64 0), (Value.int .i64 0), (Value.int .i64 0)]) (c' := #[(Value.int .u64 0), (Value.bool false), (Value.int .i64 0), (Value.int .i64 0), (Value.int .i64 0), (Value.int .i64 0)]) M 0 rfl rfl Try.el34.sized rfl rfl rfl rfl (Nat.le_of_ble_eq_true rfl) (cel_cons rfl (cel_cons rfl (cel_cons rfl (cel_cons rfl (cel_cons rfl (cel_cons rfl cel_nil)))))) rfl rfl (fun w10 M => ?_)
  refine WL.step (v := (Value.bool false)) rfl (Step.assign rfl) ?_
  refine WL.nil ?_
  refine W.seq' ?_
  refine W.region rfl ?_
  refine WL.step (v := (Value.pointer none)) rfl (Step.move rfl) ?_
  refine WL.step (v := (Value.agg #[(Value.int .u64 v.epoch), (Value.bool v.dead), (Value.int .i64 v.agg.count), (Value.int .i64 v.agg.sum), (Value.int .i64 v.agg.min), (Value.int .i64 v.agg.max)])) rfl (Step.loadN Try.ag34 rfl (M.blk 2 rfl) (Nat.le_of_ble_eq_true rfl) rfl) ?_
  refine WL.callX rfl (chn_add v (M.enterW0 trivial)) (CallsF.func Try.en38 rfl) ?_
  rintro _ w11 ⟨rfl, m⟩
  replace M := M.leaveW0 m
  clear m
  replace M : Mem _ _ _ [blk b8 (.cells #[(Value.int .u64 0), (Value.bool false), (Value.int .i64 0), (Value.int .i64 0), (Value.int .i64 0), (Value.int .i64 0)] 34), blk b4 (.cells #[(Value.int .i64 0), (Value.int .i64 0), (Value.int .i64 0), (Value.int .i64 0)] 32), blk b1 (.cells #[(Value.int .u64 v.epoch), (Value.bool v.dead), (Value.int .i64 v.agg.count), (Value.int .i64 v.agg.sum), (Value.int .i64 v.agg.min), (Value.int .i64 v.agg.max)] 34)] [] _ := M
  refine WL.step (v := (Value.bool true)) rfl (Step.pure (by kernel_rfl)) ?_
  refine WL.step (v := (Value.bool true)) rfl (Step.move rfl) ?_
  refine WL.step (v := (Value.bool false)) rfl (Step.move rfl) ?_
  refine WL.step (v := (Value.bool true)) rfl (Step.pure (by kernel_rfl)) ?_
  refine WL.step (v := (Value.bool true)) rfl (Step.pick (t := true) rfl rfl) ?_
  refine WL.step (v := (Value.bool true)) rfl (Step.move rfl) ?_
  refine WL.step (v := (Value.bool false)) rfl (Step.move rfl) ?_
  refine WL.step (v := (Value.bool true)) rfl (Step.pure (by kernel_rfl)) ?_
  refine WL.step (v := (Value.bool true)) rfl (Step.pick (t := true) rfl rfl) ?_
  refine WL.step (v := (Value.bool true)) rfl (Step.move rfl) ?_
  refine WL.step (v := (Value.pointer none)) rfl (Step.move rfl) ?_
  refine WL.step (v := (Value.int .u64 a)) rfl (Step.move rfl) ?_
  refine WL.step (v := (Value.int .u64 b)) rfl (Step.move rfl) ?_
  refine WL.callX rfl (chn_differs a b (M.enterW0 trivial)) (CallsF.func Try.en29 rfl) ?_
  rintro _ w12 ⟨rfl, m⟩
  replace M := M.leaveW0 m
  clear m
  replace M : Mem _ _ _ [blk b8 (.cells #[(Value.int .u64 0), (Value.bool false), (Value.int .i64 0), (Value.int .i64 0), (Value.int .i64 0), (Value.int .i64 0)] 34), blk b4 (.cells #[(Value.int .i64 0), (Value.int .i64 0), (Value.int .i64 0), (Value.int .i64 0)] 32), blk b1 (.cells #[(Value.int .u64 v.epoch), (Value.bool v.dead), (Value.int .i64 v.agg.count), (Value.int .i64 v.agg.sum), (Value.int .i64 v.agg.min), (Value.int .i64 v.agg.max)] 34)] [] _ := M
  refine WL.step (v := (Value.bool true)) rfl (Step.pure (by kernel_rfl)) ?_
  refine WL.step (v := (Value.bool true)) rfl (Step.pick (t := true) rfl rfl) ?_
  refine WL.step (v := (Value.bool true)) rfl (Step.move rfl) ?_
  refine WL.step (v := (Value.pointer none)) rfl (Step.move rfl) ?_
  refine WL.step (v := (Value.int .u64 a)) rfl (Step.move rfl) ?_
  refine WL.step (v := (Value.int .u64 b)) rfl (Step.move rfl) ?_
  refine WL.callX rfl (chn_garb a b (M.enterW0 trivial)) (CallsF.func Try.en18 rfl) ?_
  rintro _ w13 ⟨rfl, m⟩
  replace M := M.leaveW0 m
  clear m
  replace M : Mem _ _ _ [blk b8 (.cells #[(Value.int .u64 0), (Value.bool false), (Value.int .i64 0), (Value.int .i64 0), (Value.int .i64 0), (Value.int .i64 0)] 34), blk b4 (.cells #[(Value.int .i64 0), (Value.int .i64 0), (Value.int .i64 0), (Value.int .i64 0)] 32), blk b1 (.cells #[(Value.int .u64 v.epoch), (Value.bool v.dead), (Value.int .i64 v.agg.count), (Value.int .i64 v.agg.sum), (Value.int .i64 v.agg.min), (Value.int .i64 v.agg.max)] 34)] [] _ := M
  refine WL.step (v := (Value.bool true)) rfl (Step.pure (by kernel_rfl)) ?_
  refine WL.step (v := (Value.bool true)) rfl (Step.pick (t := true) rfl rfl) ?_
  refine WL.step (v := (Value.bool true)) rfl (Step.move rfl) ?_
  refine WL.step (v := (Value.pointer none)) rfl (Step.move rfl) ?_
  refine WL.step (v := (Value.int .u64 a)) rfl (Step.move rfl) ?_
  refine WL.step (v := (Value.int .u64 b)) rfl (Step.move rfl) ?_
  refine WL.callX rfl (chn_drop a b (M.enterW0 trivial)) (CallsF.func Try.en35 rfl) ?_
  rintro _ w14 ⟨rfl, m⟩
  replace M := M.leaveW0 m
  clear m
  replace M : Mem _ _ _ [blk b8 (.cells #[(Value.int .u64 0), (Value.bool false), (Value.int .i64 0), (Value.int .i64 0), (Value.int .i64 0), (Value.int .i64 0)] 34), blk b4 (.cells #[(Value.int .i64 0), (Value.int .i64 0), (Value.int .i64 0), (Value.int .i64 0)] 32), blk b1 (.cells #[(Value.int .u64 v.epoch), (Value.bool v.dead), (Value.int .i64 v.agg.count), (Value.int .i64 v.agg.sum), (Value.int .i64 v.agg.min), (Value.int .i64 v.agg.max)] 34)] [] _ := M
  refine WL.step (v := (Value.bool true)) rfl (Step.pure (by kernel_rfl)) ?_
  refine WL.step (v := (Value.bool true)) rfl (Step.pick (t := true) rfl rfl) ?_
  refine WL.step (v := (Value.bool true)) rfl (Step.move rfl) ?_
  refine WL.step (v := (Value.pointer none)) rfl (Step.move rfl) ?_
  refine WL.step (v := (Value.int .u64 b)) rfl (Step.move rfl) ?_
  refine WL.callX rfl (chn_trim b (M.enterW0 trivial)) (CallsF.func Try.en19 rfl) ?_
  rintro _ w15 ⟨rfl, m⟩
  replace M := M.leaveW0 m
  clear m
  replace M : Mem _ _ _ [blk b8 (.cells #[(Value.int .u64 0), (Value.bool false), (Value.int .i64 0), (Value.int .i64 0), (Value.int .i64 0), (Value.int .i64 0)] 34), blk b4 (.cells #[(Value.int .i64 0), (Value.int .i64 0), (Value.int .i64 0), (Value.int .i64 0)] 32), blk b1 (.cells #[(Value.int .u64 v.epoch), (Value.bool v.dead), (Value.int .i64 v.agg.count), (Value.int .i64 v.agg.sum), (Value.int .i64 v.agg.min), (Value.int .i64 v.agg.max)] 34)] [] _ := M
  refine WL.step (v := (Value.bool true)) rfl (Step.pure (by kernel_rfl)) ?_
  refine WL.step (v := (Value.bool true)) rfl (Step.pick (t := true) rfl rfl) ?_
  refine WL.step (v := (Value.bool true)) rfl (Step.move rfl) ?_
  refine WL.step (v := (Value.pointer none)) rfl (Step.move rfl) ?_
  refine WL.callX rfl (chn_versions  (M.enterW0 trivial)) (CallsF.func Try.en20 rfl) ?_
  rintro v16 w17 ⟨_, rfl, m⟩
  replace M := M.leaveW0 m
  clear m
  replace M : Mem _ _ _ [own 34 6 v16 (([] : List Ver).length) (([] : List Ver).flatMap verE), blk b8 (.cells #[(Value.int .u64 0), (Value.bool false), (Value.int .i64 0), (Value.int .i64 0), (Value.int .i64 0), (Value.int .i64 0)] 34), blk b4 (.cells #[(Value.int .i64 0), (Value.int .i64 0), (Value.int .i64 0), (Value.int .i64 0)] 32), blk b1 (.cells #[(Value.int .u64 v.epoch), (Value.bool v.dead), (Value.int .i64 v.agg.count), (Value.int .i64 v.agg.sum), (Value.int .i64 v.agg.min), (Value.int .i64 v.agg.max)] 34)] [] _ := M
  have sl18 : IsSl v16 := SlAt.isSl (own_slAt (Mem.chunk M 0 rfl).inv)
  have hle19 := SlAt.le' (own_slAt (Mem.chunk M 0 rfl).inv)
  refine WL.step (v := (Value.int .i64 (↑(([] : List Ver).length)))) rfl (Step.lenSl Try.un22 rfl (own_slAt (M.chunk 0 rfl).inv)) ?_
  refine WL.step (v := (Value.bool true)) rfl (Step.cast (congrArg Value.bool (show ((↑(([] : List Ver).length) : Int) == (0 : Int)) = true by rfl)) (Step.pure (by kernel_rfl))) ?_
  refine WL.step (v := (Value.bool true)) rfl (Step.pick (t := true) rfl rfl) ?_
  refine WL.step (v := (Value.bool true)) rfl (Step.move rfl) ?_
  refine WL.step (v := (Value.pointer none)) rfl (Step.move rfl) ?_
  refine WL.callX rfl (chn_len  (M.enterW0 trivial)) (CallsF.func Try.en32 rfl) ?_
  rintro _ w20 ⟨rfl, m⟩
  replace M := M.leaveW0 m
  clear m
  replace M : Mem _ _ _ [own 34 6 v16 (([] : List Ver).length) (([] : List Ver).flatMap verE), blk b8 (.cells #[(Value.int .u64 0), (Value.bool false), (Value.int .i64 0), (Value.int .i64 0), (Value.int .i64 0), (Value.int .i64 0)] 34), blk b4 (.cells #[(Value.int .i64 0), (Value.int .i64 0), (Value.int .i64 0), (Value.int .i64 0)] 32), blk b1 (.cells #[(Value.int .u64 v.epoch), (Value.bool v.dead), (Value.int .i64 v.agg.count), (Value.int .i64 v.agg.sum), (Value.int .i64 v.agg.min), (Value.int .i64 v.agg.max)] 34)] [] _ := M
  refine WL.step (v := (Value.bool true)) rfl (Step.pure (by kernel_rfl)) ?_
  refine WL.step (v := (Value.bool true)) rfl (Step.pick (t := true) rfl rfl) ?_
  refine WL.step (v := (Value.bool true)) rfl (Step.move rfl) ?_
  refine WL.callX rfl (law_works  (M.enterW0 trivial)) (CallsF.func Try.en16 rfl) ?_
  rintro _ w21 ⟨rfl, m⟩
  replace M := M.leaveW0 m
  clear m
  replace M : Mem _ _ _ [own 34 6 v16 (([] : List Ver).length) (([] : List Ver).flatMap verE), blk b8 (.cells #[(Value.int .u64 0), (Value.bool false), (Value.int .i64 0), (Value.int .i64 0), (Value.int .i64 0), (Value.int .i64 0)] 34), blk b4 (.cells #[(Value.int .i64 0), (Value.int .i64 0), (Value.int .i64 0), (Value.int .i64 0)] 32), blk b1 (.cells #[(Value.int .u64 v.epoch), (Value.bool v.dead), (Value.int .i64 v.agg.count), (Value.int .i64 v.agg.sum), (Value.int .i64 v.agg.min), (Value.int .i64 v.agg.max)] 34)] [] _ := M
  refine WL.step (v := (Value.bool true)) rfl (Step.pick (t := true) rfl rfl) ?_
  refine WL.step (v := (Value.bool true)) rfl (Step.assign rfl) ?_
  refine WL.nil ?_
  refine W.ret ?_
  refine ⟨.inl rfl, (Value.bool true), ?_, ?_⟩
  · exact ⟨rfl, (Res.r1 (show RV _ _ _ (.tmp 6) (Value.bool true) from by exact rfl))⟩
  refine ⟨?_, M.close [] rfl (by decide) trivial⟩
  rfl
end Go.Proofs
