/- Walks. -/
import Derived.Test.YthihknbbibgchaaTrZ9
set_option maxRecDepth 100000
set_option linter.all false
namespace Go.Proofs
open Go Tp
theorem Try.en11 : Enters Try.prog 11 := fun _ _ => by kernel_rfl
theorem Try.en14 : Enters Try.prog 14 := fun _ _ => by kernel_rfl
theorem Try.en17 : Enters Try.prog 17 := fun _ _ => by kernel_rfl

theorem law23_none {G : Nat → Prop} {w : World} (p : PinH) (at_ : Int) (now : Int)   (M : Mem G (fun _ => False) w [] [] w) : Rets Try.prog 5 #[(Value.agg #[(Value.int .u8 p.sort), (Value.int .u64 p.id), (Value.int .u64 p.epoch)]), (Value.int .u64 at_), (Value.int .u64 now)] w fun r w' => r = (Value.bool true) ∧ Mem G (fun _ => False) w [] [] w' := by
  refine Rets.enter 82 _ Try.func5 rfl Try.ntmps5 Try.results5 (by simp) ?_
  refine W.seq' ?_
  refine W.region rfl ?_
  refine WL.box (v := (Value.agg #[(Value.int .u8 p.sort), (Value.int .u64 p.id), (Value.int .u64 p.epoch)])) (c := #[(Value.int .u8 p.sort), (Value.int .u64 p.id), (Value.int .u64 p.epoch)]) M rfl rfl rfl (fun b1 w2 hb1 M => ?_)
  refine WL.step (v := (Value.bool false)) rfl (Step.assign rfl) ?_
  refine WL.nil ?_
  refine W.seq' ?_
  refine W.region rfl ?_
  refine WL.step (v := (Value.pointer none)) rfl (Step.assign rfl) ?_
  refine WL.nil ?_
  refine W.seq' ?_
  refine W.region rfl ?_
  refine WL.step (v := (Value.pointer none)) rfl (Step.move rfl) ?_
  refine WL.step (v := (Value.pointer (some ⟨b1, 0, none⟩))) rfl (Step.pure (by kernel_rfl)) ?_
  refine WL.step (v := (Value.int .u8 p.sort)) rfl (Step.load1 Try.sc5 rfl ((M.cell 0 rfl 0).trans rfl)) ?_
  refine WL.step (v := (Value.pointer (some ⟨b1, 1, none⟩))) rfl (Step.pure (by kernel_rfl)) ?_
  refine WL.step (v := (Value.int .u64 p.id)) rfl (Step.load1 Try.sc23 rfl ((M.cell 0 rfl 1).trans rfl)) ?_
  refine WL.callX rfl (hz_held0 p.sort p.id (M.enterW0 trivial)) (CallsF.func Try.en20 rfl) ?_
  rintro _ w3 ⟨rfl, m⟩
  replace M := M.leaveW0 m
  clear m
  replace M : Mem _ _ _ [blk b1 (.cells #[(Value.int .u8 p.sort), (Value.int .u64 p.id), (Value.int .u64 p.epoch)] 35)] [] _ := M
  refine WL.step (v := (Value.tuple #[(Value.int .u64 0), (Value.bool false)])) rfl (Step.move rfl) ?_
  refine WL.step (v := (Value.int .u64 0)) rfl (Step.pure (by kernel_rfl)) ?_
  refine WL.step (v := (Value.bool false)) rfl (Step.pure (by kernel_rfl)) ?_
  refine WL.step (v := (Value.int .u64 0)) rfl (Step.assign rfl) ?_
  refine WL.step (v := (Value.bool false)) rfl (Step.assign rfl) ?_
  refine WL.nil ?_
  refine W.seq' ?_
  refine W.region rfl ?_
  refine WL.step (v := (Value.pointer none)) rfl (Step.move rfl) ?_
  refine WL.step (v := (Value.int .u64 at_)) rfl (Step.move rfl) ?_
  refine WL.step (v := (Value.int .u64 now)) rfl (Step.move rfl) ?_
  refine WL.callX rfl (hz_read0 at_ now (M.enterW0 trivial)) (CallsF.func Try.en22 rfl) ?_
  rintro _ w4 ⟨rfl, m⟩
  replace M := M.leaveW0 m
  clear m
  replace M : Mem _ _ _ [blk b1 (.cells #[(Value.int .u8 p.sort), (Value.int .u64 p.id), (Value.int .u64 p.epoch)] 35)] [] _ := M
  refine WL.step (v := (Value.tuple #[(Value.int .u64 0), (Value.int .i64 1)])) rfl (Step.move rfl) ?_
  refine WL.step (v := (Value.int .u64 0)) rfl (Step.pure (by kernel_rfl)) ?_
  refine WL.step (v := (Value.int .i64 1)) rfl (Step.pure (by kernel_rfl)) ?_
  refine WL.step (v := (Value.int .u64 0)) rfl (Step.assign rfl) ?_
  refine WL.step (v := (Value.int .i64 1)) rfl (Step.assign rfl) ?_
  refine WL.nil ?_
  refine W.seq' ?_
  refine W.region rfl ?_
  refine WL.step (v := (Value.pointer none)) rfl (Step.move rfl) ?_
  refine WL.step (v := (Value.agg #[(Value.int .u8 p.sort), (Value.int .u64 p.id), (Value.int .u64 p.epoch)])) rfl (Step.loadN Try.ag35 rfl (M.blk 0 rfl) (Nat.le_of_ble_eq_true rfl) rfl) ?_
  refine WL.new (obj := .cells #[(Value.int .u8 p.sort), (Value.int .u64 p.id), (Value.int .u64 p.epoch)] 35) (fun b => .slice (some ⟨b, 0, none⟩) 1 1) M rfl (fun w => Step.make (by kernel_rfl)) (fun b5 w6 hb5 M => ?_)
  refine WL.callX rfl (hz_pin0 (Value.slice (some ⟨b5, 0, none⟩) 1 1) ([p] : List PinH) (M.enterW0 ⟨((M.wideC0 0 rfl).imp fun _ h => SlAt.of_blk (n := 1) (size := 3) h rfl (by decide)), trivial⟩)) (CallsF.func Try.en28 rfl) ?_
  rintro _ w7 ⟨rfl, m⟩
  replace M := M.leaveW0 m
  clear m
  replace M : Mem _ _ _ [blk b5 (.cells #[(Value.int .u8 p.sort), (Value.int .u64 p.id), (Value.int .u64 p.epoch)] 35), blk b1 (.cells #[(Value.int .u8 p.sort), (Value.int .u64 p.id), (Value.int .u64 p.epoch)] 35)] [] _ := M
  refine WL.step (v := (Value.bool true)) rfl (Step.pure (by kernel_rfl)) ?_
  refine WL.step (v := (Value.bool true)) rfl (Step.move rfl) ?_
  refine WL.step (v := (Value.pointer none)) rfl (Step.move rfl) ?_
  refine WL.step (v := (Value.agg #[(Value.int .u8 p.sort), (Value.int .u64 p.id), (Value.int .u64 p.epoch)])) rfl (Step.loadN Try.ag35 rfl (M.blk 1 rfl) (Nat.le_of_ble_eq_true rfl) rfl) ?_
  refine WL.callX rfl (hz_move0 p (M.enterW0 trivial)) (CallsF.func Try.en25 rfl) ?_
  rintro _ w8 ⟨rfl, m⟩
  replace M := M.leaveW0 m
  clear m
  replace M : Mem _ _ _ [blk b5 (.cells #[(Value.int .u8 p.sort), (Value.int .u64 p.id), (Value.int .u64 p.epoch)] 35), blk b1 (.cells #[(Value.int .u8 p.sort), (Value.int .u64 p.id), (Value.int .u64 p.epoch)] 35)] [] _ := M
  refine WL.step (v := (Value.bool true)) rfl (Step.pure (by kernel_rfl)) ?_
  refine WL.step (v := (Value.bool true)) rfl (Step.pick (t := true) rfl rfl) ?_
  refine WL.step (v := (Value.bool true)) rfl (Step.move rfl) ?_
  refine WL.step (v := (Value.pointer none)) rfl (Step.move rfl) ?_
  refine WL.step (v := (Value.pointer (some ⟨b1, 0, none⟩))) rfl (Step.pure (by kernel_rfl)) ?_
  refine WL.step (v := (Value.int .u8 p.sort)) rfl (Step.load1 Try.sc5 rfl ((M.cell 1 rfl 0).trans rfl)) ?_
  refine WL.step (v := (Value.pointer (some ⟨b1, 1, none⟩))) rfl (Step.pure (by kernel_rfl)) ?_
  refine WL.step (v := (Value.int .u64 p.id)) rfl (Step.load1 Try.sc23 rfl ((M.cell 1 rfl 1).trans rfl)) ?_
  refine WL.callX rfl (hz_drop0 p.sort p.id (M.enterW0 trivial)) (CallsF.func Try.en26 rfl) ?_
  rintro _ w9 ⟨rfl, m⟩
  replace M := M.leaveW0 m
  clear m
  replace M : Mem _ _ _ [blk b5 (.cells #[(Value.int .u8 p.sort), (Value.int .u64 p.id), (Value.int .u64 p.epoch)] 35), blk b1 (.cells #[(Value.int .u8 p.sort), (Value.int .u64 p.id), (Value.int .u64 p.epoch)] 35)] [] _ := M
  refine WL.step (v := (Value.bool true)) rfl (Step.pure (by kernel_rfl)) ?_
  refine WL.step (v := (Value.bool true)) rfl (Step.pick (t := true) rfl rfl) ?_
  refine WL.step (v := (Value.bool true)) rfl (Step.move rfl) ?_
  refine WL.step (v := (Value.bool false)) rfl (Step.move rfl) ?_
  refine WL.step (v := (Value.bool true)) rfl (Step.pure (by kernel_rfl)) ?_
  refine WL.step (v := (Value.bool true)) rfl (Step.pick (t := true) rfl rfl) ?_
  refine WL.step (v := (Value.bool true)) rfl (Step.move rfl) ?_
  refine WL.step (v := (Value.pointer none)) rfl (Step.move rfl) ?_
  refine WL.step (v := (Value.int .u64 now)) rfl (Step.move rfl) ?_
  refine WL.callX rfl (hz_least0 now (M.enterW0 trivial)) (CallsF.func Try.en18 rfl) ?_
  rintro _ w10 ⟨rfl, m⟩
  replace M := M.leaveW0 m
  clear m
  replace M : Mem _ _ _ [blk b5 (.cells #[(Value.int .u8 p.sort), (Value.int .u64 p.id), (Value.int .u64 p.epoch)] 35), blk b1 (.cells #[(Value.int .u8 p.sort), (Value.int .u64 p.id), (Value.int .u64 p.epoch)] 35)] [] _ := M
  refine WL.step (v := (Value.bool true)) rfl (Step.pure (by kernel_rfl)) ?_
  refine WL.step (v := (Value.bool true)) rfl (Step.pick (t := true) rfl rfl) ?_
  refine WL.step (v := (Value.bool true)) rfl (Step.move rfl) ?_
  refine WL.step (v := (Value.pointer none)) rfl (Step.move rfl) ?_
  refine WL.step (v := (Value.int .u64 now)) rfl (Step.move rfl) ?_
  refine WL.callX rfl (hz_raise0 now (M.enterW0 trivial)) (CallsF.func Try.en27 rfl) ?_
  rintro _ w11 ⟨rfl, m⟩
  replace M := M.leaveW0 m
  clear m
  replace M : Mem _ _ _ [blk b5 (.cells #[(Value.int .u8 p.sort), (Value.int .u64 p.id), (Value.int .u64 p.epoch)] 35), blk b1 (.cells #[(Value.int .u8 p.sort), (Value.int .u64 p.id), (Value.int .u64 p.epoch)] 35)] [] _ := M
  refine WL.step (v := (Value.bool true)) rfl (Step.pure (by kernel_rfl)) ?_
  refine WL.step (v := (Value.bool true)) rfl (Step.pick (t := true) rfl rfl) ?_
  refine WL.step (v := (Value.bool true)) rfl (Step.move rfl) ?_
  refine WL.step (v := (Value.pointer none)) rfl (Step.move rfl) ?_
  refine WL.callX rfl (hz_floor0  (M.enterW0 trivial)) (CallsF.func Try.en17 rfl) ?_
  rintro _ w12 ⟨rfl, m⟩
  replace M := M.leaveW0 m
  clear m
  replace M : Mem _ _ _ [blk b5 (.cells #[(Value.int .u8 p.sort), (Value.int .u64 p.id), (Value.int .u64 p.epoch)] 35), blk b1 (.cells #[(Value.int .u8 p.sort), (Value.int .u64 p.id), (Value.int .u64 p.epoch)] 35)] [] _ := M
  refine WL.step (v := (Value.bool true)) rfl (Step.pure (by kernel_rfl)) ?_
  refine WL.step (v := (Value.bool true)) rfl (Step.pick (t := true) rfl rfl) ?_
  refine WL.step (v := (Value.bool true)) rfl (Step.move rfl) ?_
  refine WL.step (v := (Value.int .i64 1)) rfl (Step.move rfl) ?_
  refine WL.step (v := (Value.bool true)) rfl (Step.pure (by kernel_rfl)) ?_
  refine WL.step (v := (Value.bool true)) rfl (Step.pick (t := true) rfl rfl) ?_
  refine WL.step (v := (Value.bool true)) rfl (Step.move rfl) ?_
  refine WL.step (v := (Value.pointer none)) rfl (Step.move rfl) ?_
  refine WL.callX rfl (hz_pins0  (M.enterW0 trivial)) (CallsF.func Try.en14 rfl) ?_
  rintro _ w13 ⟨rfl, m⟩
  replace M := M.leaveW0 m
  clear m
  replace M : Mem _ _ _ [blk b5 (.cells #[(Value.int .u8 p.sort), (Value.int .u64 p.id), (Value.int .u64 p.epoch)] 35), blk b1 (.cells #[(Value.int .u8 p.sort), (Value.int .u64 p.id), (Value.int .u64 p.epoch)] 35)] [] _ := M
  refine WL.step (v := (Value.int .i64 0)) rfl (Step.lenS Try.un33 rfl rfl) ?_
  refine WL.step (v := (Value.bool true)) rfl (Step.pure (by kernel_rfl)) ?_
  refine WL.step (v := (Value.bool true)) rfl (Step.pick (t := true) rfl rfl) ?_
  refine WL.step (v := (Value.bool true)) rfl (Step.move rfl) ?_
  refine WL.callX rfl (law23_works  (M.enterW0 trivial)) (CallsF.func Try.en11 rfl) ?_
  rintro _ w14 ⟨rfl, m⟩
  replace M := M.leaveW0 m
  clear m
  replace M : Mem _ _ _ [blk b5 (.cells #[(Value.int .u8 p.sort), (Value.int .u64 p.id), (Value.int .u64 p.epoch)] 35), blk b1 (.cells #[(Value.int .u8 p.sort), (Value.int .u64 p.id), (Value.int .u64 p.epoch)] 35)] [] _ := M
  refine WL.step (v := (Value.bool true)) rfl (Step.pick (t := true) rfl rfl) ?_
  refine WL.step (v := (Value.bool true)) rfl (Step.assign rfl) ?_
  refine WL.nil ?_
  refine W.ret ?_
  refine ⟨.inl rfl, (Value.bool true), ?_, ?_⟩
  · exact ⟨rfl, (Res.r1 (show RV _ _ _ (.tmp 6) (Value.bool true) from by exact rfl))⟩
  refine ⟨?_, M.close [] rfl (by decide) trivial⟩
  rfl
end Go.Proofs
