/- Walks. -/
import Derived.Test.YtlehkjkpgmkbiaaTrL9
set_option maxRecDepth 100000
set_option linter.all false
namespace Go.Proofs
open Go Tp
theorem Try.en41 : Enters Try.prog 41 := fun _ _ => by kernel_rfl
theorem Try.en54 : Enters Try.prog 54 := fun _ _ => by kernel_rfl
theorem Try.en56 : Enters Try.prog 56 := fun _ _ => by kernel_rfl

theorem len_findn {G : Nat → Prop} {w : World} (o : Int) (i : Int) (c : Bool)   (M : Mem G (fun _ => False) w [] [] w) : Rets Try.prog 97 #[(Value.pointer none), (Value.int .i64 o), (Value.int .u64 i), (Value.bool c)] w fun r w' => r = (Value.tuple #[(Value.int .i64 0), (Value.int .i64 1)]) ∧ Mem G (fun _ => False) w [] [] w' := by
  refine Rets.enter 25 _ Try.func97 rfl Try.ntmps97 Try.results97 (by simp) ?_
  refine W.seq' ?_
  refine W.region rfl ?_
  refine WL.box (v := (Value.int .i64 o)) (c := #[(Value.int .i64 o)]) M rfl rfl rfl (fun b1 w2 hb1 M => ?_)
  refine WL.box (v := (Value.int .u64 i)) (c := #[(Value.int .u64 i)]) M rfl rfl rfl (fun b3 w4 hb3 M => ?_)
  refine WL.box (v := (Value.bool c)) (c := #[(Value.bool c)]) M rfl rfl rfl (fun b5 w6 hb5 M => ?_)
  refine WL.step (v := (Value.int .i64 0)) rfl (Step.assign rfl) ?_
  refine WL.step (v := (Value.int .i64 0)) rfl (Step.assign rfl) ?_
  refine WL.nil ?_
  refine W.seq' ?_
  refine W.seq' ?_
  refine W.region rfl ?_
  refine WL.step (v := (Value.pointer none)) rfl (Step.move rfl) ?_
  refine WL.step (v := (Value.bool true)) rfl (Step.pure (by kernel_rfl)) ?_
  refine WL.nil ?_
  refine W.cond (t := true) rfl (fun _ => ?_) (fun h => by cases h)
  refine W.seq' ?_
  refine W.region rfl ?_
  refine WL.step (v := (Value.int .i64 0)) rfl (Step.assign rfl) ?_
  refine WL.step (v := (Value.int .i64 1)) rfl (Step.assign rfl) ?_
  refine WL.nil ?_
  refine W.ret ?_
  refine ⟨.inl rfl, (Value.tuple #[(Value.int .i64 0), (Value.int .i64 1)]), ?_, ?_⟩
  · exact ⟨rfl, (Res.r2 (show RV _ _ _ (.tmp 8) (Value.int .i64 0) from by exact rfl) (show RV _ _ _ (.tmp 9) (Value.int .i64 1) from by exact rfl))⟩
  refine ⟨?_, M.close [] rfl (by decide) trivial⟩
  rfl

theorem len_grant {G : Nat → Prop} {w : World} (o : Int) (e : Int) (u : Int) (c : Bool)   (M : Mem G (fun _ => False) w [] [] w) : Rets Try.prog 46 #[(Value.pointer none), (Value.int .i64 o), (Value.int .u64 e), (Value.int .u64 u), (Value.bool c)] w fun r w' => r = (Value.tuple #[(Value.agg #[(Value.int .u64 0), (Value.int .i64 0), (Value.int .u64 0), (Value.int .u64 0), (Value.bool false)]), (Value.int .i64 1)]) ∧ Mem G (fun _ => False) w [] [] w' := by
  refine Rets.enter 56 _ Try.func46 rfl Try.ntmps46 Try.results46 (by simp) ?_
  refine W.seq' ?_
  refine W.region rfl ?_
  refine WL.alloc (c := #[(Value.int .u64 0), (Value.int .i64 0), (Value.int .u64 0), (Value.int .u64 0), (Value.bool false)]) M rfl Try.el85.zero rfl (fun b1 w2 hb1 M => ?_)
  refine WL.step (v := (Value.int .i64 0)) rfl (Step.assign rfl) ?_
  refine WL.nil ?_
  refine W.seq' ?_
  refine W.block ?_
  refine W.seq' ?_
  refine W.region rfl ?_
  refine WL.step (v := (Value.pointer none)) rfl (Step.move rfl) ?_
  refine WL.step (v := (Value.bool true)) rfl (Step.pure (by kernel_rfl)) ?_
  refine WL.step (v := (Value.bool true)) rfl (Step.assign rfl) ?_
  refine WL.nil ?_
  refine W.cond (t := true) rfl (fun _ => ?_) (fun h => by cases h)
  refine W.seq' ?_
  refine W.region rfl ?_
  refine WL.step (v := (Value.agg #[(Value.int .u64 0), (Value.int .i64 0), (Value.int .u64 0), (Value.int .u64 0), (Value.bool false)])) rfl (Step.pure (by kernel_rfl)) ?_
  refine WL.store (v := (Value.agg #[(Value.int .u64 0), (Value.int .i64 0), (Value.int .u64 0), (Value.int .u64 0), (Value.bool false)])) (cs := [(Value.int .u64 0), (Value.int .i64 0), (Value.int .u64 0), (Value.int .u64 0), (Value.bool false)]) (c' := #[(Value.int .u64 0), (Value.int .i64 0), (Value.int .u64 0), (Value.int .u64 0), (Value.bool false)]) M 0 rfl rfl Try.el85.sized rfl rfl rfl rfl (Nat.le_of_ble_eq_true rfl) (cel_cons rfl (cel_cons rfl (cel_cons rfl (cel_cons rfl (cel_cons rfl cel_nil))))) rfl rfl (fun w3 M => ?_)
  refine WL.step (v := (Value.int .i64 1)) rfl (Step.assign rfl) ?_
  refine WL.nil ?_
  refine W.ret ?_
  refine ⟨.inl rfl, (Value.tuple #[(Value.agg #[(Value.int .u64 0), (Value.int .i64 0), (Value.int .u64 0), (Value.int .u64 0), (Value.bool false)]), (Value.int .i64 1)]), ?_, ?_⟩
  · exact ⟨rfl, (Res.r2 (RV.cellN Try.ag85 rfl (M.blk 0 rfl) rfl) (show RV _ _ _ (.tmp 11) (Value.int .i64 1) from by exact rfl))⟩
  refine ⟨?_, M.close [] rfl (by decide) trivial⟩
  rfl

theorem len_get {G : Nat → Prop} {w : World} (o : Int) (i : Int) (c : Bool)   (M : Mem G (fun _ => False) w [] [] w) : Rets Try.prog 49 #[(Value.pointer none), (Value.int .i64 o), (Value.int .u64 i), (Value.bool c)] w fun r w' => r = (Value.tuple #[(Value.agg #[(Value.int .u64 0), (Value.int .i64 0), (Value.int .u64 0), (Value.int .u64 0), (Value.bool false)]), (Value.int .i64 1)]) ∧ Mem G (fun _ => False) w [] [] w' := by
  refine Rets.enter 31 _ Try.func49 rfl Try.ntmps49 Try.results49 (by simp) ?_
  refine W.seq' ?_
  refine W.region rfl ?_
  refine WL.alloc (c := #[(Value.int .u64 0), (Value.int .i64 0), (Value.int .u64 0), (Value.int .u64 0), (Value.bool false)]) M rfl Try.el85.zero rfl (fun b1 w2 hb1 M => ?_)
  refine WL.step (v := (Value.int .i64 0)) rfl (Step.assign rfl) ?_
  refine WL.nil ?_
  refine W.seq' ?_
  refine W.region rfl ?_
  refine WL.step (v := (Value.pointer none)) rfl (Step.move rfl) ?_
  refine WL.step (v := (Value.int .i64 o)) rfl (Step.move rfl) ?_
  refine WL.step (v := (Value.int .u64 i)) rfl (Step.move rfl) ?_
  refine WL.step (v := (Value.bool c)) rfl (Step.move rfl) ?_
  refine WL.callX rfl (len_findn o i c (M.enterW0 trivial)) (CallsF.func Try.en97 rfl) ?_
  rintro _ w3 ⟨rfl, m⟩
  replace M := M.leaveW0 m
  clear m
  replace M : Mem _ _ _ [blk b1 (.cells #[(Value.int .u64 0), (Value.int .i64 0), (Value.int .u64 0), (Value.int .u64 0), (Value.bool false)] 85)] [] _ := M
  refine WL.step (v := (Value.tuple #[(Value.int .i64 0), (Value.int .i64 1)])) rfl (Step.move rfl) ?_
  refine WL.step (v := (Value.int .i64 0)) rfl (Step.pure (by kernel_rfl)) ?_
  refine WL.step (v := (Value.int .i64 1)) rfl (Step.pure (by kernel_rfl)) ?_
  refine WL.step (v := (Value.int .i64 0)) rfl (Step.assign rfl) ?_
  refine WL.step (v := (Value.int .i64 1)) rfl (Step.assign rfl) ?_
  refine WL.nil ?_
  refine W.seq' ?_
  refine W.seq' ?_
  refine W.region rfl ?_
  refine WL.step (v := (Value.int .i64 1)) rfl (Step.move rfl) ?_
  refine WL.step (v := (Value.bool true)) rfl (Step.pure (by kernel_rfl)) ?_
  refine WL.nil ?_
  refine W.cond (t := true) rfl (fun _ => ?_) (fun h => by cases h)
  refine W.seq' ?_
  refine W.region rfl ?_
  refine WL.step (v := (Value.agg #[(Value.int .u64 0), (Value.int .i64 0), (Value.int .u64 0), (Value.int .u64 0), (Value.bool false)])) rfl (Step.pure (by kernel_rfl)) ?_
  refine WL.step (v := (Value.int .i64 1)) rfl (Step.move rfl) ?_
  refine WL.store (v := (Value.agg #[(Value.int .u64 0), (Value.int .i64 0), (Value.int .u64 0), (Value.int .u64 0), (Value.bool false)])) (cs := [(Value.int .u64 0), (Value.int .i64 0), (Value.int .u64 0), (Value.int .u64 0), (Value.bool false)]) (c' := #[(Value.int .u64 0), (Value.int .i64 0), (Value.int .u64 0), (Value.int .u64 0), (Value.bool false)]) M 0 rfl rfl Try.el85.sized rfl rfl rfl rfl (Nat.le_of_ble_eq_true rfl) (cel_cons rfl (cel_cons rfl (cel_cons rfl (cel_cons rfl (cel_cons rfl cel_nil))))) rfl rfl (fun w4 M => ?_)
  refine WL.step (v := (Value.int .i64 1)) rfl (Step.assign rfl) ?_
  refine WL.nil ?_
  refine W.ret ?_
  refine ⟨.inl rfl, (Value.tuple #[(Value.agg #[(Value.int .u64 0), (Value.int .i64 0), (Value.int .u64 0), (Value.int .u64 0), (Value.bool false)]), (Value.int .i64 1)]), ?_, ?_⟩
  · exact ⟨rfl, (Res.r2 (RV.cellN Try.ag85 rfl (M.blk 0 rfl) rfl) (show RV _ _ _ (.tmp 9) (Value.int .i64 1) from by exact rfl))⟩
  refine ⟨?_, M.close [] rfl (by decide) trivial⟩
  rfl

theorem len_renew {G : Nat → Prop} {w : World} (o : Int) (i : Int) (u : Int) (c : Bool)   (M : Mem G (fun _ => False) w [] [] w) : Rets Try.prog 52 #[(Value.pointer none), (Value.int .i64 o), (Value.int .u64 i), (Value.int .u64 u), (Value.bool c)] w fun r w' => r = (Value.tuple #[(Value.agg #[(Value.int .u64 0), (Value.int .i64 0), (Value.int .u64 0), (Value.int .u64 0), (Value.bool false)]), (Value.int .i64 1)]) ∧ Mem G (fun _ => False) w [] [] w' := by
  refine Rets.enter 50 _ Try.func52 rfl Try.ntmps52 Try.results52 (by simp) ?_
  refine W.seq' ?_
  refine W.region rfl ?_
  refine WL.alloc (c := #[(Value.int .u64 0), (Value.int .i64 0), (Value.int .u64 0), (Value.int .u64 0), (Value.bool false)]) M rfl Try.el85.zero rfl (fun b1 w2 hb1 M => ?_)
  refine WL.step (v := (Value.int .i64 0)) rfl (Step.assign rfl) ?_
  refine WL.nil ?_
  refine W.seq' ?_
  refine W.region rfl ?_
  refine WL.step (v := (Value.pointer none)) rfl (Step.move rfl) ?_
  refine WL.step (v := (Value.int .i64 o)) rfl (Step.move rfl) ?_
  refine WL.step (v := (Value.int .u64 i)) rfl (Step.move rfl) ?_
  refine WL.step (v := (Value.bool c)) rfl (Step.move rfl) ?_
  refine WL.callX rfl (len_findn o i c (M.enterW0 trivial)) (CallsF.func Try.en97 rfl) ?_
  rintro _ w3 ⟨rfl, m⟩
  replace M := M.leaveW0 m
  clear m
  replace M : Mem _ _ _ [blk b1 (.cells #[(Value.int .u64 0), (Value.int .i64 0), (Value.int .u64 0), (Value.int .u64 0), (Value.bool false)] 85)] [] _ := M
  refine WL.step (v := (Value.tuple #[(Value.int .i64 0), (Value.int .i64 1)])) rfl (Step.move rfl) ?_
  refine WL.step (v := (Value.int .i64 0)) rfl (Step.pure (by kernel_rfl)) ?_
  refine WL.step (v := (Value.int .i64 1)) rfl (Step.pure (by kernel_rfl)) ?_
  refine WL.step (v := (Value.int .i64 0)) rfl (Step.assign rfl) ?_
  refine WL.step (v := (Value.int .i64 1)) rfl (Step.assign rfl) ?_
  refine WL.nil ?_
  refine W.seq' ?_
  refine W.seq' ?_
  refine W.region rfl ?_
  refine WL.step (v := (Value.int .i64 1)) rfl (Step.move rfl) ?_
  refine WL.step (v := (Value.bool true)) rfl (Step.pure (by kernel_rfl)) ?_
  refine WL.nil ?_
  refine W.cond (t := true) rfl (fun _ => ?_) (fun h => by cases h)
  refine W.seq' ?_
  refine W.region rfl ?_
  refine WL.step (v := (Value.agg #[(Value.int .u64 0), (Value.int .i64 0), (Value.int .u64 0), (Value.int .u64 0), (Value.bool false)])) rfl (Step.pure (by kernel_rfl)) ?_
  refine WL.step (v := (Value.int .i64 1)) rfl (Step.move rfl) ?_
  refine WL.store (v := (Value.agg #[(Value.int .u64 0), (Value.int .i64 0), (Value.int .u64 0), (Value.int .u64 0), (Value.bool false)])) (cs := [(Value.int .u64 0), (Value.int .i64 0), (Value.int .u64 0), (Value.int .u64 0), (Value.bool false)]) (c' := #[(Value.int .u64 0), (Value.int .i64 0), (Value.int .u64 0), (Value.int .u64 0), (Value.bool false)]) M 0 rfl rfl Try.el85.sized rfl rfl rfl rfl (Nat.le_of_ble_eq_true rfl) (cel_cons rfl (cel_cons rfl (cel_cons rfl (cel_cons rfl (cel_cons rfl cel_nil))))) rfl rfl (fun w4 M => ?_)
  refine WL.step (v := (Value.int .i64 1)) rfl (Step.assign rfl) ?_
  refine WL.nil ?_
  refine W.ret ?_
  refine ⟨.inl rfl, (Value.tuple #[(Value.agg #[(Value.int .u64 0), (Value.int .i64 0), (Value.int .u64 0), (Value.int .u64 0), (Value.bool false)]), (Value.int .i64 1)]), ?_, ?_⟩
  · exact ⟨rfl, (Res.r2 (RV.cellN Try.ag85 rfl (M.blk 0 rfl) rfl) (show RV _ _ _ (.tmp 11) (Value.int .i64 1) from by exact rfl))⟩
  refine ⟨?_, M.close [] rfl (by decide) trivial⟩
  rfl

theorem len_move {G : Nat → Prop} {w : World} (o : Int) (i : Int) (e : Int)   (M : Mem G (fun _ => False) w [] [] w) : Rets Try.prog 53 #[(Value.pointer none), (Value.int .i64 o), (Value.int .u64 i), (Value.int .u64 e)] w fun r w' => r = (Value.tuple #[(Value.agg #[(Value.int .u64 0), (Value.int .i64 0), (Value.int .u64 0), (Value.int .u64 0), (Value.bool false)]), (Value.int .i64 1)]) ∧ Mem G (fun _ => False) w [] [] w' := by
  refine Rets.enter 52 _ Try.func53 rfl Try.ntmps53 Try.results53 (by simp) ?_
  refine W.seq' ?_
  refine W.region rfl ?_
  refine WL.alloc (c := #[(Value.int .u64 0), (Value.int .i64 0), (Value.int .u64 0), (Value.int .u64 0), (Value.bool false)]) M rfl Try.el85.zero rfl (fun b1 w2 hb1 M => ?_)
  refine WL.step (v := (Value.int .i64 0)) rfl (Step.assign rfl) ?_
  refine WL.nil ?_
  refine W.seq' ?_
  refine W.region rfl ?_
  refine WL.step (v := (Value.pointer none)) rfl (Step.move rfl) ?_
  refine WL.step (v := (Value.int .i64 o)) rfl (Step.move rfl) ?_
  refine WL.step (v := (Value.int .u64 i)) rfl (Step.move rfl) ?_
  refine WL.callX rfl (len_findn o i true (M.enterW0 trivial)) (CallsF.func Try.en97 rfl) ?_
  rintro _ w3 ⟨rfl, m⟩
  replace M := M.leaveW0 m
  clear m
  replace M : Mem _ _ _ [blk b1 (.cells #[(Value.int .u64 0), (Value.int .i64 0), (Value.int .u64 0), (Value.int .u64 0), (Value.bool false)] 85)] [] _ := M
  refine WL.step (v := (Value.tuple #[(Value.int .i64 0), (Value.int .i64 1)])) rfl (Step.move rfl) ?_
  refine WL.step (v := (Value.int .i64 0)) rfl (Step.pure (by kernel_rfl)) ?_
  refine WL.step (v := (Value.int .i64 1)) rfl (Step.pure (by kernel_rfl)) ?_
  refine WL.step (v := (Value.int .i64 0)) rfl (Step.assign rfl) ?_
  refine WL.step (v := (Value.int .i64 1)) rfl (Step.assign rfl) ?_
  refine WL.nil ?_
  refine W.seq' ?_
  refine W.seq' ?_
  refine W.region rfl ?_
  refine WL.step (v := (Value.int .i64 1)) rfl (Step.move rfl) ?_
  refine WL.step (v := (Value.bool false)) rfl (Step.pure (by kernel_rfl)) ?_
  refine WL.step (v := (Value.bool false)) rfl (Step.move rfl) ?_
  refine WL.pass rfl ?_
  refine WL.pass rfl ?_
  refine WL.pass rfl ?_
  refine WL.pass rfl ?_
  refine WL.pass rfl ?_
  refine WL.pass rfl ?_
  refine WL.pass rfl ?_
  refine WL.pass rfl ?_
  refine WL.pass rfl ?_
  refine WL.pass rfl ?_
  refine WL.step (v := (Value.bool false)) rfl (Step.pick (t := false) rfl rfl) ?_
  refine WL.nil ?_
  refine W.cond (t := false) rfl (fun h => by cases h) (fun _ => ?_)
  refine W.skip ?_
  refine W.seq' ?_
  refine W.seq' ?_
  refine W.region rfl ?_
  refine WL.step (v := (Value.int .i64 1)) rfl (Step.move rfl) ?_
  refine WL.step (v := (Value.bool true)) rfl (Step.pure (by kernel_rfl)) ?_
  refine WL.nil ?_
  refine W.cond (t := true) rfl (fun _ => ?_) (fun h => by cases h)
  refine W.seq' ?_
  refine W.region rfl ?_
  refine WL.step (v := (Value.agg #[(Value.int .u64 0), (Value.int .i64 0), (Value.int .u64 0), (Value.int .u64 0), (Value.bool false)])) rfl (Step.pure (by kernel_rfl)) ?_
  refine WL.step (v := (Value.int .i64 1)) rfl (Step.move rfl) ?_
  refine WL.store (v := (Value.agg #[(Value.int .u64 0), (Value.int .i64 0), (Value.int .u64 0), (Value.int .u64 0), (Value.bool false)])) (cs := [(Value.int .u64 0), (Value.int .i64 0), (Value.int .u64 0), (Value.int .u64 0), (Value.bool false)]) (c' := #[(Value.int .u64 0), (Value.int .i64 0), (Value.int .u64 0), (Value.int .u64 0), (Value.bool false)]) M 0 rfl rfl Try.el85.sized rfl rfl rfl rfl (Nat.le_of_ble_eq_true rfl) (cel_cons rfl (cel_cons rfl (cel_cons rfl (cel_cons rfl (cel_cons rfl cel_nil))))) rfl rfl (fun w4 M => ?_)
  refine WL.step (v := (Value.int .i64 1)) rfl (Step.assign rfl) ?_
  refine WL.nil ?_
  refine W.ret ?_
  refine ⟨.inl rfl, (Value.tuple #[(Value.agg #[(Value.int .u64 0), (Value.int .i64 0), (Value.int .u64 0), (Value.int .u64 0), (Value.bool false)]), (Value.int .i64 1)]), ?_, ?_⟩
  · exact ⟨rfl, (Res.r2 (RV.cellN Try.ag85 rfl (M.blk 0 rfl) rfl) (show RV _ _ _ (.tmp 9) (Value.int .i64 1) from by exact rfl))⟩
  refine ⟨?_, M.close [] rfl (by decide) trivial⟩
  rfl

theorem len_release {G : Nat → Prop} {w : World} (o : Int) (i : Int) (c : Bool)   (M : Mem G (fun _ => False) w [] [] w) : Rets Try.prog 54 #[(Value.pointer none), (Value.int .i64 o), (Value.int .u64 i), (Value.bool c)] w fun r w' => r = (Value.int .i64 1) ∧ Mem G (fun _ => False) w [] [] w' := by
  refine Rets.enter 33 _ Try.func54 rfl Try.ntmps54 Try.results54 (by simp) ?_
  refine W.seq' ?_
  refine W.region rfl ?_
  refine WL.step (v := (Value.int .i64 0)) rfl (Step.assign rfl) ?_
  refine WL.nil ?_
  refine W.seq' ?_
  refine W.region rfl ?_
  refine WL.step (v := (Value.pointer none)) rfl (Step.move rfl) ?_
  refine WL.step (v := (Value.int .i64 o)) rfl (Step.move rfl) ?_
  refine WL.step (v := (Value.int .u64 i)) rfl (Step.move rfl) ?_
  refine WL.step (v := (Value.bool c)) rfl (Step.move rfl) ?_
  refine WL.callX rfl (len_findn o i c (M.enterW0 trivial)) (CallsF.func Try.en97 rfl) ?_
  rintro _ w1 ⟨rfl, m⟩
  replace M := M.leaveW0 m
  clear m
  replace M : Mem _ _ _ [] [] _ := M
  refine WL.step (v := (Value.tuple #[(Value.int .i64 0), (Value.int .i64 1)])) rfl (Step.move rfl) ?_
  refine WL.step (v := (Value.int .i64 0)) rfl (Step.pure (by kernel_rfl)) ?_
  refine WL.step (v := (Value.int .i64 1)) rfl (Step.pure (by kernel_rfl)) ?_
  refine WL.step (v := (Value.int .i64 0)) rfl (Step.assign rfl) ?_
  refine WL.step (v := (Value.int .i64 1)) rfl (Step.assign rfl) ?_
  refine WL.nil ?_
  refine W.seq' ?_
  refine W.seq' ?_
  refine W.region rfl ?_
  refine WL.step (v := (Value.int .i64 1)) rfl (Step.move rfl) ?_
  refine WL.step (v := (Value.bool false)) rfl (Step.pure (by kernel_rfl)) ?_
  refine WL.nil ?_
  refine W.cond (t := false) rfl (fun h => by cases h) (fun _ => ?_)
  refine W.skip ?_
  refine W.seq' ?_
  refine W.region rfl ?_
  refine WL.step (v := (Value.int .i64 1)) rfl (Step.move rfl) ?_
  refine WL.step (v := (Value.int .i64 1)) rfl (Step.assign rfl) ?_
  refine WL.nil ?_
  refine W.ret ?_
  refine ⟨.inl rfl, (Value.int .i64 1), ?_, ?_⟩
  · exact ⟨rfl, (Res.r1 (show RV _ _ _ (.tmp 8) (Value.int .i64 1) from by exact rfl))⟩
  refine ⟨?_, M.close [] rfl (by decide) trivial⟩
  rfl

theorem len_len {G : Nat → Prop} {w : World}    (M : Mem G (fun _ => False) w [] [] w) : Rets Try.prog 45 #[(Value.pointer none)] w fun r w' => r = (Value.int .i64 0) ∧ Mem G (fun _ => False) w [] [] w' := by
  refine Rets.enter 10 _ Try.func45 rfl Try.ntmps45 Try.results45 (by simp) ?_
  refine W.seq' ?_
  refine W.region rfl ?_
  refine WL.step (v := (Value.int .i64 0)) rfl (Step.assign rfl) ?_
  refine WL.nil ?_
  refine W.seq' ?_
  refine W.seq' ?_
  refine W.region rfl ?_
  refine WL.step (v := (Value.pointer none)) rfl (Step.move rfl) ?_
  refine WL.step (v := (Value.bool true)) rfl (Step.pure (by kernel_rfl)) ?_
  refine WL.nil ?_
  refine W.cond (t := true) rfl (fun _ => ?_) (fun h => by cases h)
  refine W.seq' ?_
  refine W.region rfl ?_
  refine WL.step (v := (Value.int .i64 0)) rfl (Step.assign rfl) ?_
  refine WL.nil ?_
  refine W.ret ?_
  refine ⟨.inl rfl, (Value.int .i64 0), ?_, ?_⟩
  · exact ⟨rfl, (Res.r1 (show RV _ _ _ (.tmp 2) (Value.int .i64 0) from by exact rfl))⟩
  refine ⟨?_, M.close [] rfl (by decide) trivial⟩
  rfl

theorem len_live {G : Nat → Prop} {w : World}    (M : Mem G (fun _ => False) w [] [] w) : Rets Try.prog 57 #[(Value.pointer none)] w fun r w' => r = (Value.slice none 0 0) ∧ Mem G (fun _ => False) w [] [] w' := by
  refine Rets.enter 10 _ Try.func57 rfl Try.ntmps57 Try.results57 (by simp) ?_
  refine W.seq' ?_
  refine W.region rfl ?_
  refine WL.step (v := (Value.slice none 0 0)) rfl (Step.assign rfl) ?_
  refine WL.nil ?_
  refine W.seq' ?_
  refine W.seq' ?_
  refine W.region rfl ?_
  refine WL.step (v := (Value.pointer none)) rfl (Step.move rfl) ?_
  refine WL.step (v := (Value.bool true)) rfl (Step.pure (by kernel_rfl)) ?_
  refine WL.nil ?_
  refine W.cond (t := true) rfl (fun _ => ?_) (fun h => by cases h)
  refine W.seq' ?_
  refine W.region rfl ?_
  refine WL.step (v := (Value.slice none 0 0)) rfl (Step.assign rfl) ?_
  refine WL.nil ?_
  refine W.ret ?_
  refine ⟨.inl rfl, (Value.slice none 0 0), ?_, ?_⟩
  · exact ⟨rfl, (Res.r1 (show RV _ _ _ (.tmp 2) (Value.slice none 0 0) from by exact rfl))⟩
  refine ⟨?_, M.close [] rfl (by decide) trivial⟩
  rfl

theorem len_least {G : Nat → Prop} {w : World}    (M : Mem G (fun _ => False) w [] [] w) : Rets Try.prog 50 #[(Value.pointer none)] w fun r w' => r = (Value.tuple #[(Value.int .u64 0), (Value.bool false)]) ∧ Mem G (fun _ => False) w [] [] w' := by
  refine Rets.enter 13 _ Try.func50 rfl Try.ntmps50 Try.results50 (by simp) ?_
  refine W.seq' ?_
  refine W.region rfl ?_
  refine WL.step (v := (Value.int .u64 0)) rfl (Step.assign rfl) ?_
  refine WL.step (v := (Value.bool false)) rfl (Step.assign rfl) ?_
  refine WL.nil ?_
  refine W.seq' ?_
  refine W.seq' ?_
  refine W.region rfl ?_
  refine WL.step (v := (Value.pointer none)) rfl (Step.move rfl) ?_
  refine WL.callX rfl (len_len  (M.enterW0 trivial)) (CallsF.func Try.en45 rfl) ?_
  rintro _ w1 ⟨rfl, m⟩
  replace M := M.leaveW0 m
  clear m
  replace M : Mem _ _ _ [] [] _ := M
  refine WL.step (v := (Value.bool true)) rfl (Step.pure (by kernel_rfl)) ?_
  refine WL.nil ?_
  refine W.cond (t := true) rfl (fun _ => ?_) (fun h => by cases h)
  refine W.seq' ?_
  refine W.region rfl ?_
  refine WL.step (v := (Value.int .u64 0)) rfl (Step.assign rfl) ?_
  refine WL.step (v := (Value.bool false)) rfl (Step.assign rfl) ?_
  refine WL.nil ?_
  refine W.ret ?_
  refine ⟨.inl rfl, (Value.tuple #[(Value.int .u64 0), (Value.bool false)]), ?_, ?_⟩
  · exact ⟨rfl, (Res.r2 (show RV _ _ _ (.tmp 2) (Value.int .u64 0) from by exact rfl) (show RV _ _ _ (.tmp 3) (Value.bool false) from by exact rfl))⟩
  refine ⟨?_, M.close [] rfl (by decide) trivial⟩
  rfl

theorem len_partE {G : Nat → Prop} {w : World} (tb : Nat) (n : Int)   (M : Mem G (fun _ => False) w [] [(fun w => w.heap[tb]? = some (.cells #[(Value.int .u64 n)] 23))] w) : Rets Try.prog 103 #[(Value.pointer none), (Value.func (.func 104) #[] #[(Value.pointer (some ⟨tb, 0, none⟩))])] w fun r w' => r = (Value.slice none 0 0) ∧ Mem G (fun _ => False) w [] [] w' := by
  refine Rets.enter 17 _ Try.func103 rfl Try.ntmps103 Try.results103 (by simp) ?_
  refine W.seq' ?_
  refine W.region rfl ?_
  refine WL.box (v := (Value.func (.func 104) #[] #[(Value.pointer (some ⟨tb, 0, none⟩))])) (c := #[(Value.func (.func 104) #[] #[(Value.pointer (some ⟨tb, 0, none⟩))])]) M rfl rfl rfl (fun b1 w2 hb1 M => ?_)
  refine WL.alloc (c := #[(Value.slice none 0 0)]) M rfl Try.el100.zero rfl (fun b3 w4 hb3 M => ?_)
  refine WL.nil ?_
  refine W.seq' ?_
  refine W.seq' ?_
  refine W.region rfl ?_
  refine WL.step (v := (Value.pointer none)) rfl (Step.move rfl) ?_
  refine WL.step (v := (Value.bool true)) rfl (Step.pure (by kernel_rfl)) ?_
  refine WL.nil ?_
  refine W.cond (t := true) rfl (fun _ => ?_) (fun h => by cases h)
  refine W.seq' ?_
  refine W.region rfl ?_
  refine WL.store (v := (Value.slice none 0 0)) (cs := [(Value.slice none 0 0)]) (c' := #[(Value.slice none 0 0)]) M 0 rfl rfl Try.el100.sized rfl rfl rfl rfl (Nat.le_of_ble_eq_true rfl) (cel_cons rfl cel_nil) rfl rfl (fun w5 M => ?_)
  refine WL.nil ?_
  refine W.ret ?_
  refine ⟨.inl rfl, (Value.slice none 0 0), ?_, ?_⟩
  · exact ⟨rfl, (Res.r1 (RV.cell1 Try.sc100 rfl (M.blk 0 rfl)))⟩
  refine ⟨?_, M.close [] rfl (by decide) trivial⟩
  rfl

theorem len_expire {G : Nat → Prop} {w : World} (n : Int)   (M : Mem G (fun _ => False) w [] [] w) : Rets Try.prog 55 #[(Value.pointer none), (Value.int .u64 n)] w fun r w' => r = (Value.slice none 0 0) ∧ Mem G (fun _ => False) w [] [] w' := by
  refine Rets.enter 8 _ Try.func55 rfl Try.ntmps55 Try.results55 (by simp) ?_
  refine W.seq' ?_
  refine W.region rfl ?_
  refine WL.box (v := (Value.int .u64 n)) (c := #[(Value.int .u64 n)]) M rfl rfl rfl (fun b1 w2 hb1 M => ?_)
  refine WL.step (v := (Value.slice none 0 0)) rfl (Step.assign rfl) ?_
  refine WL.nil ?_
  refine W.seq' ?_
  refine W.region rfl ?_
  refine WL.step (v := (Value.pointer none)) rfl (Step.move rfl) ?_
  refine WL.step (v := (Value.func (.func 104) #[] #[(Value.pointer (some ⟨b1, 0, none⟩))])) rfl (Step.pure (by kernel_rfl)) ?_
  refine WL.callX rfl (len_partE b1 n (M.enterW0 ⟨(M.wideC0 0 rfl), trivial⟩)) (CallsF.func Try.en103 rfl) ?_
  rintro _ w3 ⟨rfl, m⟩
  replace M := M.leaveW0 m
  clear m
  replace M : Mem _ _ _ [blk b1 (.cells #[(Value.int .u64 n)] 23)] [] _ := M
  refine WL.step (v := (Value.slice none 0 0)) rfl (Step.assign rfl) ?_
  refine WL.nil ?_
  refine W.ret ?_
  refine ⟨.inl rfl, (Value.slice none 0 0), ?_, ?_⟩
  · exact ⟨rfl, (Res.r1 (show RV _ _ _ (.tmp 4) (Value.slice none 0 0) from by exact rfl))⟩
  refine ⟨?_, M.close [] rfl (by decide) trivial⟩
  rfl

theorem len_partL {G : Nat → Prop} {w : World} (tb : Nat) (n : Int)   (M : Mem G (fun _ => False) w [] [(fun w => w.heap[tb]? = some (.cells #[(Value.int .i64 n)] 3))] w) : Rets Try.prog 103 #[(Value.pointer none), (Value.func (.func 105) #[] #[(Value.pointer (some ⟨tb, 0, none⟩))])] w fun r w' => r = (Value.slice none 0 0) ∧ Mem G (fun _ => False) w [] [] w' := by
  refine Rets.enter 17 _ Try.func103 rfl Try.ntmps103 Try.results103 (by simp) ?_
  refine W.seq' ?_
  refine W.region rfl ?_
  refine WL.box (v := (Value.func (.func 105) #[] #[(Value.pointer (some ⟨tb, 0, none⟩))])) (c := #[(Value.func (.func 105) #[] #[(Value.pointer (some ⟨tb, 0, none⟩))])]) M rfl rfl rfl (fun b1 w2 hb1 M => ?_)
  refine WL.alloc (c := #[(Value.slice none 0 0)]) M rfl Try.el100.zero rfl (fun b3 w4 hb3 M => ?_)
  refine WL.nil ?_
  refine W.seq' ?_
  refine W.seq' ?_
  refine W.region rfl ?_
  refine WL.step (v := (Value.pointer none)) rfl (Step.move rfl) ?_
  refine WL.step (v := (Value.bool true)) rfl (Step.pure (by kernel_rfl)) ?_
  refine WL.nil ?_
  refine W.cond (t := true) rfl (fun _ => ?_) (fun h => by cases h)
  refine W.seq' ?_
  refine W.region rfl ?_
  refine WL.store (v := (Value.slice none 0 0)) (cs := [(Value.slice none 0 0)]) (c' := #[(Value.slice none 0 0)]) M 0 rfl rfl Try.el100.sized rfl rfl rfl rfl (Nat.le_of_ble_eq_true rfl) (cel_cons rfl cel_nil) rfl rfl (fun w5 M => ?_)
  refine WL.nil ?_
  refine W.ret ?_
  refine ⟨.inl rfl, (Value.slice none 0 0), ?_, ?_⟩
  · exact ⟨rfl, (Res.r1 (RV.cell1 Try.sc100 rfl (M.blk 0 rfl)))⟩
  refine ⟨?_, M.close [] rfl (by decide) trivial⟩
  rfl

theorem len_leave {G : Nat → Prop} {w : World} (n : Int)   (M : Mem G (fun _ => False) w [] [] w) : Rets Try.prog 56 #[(Value.pointer none), (Value.int .i64 n)] w fun r w' => r = (Value.slice none 0 0) ∧ Mem G (fun _ => False) w [] [] w' := by
  refine Rets.enter 8 _ Try.func56 rfl Try.ntmps56 Try.results56 (by simp) ?_
  refine W.seq' ?_
  refine W.region rfl ?_
  refine WL.box (v := (Value.int .i64 n)) (c := #[(Value.int .i64 n)]) M rfl rfl rfl (fun b1 w2 hb1 M => ?_)
  refine WL.step (v := (Value.slice none 0 0)) rfl (Step.assign rfl) ?_
  refine WL.nil ?_
  refine W.seq' ?_
  refine W.region rfl ?_
  refine WL.step (v := (Value.pointer none)) rfl (Step.move rfl) ?_
  refine WL.step (v := (Value.func (.func 105) #[] #[(Value.pointer (some ⟨b1, 0, none⟩))])) rfl (Step.pure (by kernel_rfl)) ?_
  refine WL.callX rfl (len_partL b1 n (M.enterW0 ⟨(M.wideC0 0 rfl), trivial⟩)) (CallsF.func Try.en103 rfl) ?_
  rintro _ w3 ⟨rfl, m⟩
  replace M := M.leaveW0 m
  clear m
  replace M : Mem _ _ _ [blk b1 (.cells #[(Value.int .i64 n)] 3)] [] _ := M
  refine WL.step (v := (Value.slice none 0 0)) rfl (Step.assign rfl) ?_
  refine WL.nil ?_
  refine W.ret ?_
  refine ⟨.inl rfl, (Value.slice none 0 0), ?_, ?_⟩
  · exact ⟨rfl, (Res.r1 (show RV _ _ _ (.tmp 4) (Value.slice none 0 0) from by exact rfl))⟩
  refine ⟨?_, M.close [] rfl (by decide) trivial⟩
  rfl

theorem law_none {G : Nat → Prop} {w : World} (a : LAct)   (M : Mem G (fun _ => False) w [] [] w) : Rets Try.prog 10 #[(Value.agg #[(Value.int .i64 a.op), (Value.int .i64 a.owner), (Value.int .u64 a.id), (Value.int .u64 a.n), (Value.int .u64 a.till), (Value.bool a.cursor)])] w fun r w' => r = (Value.bool true) ∧ Mem G (fun _ => False) w [] [] w' := by
  refine Rets.enter 128 _ Try.func10 rfl Try.ntmps10 Try.results10 (by simp) ?_
  refine W.seq' ?_
  refine W.region rfl ?_
  refine WL.box (v := (Value.agg #[(Value.int .i64 a.op), (Value.int .i64 a.owner), (Value.int .u64 a.id), (Value.int .u64 a.n), (Value.int .u64 a.till), (Value.bool a.cursor)])) (c := #[(Value.int .i64 a.op), (Value.int .i64 a.owner), (Value.int .u64 a.id), (Value.int .u64 a.n), (Value.int .u64 a.till), (Value.bool a.cursor)]) M rfl rfl rfl (fun b1 w2 hb1 M => ?_)
  refine WL.step (v := (Value.bool false)) rfl (Step.assign rfl) ?_
  refine WL.nil ?_
  refine W.seq' ?_
  refine W.region rfl ?_
  refine WL.step (v := (Value.pointer none)) rfl (Step.assign rfl) ?_
  refine WL.nil ?_
  refine W.seq' ?_
  refine W.region rfl ?_
  refine WL.step (v := (Value.pointer none)) rfl (Step.move rfl) ?_
  refine WL.step (v := (Value.pointer (some ⟨b1, 1, none⟩))) rfl (Step.pure (by kernel_rfl)) ?_
  refine WL.step (v := (Value.int .i64 a.owner)) rfl (Step.load1 Try.sc3 rfl ((M.cell 0 rfl 1).trans rfl)) ?_
  refine WL.step (v := (Value.pointer (some ⟨b1, 3, none⟩))) rfl (Step.pure (by kernel_rfl)) ?_
  refine WL.step (v := (Value.int .u64 a.n)) rfl (Step.load1 Try.sc23 rfl ((M.cell 0 rfl 3).trans rfl)) ?_
  refine WL.step (v := (Value.pointer (some ⟨b1, 4, none⟩))) rfl (Step.pure (by kernel_rfl)) ?_
  refine WL.step (v := (Value.int .u64 a.till)) rfl (Step.load1 Try.sc23 rfl ((M.cell 0 rfl 4).trans rfl)) ?_
  refine WL.step (v := (Value.pointer (some ⟨b1, 5, none⟩))) rfl (Step.pure (by kernel_rfl)) ?_
  refine WL.step (v := (Value.bool a.cursor)) rfl (Step.load1 Try.sc4 rfl ((M.cell 0 rfl 5).trans rfl)) ?_
  refine WL.callX rfl (len_grant a.owner a.n a.till a.cursor (M.enterW0 trivial)) (CallsF.func Try.en46 rfl) ?_
  rintro _ w3 ⟨rfl, m⟩
  replace M := M.leaveW0 m
  clear m
  replace M : Mem _ _ _ [blk b1 (.cells #[(Value.int .i64 a.op), (Value.int .i64 a.owner), (Value.int .u64 a.id), (Value.int .u64 a.n), (Value.int .u64 a.till), (Value.bool a.cursor)] 75)] [] _ := M
  refine WL.step (v := (Value.tuple #[(Value.agg #[(Value.int .u64 0), (Value.int .i64 0), (Value.int .u64 0), (Value.int .u64 0), (Value.bool false)]), (Value.int .i64 1)])) rfl (Step.move rfl) ?_
  refine WL.step (v := (Value.agg #[(Value.int .u64 0), (Value.int .i64 0), (Value.int .u64 0), (Value.int .u64 0), (Value.bool false)])) rfl (Step.pure (by kernel_rfl)) ?_
  refine WL.step (v := (Value.int .i64 1)) rfl (Step.pure (by kernel_rfl)) ?_
  refine WL.alloc (c := #[(Value.int .u64 0), (Value.int .i64 0), (Value.int .u64 0), (Value.int .u64 0), (Value.bool false)]) M rfl Try.el85.zero rfl (fun b4 w5 hb4 M => ?_)
  refine WL.store (v := (Value.agg #[(Value.int .u64 0), (Value.int .i64 0), (Value.int .u64 0), (Value.int .u64 0), (Value.bool false)])) (cs := [(Value.int .u64 0), (Value.int .i64 0), (Value.int .u64 0), (Value.int .u64 0), (Value.bool false)]) (c' := #[(Value.int .u64 0), (Value.int .i64 0), (Value.int .u64 0), (Value.int .u64 0), (Value.bool false)]) M 0 rfl rfl Try.el85.sized rfl rfl rfl rfl (Nat.le_of_ble_eq_true rfl) (cel_cons rfl (cel_cons rfl (cel_cons rfl (cel_cons rfl (cel_cons rfl cel_nil))))) rfl rfl (fun w6 M => ?_)
  refine WL.step (v := (Value.int .i64 1)) rfl (Step.assign rfl) ?_
  refine WL.nil ?_
  refine W.seq' ?_
  refine W.region rfl ?_
  refine WL.step (v := (Value.pointer none)) rfl (Step.move rfl) ?_
  refine WL.step (v := (Value.pointer (some ⟨b1, 1, none⟩))) rfl (Step.pure (by kernel_rfl)) ?_
  refine WL.step (v := (Value.int .i64 a.owner)) rfl (Step.load1 Try.sc3 rfl ((M.cell 1 rfl 1).trans rfl)) ?_
  refine WL.step (v := (Value.pointer (some ⟨b1, 2, none⟩))) rfl (Step.pure (by kernel_rfl)) ?_
  refine WL.step (v := (Value.int .u64 a.id)) rfl (Step.load1 Try.sc23 rfl ((M.cell 1 rfl 2).trans rfl)) ?_
  refine WL.step (v := (Value.pointer (some ⟨b1, 5, none⟩))) rfl (Step.pure (by kernel_rfl)) ?_
  refine WL.step (v := (Value.bool a.cursor)) rfl (Step.load1 Try.sc4 rfl ((M.cell 1 rfl 5).trans rfl)) ?_
  refine WL.callX rfl (len_get a.owner a.id a.cursor (M.enterW0 trivial)) (CallsF.func Try.en49 rfl) ?_
  rintro _ w7 ⟨rfl, m⟩
  replace M := M.leaveW0 m
  clear m
  replace M : Mem _ _ _ [blk b4 (.cells #[(Value.int .u64 0), (Value.int .i64 0), (Value.int .u64 0), (Value.int .u64 0), (Value.bool false)] 85), blk b1 (.cells #[(Value.int .i64 a.op), (Value.int .i64 a.owner), (Value.int .u64 a.id), (Value.int .u64 a.n), (Value.int .u64 a.till), (Value.bool a.cursor)] 75)] [] _ := M
  refine WL.step (v := (Value.tuple #[(Value.agg #[(Value.int .u64 0), (Value.int .i64 0), (Value.int .u64 0), (Value.int .u64 0), (Value.bool false)]), (Value.int .i64 1)])) rfl (Step.move rfl) ?_
  refine WL.step (v := (Value.agg #[(Value.int .u64 0), (Value.int .i64 0), (Value.int .u64 0), (Value.int .u64 0), (Value.bool false)])) rfl (Step.pure (by kernel_rfl)) ?_
  refine WL.step (v := (Value.int .i64 1)) rfl (Step.pure (by kernel_rfl)) ?_
  refine WL.alloc (c := #[(Value.int .u64 0), (Value.int .i64 0), (Value.int .u64 0), (Value.int .u64 0), (Value.bool false)]) M rfl Try.el85.zero rfl (fun b8 w9 hb8 M => ?_)
  refine WL.store (v := (Value.agg #[(Value.int .u64 0), (Value.int .i64 0), (Value.int .u64 0), (Value.int .u64 0), (Value.bool false)])) (cs := [(Value.int .u64 0), (Value.int .i64 0), (Value.int .u64 0), (Value.int .u64 0), (Value.bool false)]) (c' := #[(Value.int .u64 0), (Value.int .i64 0), (Value.int .u64 0), (Value.int .u64 0), (Value.bool false)]) M 0 rfl rfl Try.el85.sized rfl rfl rfl rfl (Nat.le_of_ble_eq_true rfl) (cel_cons rfl (cel_cons rfl (cel_cons rfl (cel_cons rfl (cel_cons rfl cel_nil))))) rfl rfl (fun w10 M => ?_)
  refine WL.step (v := (Value.int .i64 1)) rfl (Step.assign rfl) ?_
  refine WL.nil ?_
  refine W.seq' ?_
  refine W.region rfl ?_
  refine WL.step (v := (Value.pointer none)) rfl (Step.move rfl) ?_
  refine WL.step (v := (Value.pointer (some ⟨b1, 1, none⟩))) rfl (Step.pure (by kernel_rfl)) ?_
  refine WL.step (v := (Value.int .i64 a.owner)) rfl (Step.load1 Try.sc3 rfl ((M.cell 2 rfl 1).trans rfl)) ?_
  refine WL.step (v := (Value.pointer (some ⟨b1, 2, none⟩))) rfl (Step.pure (by kernel_rfl)) ?_
  refine WL.step (v := (Value.int .u64 a.id)) rfl (Step.load1 Try.sc23 rfl ((M.cell 2 rfl 2).trans rfl)) ?_
  refine WL.step (v := (Value.pointer (some ⟨b1, 4, none⟩))) rfl (Step.pure (by kernel_rfl)) ?_
  refine WL.step (v := (Value.int .u64 a.till)) rfl (Step.load1 Try.sc23 rfl ((M.cell 2 rfl 4).trans rfl)) ?_
  refine WL.step (v := (Value.pointer (some ⟨b1, 5, none⟩))) rfl (Step.pure (by kernel_rfl)) ?_
  refine WL.step (v := (Value.bool a.cursor)) rfl (Step.load1 Try.sc4 rfl ((M.cell 2 rfl 5).trans rfl)) ?_
  refine WL.callX rfl (len_renew a.owner a.id a.till a.cursor (M.enterW0 trivial)) (CallsF.func Try.en52 rfl) ?_
  rintro _ w11 ⟨rfl, m⟩
  replace M := M.leaveW0 m
  clear m
  replace M : Mem _ _ _ [blk b8 (.cells #[(Value.int .u64 0), (Value.int .i64 0), (Value.int .u64 0), (Value.int .u64 0), (Value.bool false)] 85), blk b4 (.cells #[(Value.int .u64 0), (Value.int .i64 0), (Value.int .u64 0), (Value.int .u64 0), (Value.bool false)] 85), blk b1 (.cells #[(Value.int .i64 a.op), (Value.int .i64 a.owner), (Value.int .u64 a.id), (Value.int .u64 a.n), (Value.int .u64 a.till), (Value.bool a.cursor)] 75)] [] _ := M
  refine WL.step (v := (Value.tuple #[(Value.agg #[(Value.int .u64 0), (Value.int .i64 0), (Value.int .u64 0), (Value.int .u64 0), (Value.bool false)]), (Value.int .i64 1)])) rfl (Step.move rfl) ?_
  refine WL.step (v := (Value.agg #[(Value.int .u64 0), (Value.int .i64 0), (Value.int .u64 0), (Value.int .u64 0), (Value.bool false)])) rfl (Step.pure (by kernel_rfl)) ?_
  refine WL.step (v := (Value.int .i64 1)) rfl (Step.pure (by kernel_rfl)) ?_
  refine WL.alloc (c := #[(Value.int .u64 0), (Value.int .i64 0), (Value.int .u64 0), (Value.int .u64 0), (Value.bool false)]) M rfl Try.el85.zero rfl (fun b12 w13 hb12 M => ?_)
  refine WL.store (v := (Value.agg #[(Value.int .u64 0), (Value.int .i64 0), (Value.int .u64 0), (Value.int .u64 0), (Value.bool false)])) (cs := [(Value.int .u64 0), (Value.int .i64 0), (Value.int .u64 0), (Value.int .u64 0), (Value.bool false)]) (c' := #[(Value.int .u64 0), (Value.int .i64 0), (Value.int .u64 0), (Value.int .u64 0), (Value.bool false)]) M 0 rfl rfl Try.el85.sized rfl rfl rfl rfl (Nat.le_of_ble_eq_true rfl) (cel_cons rfl (cel_cons rfl (cel_cons rfl (cel_cons rfl (cel_cons rfl cel_nil))))) rfl rfl (fun w14 M => ?_)
  refine WL.step (v := (Value.int .i64 1)) rfl (Step.assign rfl) ?_
  refine WL.nil ?_
  refine W.seq' ?_
  refine W.region rfl ?_
  refine WL.step (v := (Value.pointer none)) rfl (Step.move rfl) ?_
  refine WL.step (v := (Value.pointer (some ⟨b1, 1, none⟩))) rfl (Step.pure (by kernel_rfl)) ?_
  refine WL.step (v := (Value.int .i64 a.owner)) rfl (Step.load1 Try.sc3 rfl ((M.cell 3 rfl 1).trans rfl)) ?_
  refine WL.step (v := (Value.pointer (some ⟨b1, 2, none⟩))) rfl (Step.pure (by kernel_rfl)) ?_
  refine WL.step (v := (Value.int .u64 a.id)) rfl (Step.load1 Try.sc23 rfl ((M.cell 3 rfl 2).trans rfl)) ?_
  refine WL.step (v := (Value.pointer (some ⟨b1, 3, none⟩))) rfl (Step.pure (by kernel_rfl)) ?_
  refine WL.step (v := (Value.int .u64 a.n)) rfl (Step.load1 Try.sc23 rfl ((M.cell 3 rfl 3).trans rfl)) ?_
  refine WL.callX rfl (len_move a.owner a.id a.n (M.enterW0 trivial)) (CallsF.func Try.en53 rfl) ?_
  rintro _ w15 ⟨rfl, m⟩
  replace M := M.leaveW0 m
  clear m
  replace M : Mem _ _ _ [blk b12 (.cells #[(Value.int .u64 0), (Value.int .i64 0), (Value.int .u64 0), (Value.int .u64 0), (Value.bool false)] 85), blk b8 (.cells #[(Value.int .u64 0), (Value.int .i64 0), (Value.int .u64 0), (Value.int .u64 0), (Value.bool false)] 85), blk b4 (.cells #[(Value.int .u64 0), (Value.int .i64 0), (Value.int .u64 0), (Value.int .u64 0), (Value.bool false)] 85), blk b1 (.cells #[(Value.int .i64 a.op), (Value.int .i64 a.owner), (Value.int .u64 a.id), (Value.int .u64 a.n), (Value.int .u64 a.till), (Value.bool a.cursor)] 75)] [] _ := M
  refine WL.step (v := (Value.tuple #[(Value.agg #[(Value.int .u64 0), (Value.int .i64 0), (Value.int .u64 0), (Value.int .u64 0), (Value.bool false)]), (Value.int .i64 1)])) rfl (Step.move rfl) ?_
  refine WL.step (v := (Value.agg #[(Value.int .u64 0), (Value.int .i64 0), (Value.int .u64 0), (Value.int .u64 0), (Value.bool false)])) rfl (Step.pure (by kernel_rfl)) ?_
  refine WL.step (v := (Value.int .i64 1)) rfl (Step.pure (by kernel_rfl)) ?_
  refine WL.alloc (c := #[(Value.int .u64 0), (Value.int .i64 0), (Value.int .u64 0), (Value.int .u64 0), (Value.bool false)]) M rfl Try.el85.zero rfl (fun b16 w17 hb16 M => ?_)
  refine WL.store (v := (Value.agg #[(Value.int .u64 0), (Value.int .i64 0), (Value.int .u64 0), (Value.int .u64 0), (Value.bool false)])) (cs := [(Value.int .u64 0), (Value.int .i64 0), (Value.int .u64 0), (Value.int .u64 0), (Value.bool false)]) (c' := #[(Value.int .u64 0), (Value.int .i64 0), (Value.int .u64 0), (Value.int .u64 0), (Value.bool false)]) M 0 rfl rfl Try.el85.sized rfl rfl rfl rfl (Nat.le_of_ble_eq_true rfl) (cel_cons rfl (cel_cons rfl (cel_cons rfl (cel_cons rfl (cel_cons rfl cel_nil))))) rfl rfl (fun w18 M => ?_)
  refine WL.step (v := (Value.int .i64 1)) rfl (Step.assign rfl) ?_
  refine WL.nil ?_
  refine W.seq' ?_
  refine W.region rfl ?_
  refine WL.step (v := (Value.pointer none)) rfl (Step.move rfl) ?_
  refine WL.callX rfl (len_least  (M.enterW0 trivial)) (CallsF.func Try.en50 rfl) ?_
  rintro _ w19 ⟨rfl, m⟩
  replace M := M.leaveW0 m
  clear m
  replace M : Mem _ _ _ [blk b16 (.cells #[(Value.int .u64 0), (Value.int .i64 0), (Value.int .u64 0), (Value.int .u64 0), (Value.bool false)] 85), blk b12 (.cells #[(Value.int .u64 0), (Value.int .i64 0), (Value.int .u64 0), (Value.int .u64 0), (Value.bool false)] 85), blk b8 (.cells #[(Value.int .u64 0), (Value.int .i64 0), (Value.int .u64 0), (Value.int .u64 0), (Value.bool false)] 85), blk b4 (.cells #[(Value.int .u64 0), (Value.int .i64 0), (Value.int .u64 0), (Value.int .u64 0), (Value.bool false)] 85), blk b1 (.cells #[(Value.int .i64 a.op), (Value.int .i64 a.owner), (Value.int .u64 a.id), (Value.int .u64 a.n), (Value.int .u64 a.till), (Value.bool a.cursor)] 75)] [] _ := M
  refine WL.step (v := (Value.tuple #[(Value.int .u64 0), (Value.bool false)])) rfl (Step.move rfl) ?_
  refine WL.step (v := (Value.int .u64 0)) rfl (Step.pure (by kernel_rfl)) ?_
  refine WL.step (v := (Value.bool false)) rfl (Step.pure (by kernel_rfl)) ?_
  refine WL.step (v := (Value.int .u64 0)) rfl (Step.assign rfl) ?_
  refine WL.step (v := (Value.bool false)) rfl (Step.assign rfl) ?_
  refine WL.nil ?_
  refine W.seq' ?_
  refine W.seq' ?_
  refine W.region rfl ?_
  refine WL.step (v := (Value.int .i64 1)) rfl (Step.move rfl) ?_
  refine WL.step (v := (Value.bool false)) rfl (Step.pure (by kernel_rfl)) ?_
  refine WL.step (v := (Value.bool false)) rfl (Step.move rfl) ?_
  refine WL.step (v := (Value.int .i64 1)) rfl (Step.move rfl) ?_
  refine WL.step (v := (Value.bool false)) rfl (Step.pure (by kernel_rfl)) ?_
  refine WL.step (v := (Value.bool false)) rfl (Step.pick (t := false) rfl rfl) ?_
  refine WL.step (v := (Value.bool false)) rfl (Step.move rfl) ?_
  refine WL.step (v := (Value.int .i64 1)) rfl (Step.move rfl) ?_
  refine WL.step (v := (Value.bool false)) rfl (Step.pure (by kernel_rfl)) ?_
  refine WL.step (v := (Value.bool false)) rfl (Step.pick (t := false) rfl rfl) ?_
  refine WL.step (v := (Value.bool false)) rfl (Step.move rfl) ?_
  refine WL.step (v := (Value.int .i64 1)) rfl (Step.move rfl) ?_
  refine WL.step (v := (Value.bool false)) rfl (Step.pure (by kernel_rfl)) ?_
  refine WL.step (v := (Value.bool false)) rfl (Step.pick (t := false) rfl rfl) ?_
  refine WL.step (v := (Value.bool false)) rfl (Step.move rfl) ?_
  refine WL.step (v := (Value.pointer none)) rfl (Step.move rfl) ?_
  refine WL.step (v := (Value.pointer (some ⟨b1, 1, none⟩))) rfl (Step.pure (by kernel_rfl)) ?_
  refine WL.step (v := (Value.int .i64 a.owner)) rfl (Step.load1 Try.sc3 rfl ((M.cell 4 rfl 1).trans rfl)) ?_
  refine WL.step (v := (Value.pointer (some ⟨b1, 2, none⟩))) rfl (Step.pure (by kernel_rfl)) ?_
  refine WL.step (v := (Value.int .u64 a.id)) rfl (Step.load1 Try.sc23 rfl ((M.cell 4 rfl 2).trans rfl)) ?_
  refine WL.step (v := (Value.pointer (some ⟨b1, 5, none⟩))) rfl (Step.pure (by kernel_rfl)) ?_
  refine WL.step (v := (Value.bool a.cursor)) rfl (Step.load1 Try.sc4 rfl ((M.cell 4 rfl 5).trans rfl)) ?_
  refine WL.callX rfl (len_release a.owner a.id a.cursor (M.enterW0 trivial)) (CallsF.func Try.en54 rfl) ?_
  rintro _ w20 ⟨rfl, m⟩
  replace M := M.leaveW0 m
  clear m
  replace M : Mem _ _ _ [blk b16 (.cells #[(Value.int .u64 0), (Value.int .i64 0), (Value.int .u64 0), (Value.int .u64 0), (Value.bool false)] 85), blk b12 (.cells #[(Value.int .u64 0), (Value.int .i64 0), (Value.int .u64 0), (Value.int .u64 0), (Value.bool false)] 85), blk b8 (.cells #[(Value.int .u64 0), (Value.int .i64 0), (Value.int .u64 0), (Value.int .u64 0), (Value.bool false)] 85), blk b4 (.cells #[(Value.int .u64 0), (Value.int .i64 0), (Value.int .u64 0), (Value.int .u64 0), (Value.bool false)] 85), blk b1 (.cells #[(Value.int .i64 a.op), (Value.int .i64 a.owner), (Value.int .u64 a.id), (Value.int .u64 a.n), (Value.int .u64 a.till), (Value.bool a.cursor)] 75)] [] _ := M
  refine WL.step (v := (Value.bool false)) rfl (Step.pure (by kernel_rfl)) ?_
  refine WL.step (v := (Value.bool false)) rfl (Step.pick (t := false) rfl rfl) ?_
  refine WL.nil ?_
  refine W.cond (t := false) rfl (fun h => by cases h) (fun _ => ?_)
  refine W.skip ?_
  refine W.seq' ?_
  refine W.region rfl ?_
  refine WL.step (v := (Value.pointer none)) rfl (Step.move rfl) ?_
  refine WL.step (v := (Value.pointer (some ⟨b1, 3, none⟩))) rfl (Step.pure (by kernel_rfl)) ?_
  refine WL.step (v := (Value.int .u64 a.n)) rfl (Step.load1 Try.sc23 rfl ((M.cell 4 rfl 3).trans rfl)) ?_
  refine WL.callX rfl (len_expire a.n (M.enterW0 trivial)) (CallsF.func Try.en55 rfl) ?_
  rintro _ w21 ⟨rfl, m⟩
  replace M := M.leaveW0 m
  clear m
  replace M : Mem _ _ _ [blk b16 (.cells #[(Value.int .u64 0), (Value.int .i64 0), (Value.int .u64 0), (Value.int .u64 0), (Value.bool false)] 85), blk b12 (.cells #[(Value.int .u64 0), (Value.int .i64 0), (Value.int .u64 0), (Value.int .u64 0), (Value.bool false)] 85), blk b8 (.cells #[(Value.int .u64 0), (Value.int .i64 0), (Value.int .u64 0), (Value.int .u64 0), (Value.bool false)] 85), blk b4 (.cells #[(Value.int .u64 0), (Value.int .i64 0), (Value.int .u64 0), (Value.int .u64 0), (Value.bool false)] 85), blk b1 (.cells #[(Value.int .i64 a.op), (Value.int .i64 a.owner), (Value.int .u64 a.id), (Value.int .u64 a.n), (Value.int .u64 a.till), (Value.bool a.cursor)] 75)] [] _ := M
  refine WL.step (v := (Value.int .i64 0)) rfl (Step.lenS Try.un100 rfl rfl) ?_
  refine WL.step (v := (Value.bool true)) rfl (Step.pure (by kernel_rfl)) ?_
  refine WL.step (v := (Value.bool true)) rfl (Step.move rfl) ?_
  refine WL.step (v := (Value.pointer none)) rfl (Step.move rfl) ?_
  refine WL.step (v := (Value.pointer (some ⟨b1, 1, none⟩))) rfl (Step.pure (by kernel_rfl)) ?_
  refine WL.step (v := (Value.int .i64 a.owner)) rfl (Step.load1 Try.sc3 rfl ((M.cell 4 rfl 1).trans rfl)) ?_
  refine WL.callX rfl (len_leave a.owner (M.enterW0 trivial)) (CallsF.func Try.en56 rfl) ?_
  rintro _ w22 ⟨rfl, m⟩
  replace M := M.leaveW0 m
  clear m
  replace M : Mem _ _ _ [blk b16 (.cells #[(Value.int .u64 0), (Value.int .i64 0), (Value.int .u64 0), (Value.int .u64 0), (Value.bool false)] 85), blk b12 (.cells #[(Value.int .u64 0), (Value.int .i64 0), (Value.int .u64 0), (Value.int .u64 0), (Value.bool false)] 85), blk b8 (.cells #[(Value.int .u64 0), (Value.int .i64 0), (Value.int .u64 0), (Value.int .u64 0), (Value.bool false)] 85), blk b4 (.cells #[(Value.int .u64 0), (Value.int .i64 0), (Value.int .u64 0), (Value.int .u64 0), (Value.bool false)] 85), blk b1 (.cells #[(Value.int .i64 a.op), (Value.int .i64 a.owner), (Value.int .u64 a.id), (Value.int .u64 a.n), (Value.int .u64 a.till), (Value.bool a.cursor)] 75)] [] _ := M
  refine WL.step (v := (Value.int .i64 0)) rfl (Step.lenS Try.un100 rfl rfl) ?_
  refine WL.step (v := (Value.bool true)) rfl (Step.pure (by kernel_rfl)) ?_
  refine WL.step (v := (Value.bool true)) rfl (Step.pick (t := true) rfl rfl) ?_
  refine WL.step (v := (Value.bool true)) rfl (Step.move rfl) ?_
  refine WL.step (v := (Value.int .u64 0)) rfl (Step.move rfl) ?_
  refine WL.step (v := (Value.bool true)) rfl (Step.pure (by kernel_rfl)) ?_
  refine WL.step (v := (Value.bool true)) rfl (Step.pick (t := true) rfl rfl) ?_
  refine WL.step (v := (Value.bool true)) rfl (Step.move rfl) ?_
  refine WL.step (v := (Value.bool false)) rfl (Step.move rfl) ?_
  refine WL.step (v := (Value.bool true)) rfl (Step.pure (by kernel_rfl)) ?_
  refine WL.step (v := (Value.bool true)) rfl (Step.pick (t := true) rfl rfl) ?_
  refine WL.step (v := (Value.bool true)) rfl (Step.move rfl) ?_
  refine WL.step (v := (Value.pointer none)) rfl (Step.move rfl) ?_
  refine WL.callX rfl (len_live  (M.enterW0 trivial)) (CallsF.func Try.en57 rfl) ?_
  rintro _ w23 ⟨rfl, m⟩
  replace M := M.leaveW0 m
  clear m
  replace M : Mem _ _ _ [blk b16 (.cells #[(Value.int .u64 0), (Value.int .i64 0), (Value.int .u64 0), (Value.int .u64 0), (Value.bool false)] 85), blk b12 (.cells #[(Value.int .u64 0), (Value.int .i64 0), (Value.int .u64 0), (Value.int .u64 0), (Value.bool false)] 85), blk b8 (.cells #[(Value.int .u64 0), (Value.int .i64 0), (Value.int .u64 0), (Value.int .u64 0), (Value.bool false)] 85), blk b4 (.cells #[(Value.int .u64 0), (Value.int .i64 0), (Value.int .u64 0), (Value.int .u64 0), (Value.bool false)] 85), blk b1 (.cells #[(Value.int .i64 a.op), (Value.int .i64 a.owner), (Value.int .u64 a.id), (Value.int .u64 a.n), (Value.int .u64 a.till), (Value.bool a.cursor)] 75)] [] _ := M
  refine WL.step (v := (Value.int .i64 0)) rfl (Step.lenS Try.un100 rfl rfl) ?_
  refine WL.step (v := (Value.bool true)) rfl (Step.pure (by kernel_rfl)) ?_
  refine WL.step (v := (Value.bool true)) rfl (Step.pick (t := true) rfl rfl) ?_
  refine WL.step (v := (Value.bool true)) rfl (Step.move rfl) ?_
  refine WL.step (v := (Value.pointer none)) rfl (Step.move rfl) ?_
  refine WL.callX rfl (len_len  (M.enterW0 trivial)) (CallsF.func Try.en45 rfl) ?_
  rintro _ w24 ⟨rfl, m⟩
  replace M := M.leaveW0 m
  clear m
  replace M : Mem _ _ _ [blk b16 (.cells #[(Value.int .u64 0), (Value.int .i64 0), (Value.int .u64 0), (Value.int .u64 0), (Value.bool false)] 85), blk b12 (.cells #[(Value.int .u64 0), (Value.int .i64 0), (Value.int .u64 0), (Value.int .u64 0), (Value.bool false)] 85), blk b8 (.cells #[(Value.int .u64 0), (Value.int .i64 0), (Value.int .u64 0), (Value.int .u64 0), (Value.bool false)] 85), blk b4 (.cells #[(Value.int .u64 0), (Value.int .i64 0), (Value.int .u64 0), (Value.int .u64 0), (Value.bool false)] 85), blk b1 (.cells #[(Value.int .i64 a.op), (Value.int .i64 a.owner), (Value.int .u64 a.id), (Value.int .u64 a.n), (Value.int .u64 a.till), (Value.bool a.cursor)] 75)] [] _ := M
  refine WL.step (v := (Value.bool true)) rfl (Step.pure (by kernel_rfl)) ?_
  refine WL.step (v := (Value.bool true)) rfl (Step.pick (t := true) rfl rfl) ?_
  refine WL.step (v := (Value.bool true)) rfl (Step.move rfl) ?_
  refine WL.callX rfl (law_works  (M.enterW0 trivial)) (CallsF.func Try.en41 rfl) ?_
  rintro _ w25 ⟨rfl, m⟩
  replace M := M.leaveW0 m
  clear m
  replace M : Mem _ _ _ [blk b16 (.cells #[(Value.int .u64 0), (Value.int .i64 0), (Value.int .u64 0), (Value.int .u64 0), (Value.bool false)] 85), blk b12 (.cells #[(Value.int .u64 0), (Value.int .i64 0), (Value.int .u64 0), (Value.int .u64 0), (Value.bool false)] 85), blk b8 (.cells #[(Value.int .u64 0), (Value.int .i64 0), (Value.int .u64 0), (Value.int .u64 0), (Value.bool false)] 85), blk b4 (.cells #[(Value.int .u64 0), (Value.int .i64 0), (Value.int .u64 0), (Value.int .u64 0), (Value.bool false)] 85), blk b1 (.cells #[(Value.int .i64 a.op), (Value.int .i64 a.owner), (Value.int .u64 a.id), (Value.int .u64 a.n), (Value.int .u64 a.till), (Value.bool a.cursor)] 75)] [] _ := M
  refine WL.step (v := (Value.bool true)) rfl (Step.pick (t := true) rfl rfl) ?_
  refine WL.step (v := (Value.bool true)) rfl (Step.assign rfl) ?_
  refine WL.nil ?_
  refine W.ret ?_
  refine ⟨.inl rfl, (Value.bool true), ?_, ?_⟩
  · exact ⟨rfl, (Res.r1 (show RV _ _ _ (.tmp 2) (Value.bool true) from by exact rfl))⟩
  refine ⟨?_, M.close [] rfl (by decide) trivial⟩
  rfl
end Go.Proofs
