/- Walks. -/
import Derived.Test.YthihknbbibgchaaTrZ2
set_option maxRecDepth 100000
set_option linter.all false
namespace Go.Proofs
open Go Tp
theorem Try.ag35 : Aggr Try.prog 35 3 := ⟨fun _ => by kernel_rfl, fun _ => by kernel_rfl⟩
theorem Try.en18 : Enters Try.prog 18 := fun _ _ => by kernel_rfl
theorem Try.en20 : Enters Try.prog 20 := fun _ _ => by kernel_rfl
theorem Try.en54 : Enters Try.prog 54 := fun _ _ => by kernel_rfl

theorem hz_raise0 {G : Nat → Prop} {w : World} (now : Int)   (M : Mem G (fun _ => False) w [] [] w) : Rets Try.prog 27 #[(Value.pointer none), (Value.int .u64 now)] w fun r w' => r = (Value.int .u64 0) ∧ Mem G (fun _ => False) w [] [] w' := by
  refine Rets.enter 22 _ Try.func27 rfl Try.ntmps27 Try.results27 (by simp) ?_
  refine W.seq' ?_
  refine W.region rfl ?_
  refine WL.step (v := (Value.int .u64 0)) rfl (Step.assign rfl) ?_
  refine WL.nil ?_
  refine W.seq' ?_
  refine W.seq' ?_
  refine W.region rfl ?_
  refine WL.step (v := (Value.pointer none)) rfl (Step.move rfl) ?_
  refine WL.step (v := (Value.bool true)) rfl (Step.pure (by kernel_rfl)) ?_
  refine WL.nil ?_
  refine W.cond (t := true) rfl (fun _ => ?_) (fun h => by cases h)
  refine W.seq' ?_
  refine W.region rfl ?_
  refine WL.step (v := (Value.int .u64 0)) rfl (Step.assign rfl) ?_
  refine WL.nil ?_
  refine W.ret ?_
  refine ⟨.inl rfl, (Value.int .u64 0), ?_, ?_⟩
  · exact ⟨rfl, (Res.r1 (show RV _ _ _ (.tmp 4) (Value.int .u64 0) from by exact rfl))⟩
  refine ⟨?_, M.close [] rfl (by decide) trivial⟩
  rfl

theorem hz_raise {G X : Nat → Prop} {w : World} (zb : Nat) (zm : Nat) (ps : List PinH) (fo : Int) (now : Int)   (M : Mem G X w [blk zb (.cells #[(Value.map (some zm)), (Value.int .u64 fo)] 87), mapP zm ps] [] w) : Rets Try.prog 27 #[(Value.pointer (some ⟨zb, 0, none⟩)), (Value.int .u64 now)] w fun r w' => r = (Value.int .u64 (max (fo : Int) (minE now ps : Int))) ∧ Mem G X w [blk zb (.cells #[(Value.map (some zm)), (Value.int .u64 (max (fo : Int) (minE now ps : Int)))] 87), mapP zm ps] [] w' := by
  refine Rets.enter 22 _ Try.func27 rfl Try.ntmps27 Try.results27 (by simp) ?_
  refine W.seq' ?_
  refine W.region rfl ?_
  refine WL.step (v := (Value.int .u64 0)) rfl (Step.assign rfl) ?_
  refine WL.nil ?_
  refine W.seq' ?_
  refine W.seq' ?_
  refine W.region rfl ?_
  refine WL.step (v := (Value.pointer (some ⟨zb, 0, none⟩))) rfl (Step.move rfl) ?_
  refine WL.step (v := (Value.bool false)) rfl (Step.pure (by kernel_rfl)) ?_
  refine WL.nil ?_
  refine W.cond (t := false) rfl (fun h => by cases h) (fun _ => ?_)
  refine W.skip ?_
  refine W.seq' ?_
  refine W.drawn2 M [0, 1, 2, 3, 4, 5, 6, 7, 8] [9, 10, 11] [7, 11] [] [blk zb (.cells #[(Value.map (some zm)), (Value.int .u64 fo)] 87), mapP zm ps] [] (List.Sublist.cons_cons _ (List.Sublist.cons_cons _ List.Sublist.slnil)) (fun _ h => h) Try.mixed (by kernel_rfl) ?_
  refine TW.pure (v := (Value.pointer (some ⟨zb, 0, none⟩))) rfl (by decide) (by decide) rfl (fun w => (Step.move rfl)) ?_
  refine TW.pure (v := (Value.pointer (some ⟨zb, 0, none⟩))) rfl (by decide) (by decide) rfl (fun w => (Step.move rfl)) ?_
  refine TW.pure (v := (Value.pointer (some ⟨zb, 0, none⟩))) rfl (by decide) (by decide) rfl (fun w => (Step.pure (by kernel_rfl))) ?_
  refine TW.pure (v := (Value.pointer (some ⟨zb, 1, none⟩))) rfl (by decide) (by decide) rfl (fun w => (Step.pure (by kernel_rfl))) ?_
  refine TW.read (v := (Value.int .u64 fo)) rfl (by decide) (by decide) rfl (fun A w M => (Step.load1 Try.sc23 rfl ((M.cell 1 rfl 1).trans rfl))) ?_
  refine TW.pure (v := (Value.pointer (some ⟨zb, 0, none⟩))) rfl (by decide) (by decide) rfl (fun w => (Step.move rfl)) ?_
  refine TW.pure (v := (Value.int .u64 now)) rfl (by decide) (by decide) rfl (fun w => (Step.move rfl)) ?_
  refine TW.callX (ι := Unit) (fun jx v_ => v_ = (Value.int .u64 (minE now ps))) (fun jx => [blk zb (.cells #[(Value.map (some zm)), (Value.int .u64 fo)] 87), mapP zm ps]) (fun jx => []) rfl (by decide) rfl (fun jx => (List.Sublist.cons_cons _ (List.Sublist.cons_cons _ List.Sublist.slnil))) (fun jx r h => h) (fun A w M => Rets.mono (hz_least zb zm ps fo now (M.enterW (C := [blk zb (.cells #[(Value.map (some zm)), (Value.int .u64 fo)] 87), mapP zm ps]) (D := [fl A]) [1, 2, 0] rfl (by decide) trivial)) (fun v_ w_ ⟨e_, m⟩ => ⟨(), e_, (M.leaveW (C := [blk zb (.cells #[(Value.map (some zm)), (Value.int .u64 fo)] 87), mapP zm ps]) (D := [fl A]) [1, 2, 0] rfl (by decide) m).sel (L' := [fl A, blk zb (.cells #[(Value.map (some zm)), (Value.int .u64 fo)] 87), mapP zm ps]) [2, 0, 1] rfl (by decide), fun b hb => M.keptW (C := [blk zb (.cells #[(Value.map (some zm)), (Value.int .u64 fo)] 87), mapP zm ps]) (D := [fl A]) [1, 2, 0] rfl (by decide) m (fl A) (List.mem_cons_self ..) b hb⟩)) (fun w => CallsF.func Try.en18 rfl) (fun jx v hp hin => ?_)
  replace hp := hp.symm; subst hp
  clear hin
  change TW _ _ _ _ _ _ _ _ (MemA _ _ _ [blk zb (.cells #[(Value.map (some zm)), (Value.int .u64 fo)] 87), mapP zm ps] [])
  refine TW.pure (v := (Value.int .u64 (max (fo : Int) (minE now ps : Int)))) rfl (by decide) (by decide) rfl (fun w => (Step.maxI rfl rfl)) ?_
  refine TW.turn [mapP zm ps] [] (List.Sublist.cons _ (List.Sublist.cons_cons _ List.Sublist.slnil)) (fun _ h => h) ?_
  refine TW.pure (v := (Value.pointer (some ⟨zb, 0, none⟩))) rfl (by decide) (by decide) rfl (fun w => (Step.pure (by kernel_rfl))) ?_
  refine TW.pure (v := (Value.pointer (some ⟨zb, 1, none⟩))) rfl (by decide) (by decide) rfl (fun w => (Step.pure (by kernel_rfl))) ?_
  refine TW.store (v := (Value.int .u64 (max (fo : Int) (minE now ps : Int)))) (cs := [(Value.int .u64 (max (fo : Int) (minE now ps : Int)))]) (c' := #[(Value.map (some zm)), (Value.int .u64 (max (fo : Int) (minE now ps : Int)))]) 0 rfl rfl (by decide) rfl Try.el23.sized rfl rfl rfl rfl (Nat.le_of_ble_eq_true rfl) (cel_cons rfl cel_nil) rfl rfl (List.Sublist.cons _ (List.Sublist.cons_cons _ List.Sublist.slnil)) (fun r h => h) ?_
  refine TW.done (fun w4 M => ?_)
  refine W.seq' ?_
  refine W.region rfl ?_
  refine WL.step (v := (Value.pointer (some ⟨zb, 0, none⟩))) rfl (Step.move rfl) ?_
  refine WL.step (v := (Value.pointer (some ⟨zb, 0, none⟩))) rfl (Step.pure (by kernel_rfl)) ?_
  refine WL.step (v := (Value.pointer (some ⟨zb, 1, none⟩))) rfl (Step.pure (by kernel_rfl)) ?_
  refine WL.step (v := (Value.int .u64 (max (fo : Int) (minE now ps : Int)))) rfl (Step.load1 Try.sc23 rfl ((M.cell 0 rfl 1).trans rfl)) ?_
  refine WL.step (v := (Value.int .u64 (max (fo : Int) (minE now ps : Int)))) rfl (Step.assign rfl) ?_
  refine WL.nil ?_
  refine W.ret ?_
  refine ⟨.inl rfl, (Value.int .u64 (max (fo : Int) (minE now ps : Int))), ?_, ?_⟩
  · exact ⟨rfl, (Res.r1 (show RV _ _ _ (.tmp 4) (Value.int .u64 (max (fo : Int) (minE now ps : Int))) from by exact rfl))⟩
  refine ⟨?_, M.close [0, 1] rfl (by decide) trivial⟩
  rfl

theorem hz_drop0 {G : Nat → Prop} {w : World} (s : Int) (i : Int)   (M : Mem G (fun _ => False) w [] [] w) : Rets Try.prog 26 #[(Value.pointer none), (Value.int .u8 s), (Value.int .u64 i)] w fun r w' => r = (Value.bool false) ∧ Mem G (fun _ => False) w [] [] w' := by
  refine Rets.enter 25 _ Try.func26 rfl Try.ntmps26 Try.results26 (by simp) ?_
  refine W.seq' ?_
  refine W.region rfl ?_
  refine WL.step (v := (Value.bool false)) rfl (Step.assign rfl) ?_
  refine WL.nil ?_
  refine W.seq' ?_
  refine W.region rfl ?_
  refine WL.step (v := (Value.pointer none)) rfl (Step.move rfl) ?_
  refine WL.step (v := (Value.int .u8 s)) rfl (Step.move rfl) ?_
  refine WL.step (v := (Value.int .u64 i)) rfl (Step.move rfl) ?_
  refine WL.callX rfl (hz_held0 s i (M.enterW0 trivial)) (CallsF.func Try.en20 rfl) ?_
  rintro _ w1 ⟨rfl, m⟩
  replace M := M.leaveW0 m
  clear m
  replace M : Mem _ _ _ [] [] _ := M
  refine WL.step (v := (Value.tuple #[(Value.int .u64 0), (Value.bool false)])) rfl (Step.move rfl) ?_
  refine WL.step (v := (Value.int .u64 0)) rfl (Step.pure (by kernel_rfl)) ?_
  refine WL.step (v := (Value.bool false)) rfl (Step.pure (by kernel_rfl)) ?_
  refine WL.step (v := (Value.int .u64 0)) rfl (Step.assign rfl) ?_
  refine WL.step (v := (Value.bool false)) rfl (Step.assign rfl) ?_
  refine WL.nil ?_
  refine W.seq' ?_
  refine W.seq' ?_
  refine W.region rfl ?_
  refine WL.step (v := (Value.bool false)) rfl (Step.move rfl) ?_
  refine WL.nil ?_
  refine W.cond (t := false) rfl (fun h => by cases h) (fun _ => ?_)
  refine W.skip ?_
  refine W.seq' ?_
  refine W.region rfl ?_
  refine WL.step (v := (Value.bool false)) rfl (Step.move rfl) ?_
  refine WL.step (v := (Value.bool false)) rfl (Step.assign rfl) ?_
  refine WL.nil ?_
  refine W.ret ?_
  refine ⟨.inl rfl, (Value.bool false), ?_, ?_⟩
  · exact ⟨rfl, (Res.r1 (show RV _ _ _ (.tmp 6) (Value.bool false) from by exact rfl))⟩
  refine ⟨?_, M.close [] rfl (by decide) trivial⟩
  rfl

theorem hz_drop {G X : Nat → Prop} {w : World} (zb : Nat) (zm : Nat) (ps : List PinH) (fo : Int) (s : Int) (i : Int)   (M : Mem G X w [blk zb (.cells #[(Value.map (some zm)), (Value.int .u64 fo)] 87), mapP zm ps] [] w) : Rets Try.prog 26 #[(Value.pointer (some ⟨zb, 0, none⟩)), (Value.int .u8 s), (Value.int .u64 i)] w fun r w' => r = (Value.bool ((heldV s i ps).2)) ∧ Mem G X w [blk zb (.cells #[(Value.map (some zm)), (Value.int .u64 fo)] 87), mapP zm (delP s i ps)] [] w' := by
  refine Rets.enter 25 _ Try.func26 rfl Try.ntmps26 Try.results26 (by simp) ?_
  refine W.seq' ?_
  refine W.region rfl ?_
  refine WL.step (v := (Value.bool false)) rfl (Step.assign rfl) ?_
  refine WL.nil ?_
  refine W.seq' ?_
  refine W.region rfl ?_
  refine WL.step (v := (Value.pointer (some ⟨zb, 0, none⟩))) rfl (Step.move rfl) ?_
  refine WL.step (v := (Value.int .u8 s)) rfl (Step.move rfl) ?_
  refine WL.step (v := (Value.int .u64 i)) rfl (Step.move rfl) ?_
  refine WL.callX rfl (hz_held zb zm ps fo s i (M.enterW (C := [blk zb (.cells #[(Value.map (some zm)), (Value.int .u64 fo)] 87), mapP zm ps]) (D := []) [0, 1] rfl (by decide) trivial)) (CallsF.func Try.en20 rfl) ?_
  rintro _ w1 ⟨rfl, m⟩
  replace M := M.leaveW (C := [blk zb (.cells #[(Value.map (some zm)), (Value.int .u64 fo)] 87), mapP zm ps]) (D := []) [0, 1] rfl (by decide) m
  replace M := M.sel (L' := [blk zb (.cells #[(Value.map (some zm)), (Value.int .u64 fo)] 87), mapP zm ps]) [0, 1] rfl (by decide)
  clear m
  replace M : Mem _ _ _ [blk zb (.cells #[(Value.map (some zm)), (Value.int .u64 fo)] 87), mapP zm ps] [] _ := M
  refine WL.step (v := (Value.tuple #[(Value.int .u64 ((heldV s i ps).1)), (Value.bool ((heldV s i ps).2))])) rfl (Step.move rfl) ?_
  refine WL.step (v := (Value.int .u64 ((heldV s i ps).1))) rfl (Step.pure (by kernel_rfl)) ?_
  refine WL.step (v := (Value.bool ((heldV s i ps).2))) rfl (Step.pure (by kernel_rfl)) ?_
  refine WL.step (v := (Value.int .u64 ((heldV s i ps).1))) rfl (Step.assign rfl) ?_
  refine WL.step (v := (Value.bool ((heldV s i ps).2))) rfl (Step.assign rfl) ?_
  refine WL.nil ?_
  refine W.seq' ?_
  refine W.seq' ?_
  refine W.region rfl ?_
  refine WL.step (v := (Value.bool ((heldV s i ps).2))) rfl (Step.move rfl) ?_
  refine WL.nil ?_
  refine W.cond (t := (heldV s i ps).2) rfl (fun h2 => ?_) (fun h2 => ?_)
  ·
    refine W.region rfl ?_
    refine WL.step (v := (Value.pointer (some ⟨zb, 0, none⟩))) rfl (Step.move rfl) ?_
    refine WL.step (v := (Value.pointer (some ⟨zb, 0, none⟩))) rfl (Step.pure (by kernel_rfl)) ?_
    refine WL.step (v := (Value.pointer (some ⟨zb, 0, none⟩))) rfl (Step.pure (by kernel_rfl)) ?_
    refine WL.step (v := (Value.map (some zm))) rfl (Step.load1 Try.sc85 rfl ((M.cell 0 rfl 0).trans rfl)) ?_
    refine WL.step (v := (Value.int .u8 s)) rfl (Step.move rfl) ?_
    refine WL.step (v := (Value.int .u64 i)) rfl (Step.move rfl) ?_
    refine WL.step (v := (Value.agg #[(Value.int .u8 s), (Value.int .u64 i)])) rfl (Step.pure (by kernel_rfl)) ?_
    refine WL.act rfl (Mem.delP M 1 rfl Try.mp85 rfl rfl) ?_
    rintro w3 ⟨M, -⟩
    replace M : Mem _ _ _ [blk zb (.cells #[(Value.map (some zm)), (Value.int .u64 fo)] 87), mapP zm (delP s i ps)] [] _ := M
    refine WL.nil ?_
    refine W.seq' ?_
    refine W.region rfl ?_
    refine WL.step (v := (Value.bool true)) rfl (Step.cast (congrArg Value.bool h2) (Step.move rfl)) ?_
    refine WL.step (v := (Value.bool true)) rfl (Step.assign rfl) ?_
    refine WL.nil ?_
    refine W.ret ?_
    refine ⟨.inl rfl, (Value.bool true), ?_, ?_⟩
    · exact ⟨rfl, (Res.r1 (show RV _ _ _ (.tmp 6) (Value.bool true) from by exact rfl))⟩
    refine ⟨?_, M.close [0, 1] rfl (by decide) trivial⟩
    refine congrArg Value.bool ?_
    simp [h2]
  ·
    refine W.skip ?_
    refine W.seq' ?_
    refine W.region rfl ?_
    refine WL.step (v := (Value.bool false)) rfl (Step.cast (congrArg Value.bool h2) (Step.move rfl)) ?_
    refine WL.step (v := (Value.bool false)) rfl (Step.assign rfl) ?_
    refine WL.nil ?_
    refine W.ret ?_
    refine ⟨.inl rfl, (Value.bool false), ?_, ?_⟩
    · exact ⟨rfl, (Res.r1 (show RV _ _ _ (.tmp 6) (Value.bool false) from by exact rfl))⟩
    replace M := M.rechunk 1 (c' := mapP zm (delP s i ps)) rfl (by rw [delP_no (by rw [← heldV_B]; simpa using h2)])
    replace M : Mem _ _ _ [blk zb (.cells #[(Value.map (some zm)), (Value.int .u64 fo)] 87), mapP zm (delP s i ps)] [] _ := M
    refine ⟨?_, M.close [0, 1] rfl (by decide) trivial⟩
    refine congrArg Value.bool ?_
    simp [h2]

theorem hz_move0 {G : Nat → Prop} {w : World} (p : PinH)   (M : Mem G (fun _ => False) w [] [] w) : Rets Try.prog 25 #[(Value.pointer none), (Value.agg #[(Value.int .u8 p.sort), (Value.int .u64 p.id), (Value.int .u64 p.epoch)])] w fun r w' => r = (Value.int .i64 1) ∧ Mem G (fun _ => False) w [] [] w' := by
  refine Rets.enter 35 _ Try.func25 rfl Try.ntmps25 Try.results25 (by simp) ?_
  refine W.seq' ?_
  refine W.region rfl ?_
  refine WL.box (v := (Value.agg #[(Value.int .u8 p.sort), (Value.int .u64 p.id), (Value.int .u64 p.epoch)])) (c := #[(Value.int .u8 p.sort), (Value.int .u64 p.id), (Value.int .u64 p.epoch)]) M rfl rfl rfl (fun b1 w2 hb1 M => ?_)
  refine WL.step (v := (Value.int .i64 0)) rfl (Step.assign rfl) ?_
  refine WL.nil ?_
  refine W.seq' ?_
  refine W.region rfl ?_
  refine WL.step (v := (Value.pointer none)) rfl (Step.move rfl) ?_
  refine WL.step (v := (Value.pointer (some ⟨b1, 0, none⟩))) rfl (Step.pure (by kernel_rfl)) ?_
  refine WL.step (v := (Value.int .u8 p.sort)) rfl (Step.load1 Try.sc5 rfl ((M.cell 0 rfl 0).trans rfl)) ?_
  refine WL.step (v := (Value.pointer (some ⟨b1, 1, none⟩))) rfl (Step.pure (by kernel_rfl)) ?_
  refine WL.step (v := (Value.int .u64 p.id)) rfl (Step.load1 Try.sc23 rfl ((M.cell 0 rfl 1).trans rfl)) ?_
  refine WL.callX rfl (hz_held0 p.sort p.id (M.enterW0 trivial)) (CallsF.func Try.en20 rfl) ?_
  rintro _ w3 ⟨rfl, m⟩
  replace M := M.leaveW0 m
  clear m
  replace M : Mem _ _ _ [blk b1 (.cells #[(Value.int .u8 p.sort), (Value.int .u64 p.id), (Value.int .u64 p.epoch)] 35)] [] _ := M
  refine WL.step (v := (Value.tuple #[(Value.int .u64 0), (Value.bool false)])) rfl (Step.move rfl) ?_
  refine WL.step (v := (Value.int .u64 0)) rfl (Step.pure (by kernel_rfl)) ?_
  refine WL.step (v := (Value.bool false)) rfl (Step.pure (by kernel_rfl)) ?_
  refine WL.step (v := (Value.int .u64 0)) rfl (Step.assign rfl) ?_
  refine WL.step (v := (Value.bool false)) rfl (Step.assign rfl) ?_
  refine WL.nil ?_
  refine W.seq' ?_
  refine W.block ?_
  refine W.seq' ?_
  refine W.region rfl ?_
  refine WL.step (v := (Value.pointer none)) rfl (Step.move rfl) ?_
  refine WL.step (v := (Value.bool true)) rfl (Step.pure (by kernel_rfl)) ?_
  refine WL.step (v := (Value.bool true)) rfl (Step.assign rfl) ?_
  refine WL.nil ?_
  refine W.cond (t := true) rfl (fun _ => ?_) (fun h => by cases h)
  refine W.seq' ?_
  refine W.region rfl ?_
  refine WL.step (v := (Value.int .i64 1)) rfl (Step.assign rfl) ?_
  refine WL.nil ?_
  refine W.ret ?_
  refine ⟨.inl rfl, (Value.int .i64 1), ?_, ?_⟩
  · exact ⟨rfl, (Res.r1 (show RV _ _ _ (.tmp 4) (Value.int .i64 1) from by exact rfl))⟩
  refine ⟨?_, M.close [] rfl (by decide) trivial⟩
  rfl

theorem hz_move {G X : Nat → Prop} {w : World} (zb : Nat) (zm : Nat) (ps : List PinH) (fo : Int) (p : PinH)   (M : Mem G X w [blk zb (.cells #[(Value.map (some zm)), (Value.int .u64 fo)] 87), mapP zm ps] [] w) : Rets Try.prog 25 #[(Value.pointer (some ⟨zb, 0, none⟩)), (Value.agg #[(Value.int .u8 p.sort), (Value.int .u64 p.id), (Value.int .u64 p.epoch)])] w fun r w' => r = (Value.int .i64 (mvC ps p)) ∧ Mem G X w [blk zb (.cells #[(Value.map (some zm)), (Value.int .u64 fo)] 87), mapP zm (mvS ps p)] [] w' := by
  refine Rets.enter 35 _ Try.func25 rfl Try.ntmps25 Try.results25 (by simp) ?_
  refine W.seq' ?_
  refine W.region rfl ?_
  refine WL.box (v := (Value.agg #[(Value.int .u8 p.sort), (Value.int .u64 p.id), (Value.int .u64 p.epoch)])) (c := #[(Value.int .u8 p.sort), (Value.int .u64 p.id), (Value.int .u64 p.epoch)]) M rfl rfl rfl (fun b1 w2 hb1 M => ?_)
  refine WL.step (v := (Value.int .i64 0)) rfl (Step.assign rfl) ?_
  refine WL.nil ?_
  refine W.seq' ?_
  refine W.region rfl ?_
  refine WL.step (v := (Value.pointer (some ⟨zb, 0, none⟩))) rfl (Step.move rfl) ?_
  refine WL.step (v := (Value.pointer (some ⟨b1, 0, none⟩))) rfl (Step.pure (by kernel_rfl)) ?_
  refine WL.step (v := (Value.int .u8 p.sort)) rfl (Step.load1 Try.sc5 rfl ((M.cell 0 rfl 0).trans rfl)) ?_
  refine WL.step (v := (Value.pointer (some ⟨b1, 1, none⟩))) rfl (Step.pure (by kernel_rfl)) ?_
  refine WL.step (v := (Value.int .u64 p.id)) rfl (Step.load1 Try.sc23 rfl ((M.cell 0 rfl 1).trans rfl)) ?_
  refine WL.callX rfl (hz_held zb zm ps fo p.sort p.id (M.enterW (C := [blk zb (.cells #[(Value.map (some zm)), (Value.int .u64 fo)] 87), mapP zm ps]) (D := [blk b1 (.cells #[(Value.int .u8 p.sort), (Value.int .u64 p.id), (Value.int .u64 p.epoch)] 35)]) [1, 2, 0] rfl (by decide) trivial)) (CallsF.func Try.en20 rfl) ?_
  rintro _ w3 ⟨rfl, m⟩
  replace M := M.leaveW (C := [blk zb (.cells #[(Value.map (some zm)), (Value.int .u64 fo)] 87), mapP zm ps]) (D := [blk b1 (.cells #[(Value.int .u8 p.sort), (Value.int .u64 p.id), (Value.int .u64 p.epoch)] 35)]) [1, 2, 0] rfl (by decide) m
  replace M := M.sel (L' := [blk b1 (.cells #[(Value.int .u8 p.sort), (Value.int .u64 p.id), (Value.int .u64 p.epoch)] 35), blk zb (.cells #[(Value.map (some zm)), (Value.int .u64 fo)] 87), mapP zm ps]) [2, 0, 1] rfl (by decide)
  clear m
  replace M : Mem _ _ _ [blk b1 (.cells #[(Value.int .u8 p.sort), (Value.int .u64 p.id), (Value.int .u64 p.epoch)] 35), blk zb (.cells #[(Value.map (some zm)), (Value.int .u64 fo)] 87), mapP zm ps] [] _ := M
  refine WL.step (v := (Value.tuple #[(Value.int .u64 ((heldV p.sort p.id ps).1)), (Value.bool ((heldV p.sort p.id ps).2))])) rfl (Step.move rfl) ?_
  refine WL.step (v := (Value.int .u64 ((heldV p.sort p.id ps).1))) rfl (Step.pure (by kernel_rfl)) ?_
  refine WL.step (v := (Value.bool ((heldV p.sort p.id ps).2))) rfl (Step.pure (by kernel_rfl)) ?_
  refine WL.step (v := (Value.int .u64 ((heldV p.sort p.id ps).1))) rfl (Step.assign rfl) ?_
  refine WL.step (v := (Value.bool ((heldV p.sort p.id ps).2))) rfl (Step.assign rfl) ?_
  refine WL.nil ?_
  refine W.seq' ?_
  refine W.block ?_
  refine W.seq' ?_
  refine W.region rfl ?_
  refine WL.step (v := (Value.pointer (some ⟨zb, 0, none⟩))) rfl (Step.move rfl) ?_
  refine WL.step (v := (Value.bool false)) rfl (Step.pure (by kernel_rfl)) ?_
  refine WL.step (v := (Value.bool false)) rfl (Step.assign rfl) ?_
  refine WL.nil ?_
  refine W.cond (t := false) rfl (fun h => by cases h) (fun _ => ?_)
  refine W.seq' ?_
  refine W.region rfl ?_
  refine WL.step (v := (Value.bool ((heldV p.sort p.id ps).2))) rfl (Step.move rfl) ?_
  refine WL.step (v := (Value.bool (!((heldV p.sort p.id ps).2)))) rfl (Step.pure (by kernel_rfl)) ?_
  refine WL.step (v := (Value.bool (!((heldV p.sort p.id ps).2)))) rfl (Step.assign rfl) ?_
  refine WL.nil ?_
  refine W.cond (t := !((heldV p.sort p.id ps).2)) rfl (fun h4 => ?_) (fun h4 => ?_)
  ·
    refine W.seq' ?_
    refine W.region rfl ?_
    refine WL.step (v := (Value.int .i64 2)) rfl (Step.assign rfl) ?_
    refine WL.nil ?_
    refine W.ret ?_
    refine ⟨.inl rfl, (Value.int .i64 2), ?_, ?_⟩
    · exact ⟨rfl, (Res.r1 (show RV _ _ _ (.tmp 4) (Value.int .i64 2) from by exact rfl))⟩
    have hmc_ : mvC ps p = 2 := mvC_no (by simpa using h4)
    replace M := M.rechunk 2 (c' := mapP zm (mvS ps p)) rfl (by unfold mvS; rw [hmc_]; rfl)
    replace M : Mem _ _ _ [blk b1 (.cells #[(Value.int .u8 p.sort), (Value.int .u64 p.id), (Value.int .u64 p.epoch)] 35), blk zb (.cells #[(Value.map (some zm)), (Value.int .u64 fo)] 87), mapP zm (mvS ps p)] [] _ := M
    refine ⟨?_, M.close [1, 2] rfl (by decide) trivial⟩
    rw [hmc_]
  ·
    refine W.seq' ?_
    refine W.region rfl ?_
    refine WL.step (v := (Value.pointer (some ⟨b1, 2, none⟩))) rfl (Step.pure (by kernel_rfl)) ?_
    refine WL.step (v := (Value.int .u64 p.epoch)) rfl (Step.load1 Try.sc23 rfl ((M.cell 0 rfl 2).trans rfl)) ?_
    refine WL.step (v := (Value.int .u64 ((heldV p.sort p.id ps).1))) rfl (Step.move rfl) ?_
    refine WL.step (v := (Value.bool (decide ((p.epoch : Int) < ((heldV p.sort p.id ps).1 : Int))))) rfl (Step.pure (by kernel_rfl)) ?_
    refine WL.step (v := (Value.bool (decide ((p.epoch : Int) < ((heldV p.sort p.id ps).1 : Int))))) rfl (Step.assign rfl) ?_
    refine WL.nil ?_
    refine W.cond (t := decide ((p.epoch : Int) < ((heldV p.sort p.id ps).1 : Int))) rfl (fun h5 => ?_) (fun h5 => ?_)
    ·
      have h5p := of_decide_eq_true h5
      refine W.seq' ?_
      refine W.region rfl ?_
      refine WL.step (v := (Value.int .i64 230)) rfl (Step.assign rfl) ?_
      refine WL.nil ?_
      refine W.ret ?_
      refine ⟨.inl rfl, (Value.int .i64 230), ?_, ?_⟩
      · exact ⟨rfl, (Res.r1 (show RV _ _ _ (.tmp 4) (Value.int .i64 230) from by exact rfl))⟩
      have hmc_ : mvC ps p = 230 := mvC_low (by simpa using h4) h5p
      replace M := M.rechunk 2 (c' := mapP zm (mvS ps p)) rfl (by unfold mvS; rw [hmc_]; rfl)
      replace M : Mem _ _ _ [blk b1 (.cells #[(Value.int .u8 p.sort), (Value.int .u64 p.id), (Value.int .u64 p.epoch)] 35), blk zb (.cells #[(Value.map (some zm)), (Value.int .u64 fo)] 87), mapP zm (mvS ps p)] [] _ := M
      refine ⟨?_, M.close [1, 2] rfl (by decide) trivial⟩
      rw [hmc_]
    ·
      have h5p := of_decide_eq_false h5
      refine W.skip ?_
      refine W.seq' ?_
      refine W.drawn M [0, 1, 2, 3, 4, 5, 6, 7, 8] [5, 8] [] [blk b1 (.cells #[(Value.int .u8 p.sort), (Value.int .u64 p.id), (Value.int .u64 p.epoch)] 35), blk zb (.cells #[(Value.map (some zm)), (Value.int .u64 fo)] 87)] [] (List.Sublist.cons_cons _ (List.Sublist.cons_cons _ (List.Sublist.cons _ List.Sublist.slnil))) (fun _ h => h) Try.mixed (by kernel_rfl) ?_
      refine TW.pure (v := (Value.pointer (some ⟨zb, 0, none⟩))) rfl (by decide) (by decide) rfl (fun w => (Step.move rfl)) ?_
      refine TW.pure (v := (Value.pointer (some ⟨zb, 0, none⟩))) rfl (by decide) (by decide) rfl (fun w => (Step.pure (by kernel_rfl))) ?_
      refine TW.pure (v := (Value.pointer (some ⟨zb, 0, none⟩))) rfl (by decide) (by decide) rfl (fun w => (Step.pure (by kernel_rfl))) ?_
      refine TW.read (v := (Value.map (some zm))) rfl (by decide) (by decide) rfl (fun A w M => (Step.load1 Try.sc85 rfl ((M.cell 2 rfl 0).trans rfl))) ?_
      refine TW.read (v := (Value.agg #[(Value.int .u8 p.sort), (Value.int .u64 p.id), (Value.int .u64 p.epoch)])) rfl (by decide) (by decide) rfl (fun A w M => (Step.loadN Try.ag35 rfl (M.blk 1 rfl) (Nat.le_of_ble_eq_true rfl) rfl)) ?_
      refine TW.callX (ι := Unit) (fun jx v_ => v_ = (Value.agg #[(Value.int .u8 p.sort), (Value.int .u64 p.id)])) (fun jx => [blk b1 (.cells #[(Value.int .u8 p.sort), (Value.int .u64 p.id), (Value.int .u64 p.epoch)] 35), blk zb (.cells #[(Value.map (some zm)), (Value.int .u64 fo)] 87), mapP zm ps]) (fun jx => []) rfl (by decide) rfl (fun jx => (List.Sublist.cons_cons _ (List.Sublist.cons_cons _ (List.Sublist.cons _ List.Sublist.slnil)))) (fun jx r h => h) (fun A w M => Rets.mono (hz_who p (M.enterW0 trivial)) (fun v_ w_ ⟨e_, m⟩ => ⟨(), e_, (M.leaveW0 m).sel (L' := [fl A, blk b1 (.cells #[(Value.int .u8 p.sort), (Value.int .u64 p.id), (Value.int .u64 p.epoch)] 35), blk zb (.cells #[(Value.map (some zm)), (Value.int .u64 fo)] 87), mapP zm ps]) [0, 1, 2, 3] rfl (by decide), fun b hb => M.keptW0 m (fl A) (List.mem_cons_self ..) b hb⟩)) (fun w => CallsF.func Try.en54 rfl) (fun jx v hp hin => ?_)
      replace hp := hp.symm; subst hp
      clear hin
      change TW _ _ _ _ _ _ _ _ (MemA _ _ _ [blk b1 (.cells #[(Value.int .u8 p.sort), (Value.int .u64 p.id), (Value.int .u64 p.epoch)] 35), blk zb (.cells #[(Value.map (some zm)), (Value.int .u64 fo)] 87), mapP zm ps] [])
      refine TW.pure (v := (Value.pointer (some ⟨b1, 2, none⟩))) rfl (by decide) (by decide) rfl (fun w => (Step.pure (by kernel_rfl))) ?_
      refine TW.read (v := (Value.int .u64 p.epoch)) rfl (by decide) (by decide) rfl (fun A w M => (Step.load1 Try.sc23 rfl ((M.cell 1 rfl 2).trans rfl))) ?_
      refine TW.act (c' := mapP zm (setP p ps)) 2 rfl rfl (by decide) rfl (List.Sublist.cons_cons _ (List.Sublist.cons_cons _ (List.Sublist.cons _ List.Sublist.slnil))) (fun r h => h) (fun A w M => Mem.setP (p := p) M 3 rfl Try.mp85 rfl rfl rfl) ?_
      refine TW.done (fun w6 M => ?_)
      refine W.seq' ?_
      refine W.region rfl ?_
      refine WL.step (v := (Value.int .i64 0)) rfl (Step.assign rfl) ?_
      refine WL.nil ?_
      refine W.ret ?_
      refine ⟨.inl rfl, (Value.int .i64 0), ?_, ?_⟩
      · exact ⟨rfl, (Res.r1 (show RV _ _ _ (.tmp 4) (Value.int .i64 0) from by exact rfl))⟩
      have hmc_ : mvC ps p = 0 := mvC_ok (by simpa using h4) h5p
      replace M := M.rechunk 2 (c' := mapP zm (mvS ps p)) rfl (by unfold mvS; rw [hmc_]; rfl)
      replace M : Mem _ _ _ [blk b1 (.cells #[(Value.int .u8 p.sort), (Value.int .u64 p.id), (Value.int .u64 p.epoch)] 35), blk zb (.cells #[(Value.map (some zm)), (Value.int .u64 fo)] 87), mapP zm (mvS ps p)] [] _ := M
      refine ⟨?_, M.close [1, 2] rfl (by decide) trivial⟩
      rw [hmc_]
end Go.Proofs
