/- Walks. -/
import Derived.Test.YtlehkjkpgmkbiaaTrAggM
import Derived.Test.YtlehkjkpgmkbiaaChecked
set_option maxRecDepth 100000
set_option linter.all false
namespace Go.Proofs
open Go Tp
theorem Try.ag32 : Aggr Try.prog 32 4 := ⟨fun _ => by kernel_rfl, fun _ => by kernel_rfl⟩
theorem Try.ag45 : Aggr Try.prog 45 4 := ⟨fun _ => by kernel_rfl, fun _ => by kernel_rfl⟩
theorem Try.el32 : Elem Try.prog 32 (Value.agg #[(Value.int .i64 0), (Value.int .i64 0), (Value.int .i64 0), (Value.int .i64 0)]) 4 32 := Elem.mk (by kernel_rfl)
theorem Try.en71 : Enters Try.prog 71 := fun _ _ => by kernel_rfl
theorem Try.en76 : Enters Try.prog 76 := fun _ _ => by kernel_rfl
theorem Try.en85 : Enters Try.prog 85 := fun _ _ => by kernel_rfl
theorem Try.en121 : Enters Try.prog 121 := fun _ _ => by kernel_rfl
theorem Try.fl32 : (Try.prog.fieldsOf 32).toList = [⟨ "Count", 2, 0, false, "", "", 0⟩, ⟨ "Sum", 2, 1, false, "", "", 8⟩, ⟨ "Min", 2, 2, false, "", "", 16⟩, ⟨ "Max", 2, 3, false, "", "", 24⟩] := by kernel_rfl
theorem Try.eg32 : Try.prog.eqGuardType Try.prog.depth 32 = false := by kernel_rfl
theorem Try.eq32 (d : Nat) (a0 : Int) (a1 : Int) (a2 : Int) (a3 : Int) (b0 : Int) (b1 : Int) (b2 : Int) (b3 : Int) : ∀ w, (Op.equalIn (d + 2) 32 (Value.agg #[(Value.int .i64 a0), (Value.int .i64 a1), (Value.int .i64 a2), (Value.int .i64 a3)]) (Value.agg #[(Value.int .i64 b0), (Value.int .i64 b1), (Value.int .i64 b2), (Value.int .i64 b3)])).run Try.prog w = .ok (((a0 : Int) == (b0 : Int)) && (((a1 : Int) == (b1 : Int)) && (((a2 : Int) == (b2 : Int)) && (((a3 : Int) == (b3 : Int)) && true)))) w :=
  (eq_struct (by kernel_rfl) (by kernel_rfl) (Try.fl32) (eqF_cons (x := (Value.int .i64 a0)) (y := (Value.int .i64 b0)) (by decide) (fun _ => by kernel_rfl) (fun _ => by kernel_rfl) (fun w => run_equalIn_int w _ _ _ .i64 _ _ (by kernel_rfl)) (eqF_cons (x := (Value.int .i64 a1)) (y := (Value.int .i64 b1)) (by decide) (fun _ => by kernel_rfl) (fun _ => by kernel_rfl) (fun w => run_equalIn_int w _ _ _ .i64 _ _ (by kernel_rfl)) (eqF_cons (x := (Value.int .i64 a2)) (y := (Value.int .i64 b2)) (by decide) (fun _ => by kernel_rfl) (fun _ => by kernel_rfl) (fun w => run_equalIn_int w _ _ _ .i64 _ _ (by kernel_rfl)) (eqF_cons (x := (Value.int .i64 a3)) (y := (Value.int .i64 b3)) (by decide) (fun _ => by kernel_rfl) (fun _ => by kernel_rfl) (fun w => run_equalIn_int w _ _ _ .i64 _ _ (by kernel_rfl)) eqF_nil)))))
theorem Try.fl45 : (Try.prog.fieldsOf 45).toList = [⟨ "Count", 2, 0, false, "", "", 0⟩, ⟨ "Sum", 2, 1, false, "", "", 8⟩, ⟨ "Min", 2, 2, false, "", "", 16⟩, ⟨ "Max", 2, 3, false, "", "", 24⟩] := by kernel_rfl
theorem Try.eg45 : Try.prog.eqGuardType Try.prog.depth 45 = false := by kernel_rfl
theorem Try.eq45 (d : Nat) (a0 : Int) (a1 : Int) (a2 : Int) (a3 : Int) (b0 : Int) (b1 : Int) (b2 : Int) (b3 : Int) : ∀ w, (Op.equalIn (d + 2) 45 (Value.agg #[(Value.int .i64 a0), (Value.int .i64 a1), (Value.int .i64 a2), (Value.int .i64 a3)]) (Value.agg #[(Value.int .i64 b0), (Value.int .i64 b1), (Value.int .i64 b2), (Value.int .i64 b3)])).run Try.prog w = .ok (((a0 : Int) == (b0 : Int)) && (((a1 : Int) == (b1 : Int)) && (((a2 : Int) == (b2 : Int)) && (((a3 : Int) == (b3 : Int)) && true)))) w :=
  (eq_struct (by kernel_rfl) (by kernel_rfl) (Try.fl45) (eqF_cons (x := (Value.int .i64 a0)) (y := (Value.int .i64 b0)) (by decide) (fun _ => by kernel_rfl) (fun _ => by kernel_rfl) (fun w => run_equalIn_int w _ _ _ .i64 _ _ (by kernel_rfl)) (eqF_cons (x := (Value.int .i64 a1)) (y := (Value.int .i64 b1)) (by decide) (fun _ => by kernel_rfl) (fun _ => by kernel_rfl) (fun w => run_equalIn_int w _ _ _ .i64 _ _ (by kernel_rfl)) (eqF_cons (x := (Value.int .i64 a2)) (y := (Value.int .i64 b2)) (by decide) (fun _ => by kernel_rfl) (fun _ => by kernel_rfl) (fun w => run_equalIn_int w _ _ _ .i64 _ _ (by kernel_rfl)) (eqF_cons (x := (Value.int .i64 a3)) (y := (Value.int .i64 b3)) (by decide) (fun _ => by kernel_rfl) (fun _ => by kernel_rfl) (fun w => run_equalIn_int w _ _ _ .i64 _ _ (by kernel_rfl)) eqF_nil)))))
theorem Try.sc2 : Scal Try.prog 2 := fun _ => by kernel_rfl
theorem Try.sc4 : Scal Try.prog 4 := fun _ => by kernel_rfl
theorem Try.sc23 : Scal Try.prog 23 := fun _ => by kernel_rfl
theorem Try.mixed : Try.prog.follows .mixedOrders = true := by kernel_rfl

theorem agg_one {G : Nat → Prop} {w : World} (v : Int)   (M : Mem G (fun _ => False) w [] [] w) : Rets Try.prog 76 #[(Value.int .i64 v)] w fun r w' => r = (Value.agg #[(Value.int .i64 1), (Value.int .i64 v), (Value.int .i64 v), (Value.int .i64 v)]) ∧ Mem G (fun _ => False) w [] [] w' := by
  refine Rets.enter 7 _ Try.func76 rfl Try.ntmps76 Try.results76 (by simp) ?_
  refine W.seq' ?_
  refine W.region rfl ?_
  refine WL.alloc (c := #[(Value.int .i64 0), (Value.int .i64 0), (Value.int .i64 0), (Value.int .i64 0)]) M rfl Try.el32.zero rfl (fun b1 w2 hb1 M => ?_)
  refine WL.nil ?_
  refine W.seq' ?_
  refine W.region rfl ?_
  refine WL.step (v := (Value.int .i64 v)) rfl (Step.move rfl) ?_
  refine WL.step (v := (Value.int .i64 v)) rfl (Step.move rfl) ?_
  refine WL.step (v := (Value.int .i64 v)) rfl (Step.move rfl) ?_
  refine WL.step (v := (Value.agg #[(Value.int .i64 1), (Value.int .i64 v), (Value.int .i64 v), (Value.int .i64 v)])) rfl (Step.pure (by kernel_rfl)) ?_
  refine WL.store (v := (Value.agg #[(Value.int .i64 1), (Value.int .i64 v), (Value.int .i64 v), (Value.int .i64 v)])) (cs := [(Value.int .i64 1), (Value.int .i64 v), (Value.int .i64 v), (Value.int .i64 v)]) (c' := #[(Value.int .i64 1), (Value.int .i64 v), (Value.int .i64 v), (Value.int .i64 v)]) M 0 rfl rfl Try.el32.sized rfl rfl rfl rfl (Nat.le_of_ble_eq_true rfl) (cel_cons rfl (cel_cons rfl (cel_cons rfl (cel_cons rfl cel_nil)))) rfl rfl (fun w3 M => ?_)
  refine WL.nil ?_
  refine W.ret ?_
  refine ⟨.inl rfl, (Value.agg #[(Value.int .i64 1), (Value.int .i64 v), (Value.int .i64 v), (Value.int .i64 v)]), ?_, ?_⟩
  · exact ⟨rfl, (Res.r1 (RV.cellN Try.ag32 rfl (M.blk 0 rfl) rfl))⟩
  refine ⟨?_, M.close [] rfl (by decide) trivial⟩
  rfl

theorem agg_blank {G : Nat → Prop} {w : World} (a : Agg5)   (M : Mem G (fun _ => False) w [] [] w) : Rets Try.prog 85 #[(Value.agg #[(Value.int .i64 a.count), (Value.int .i64 a.sum), (Value.int .i64 a.min), (Value.int .i64 a.max)])] w fun r w' => r = (Value.bool (decide (a = aggZ))) ∧ Mem G (fun _ => False) w [] [] w' := by
  refine Rets.enter 6 _ Try.func85 rfl Try.ntmps85 Try.results85 (by simp) ?_
  refine W.seq' ?_
  refine W.region rfl ?_
  refine WL.box (v := (Value.agg #[(Value.int .i64 a.count), (Value.int .i64 a.sum), (Value.int .i64 a.min), (Value.int .i64 a.max)])) (c := #[(Value.int .i64 a.count), (Value.int .i64 a.sum), (Value.int .i64 a.min), (Value.int .i64 a.max)]) M rfl rfl rfl (fun b1 w2 hb1 M => ?_)
  refine WL.step (v := (Value.bool false)) rfl (Step.assign rfl) ?_
  refine WL.nil ?_
  refine W.seq' ?_
  refine W.region rfl ?_
  refine WL.step (v := (Value.agg #[(Value.int .i64 a.count), (Value.int .i64 a.sum), (Value.int .i64 a.min), (Value.int .i64 a.max)])) rfl (Step.loadN Try.ag32 rfl (M.blk 0 rfl) (Nat.le_of_ble_eq_true rfl) rfl) ?_
  refine WL.step (v := (Value.agg #[(Value.int .i64 0), (Value.int .i64 0), (Value.int .i64 0), (Value.int .i64 0)])) rfl (Step.pure (by kernel_rfl)) ?_
  refine WL.step (v := (Value.bool (decide (a = (⟨0, 0, 0, 0⟩ : Agg5))))) rfl (Step.cast (congrArg Value.bool (agg_eqB a (⟨0, 0, 0, 0⟩ : Agg5))) (Step.eqAgg Try.eg32 rfl rfl rfl (Try.eq32 9998 (a.count : Int) (a.sum : Int) (a.min : Int) (a.max : Int) (0 : Int) (0 : Int) (0 : Int) (0 : Int)))) ?_
  refine WL.step (v := (Value.bool (decide (a = (⟨0, 0, 0, 0⟩ : Agg5))))) rfl (Step.assign rfl) ?_
  refine WL.nil ?_
  refine W.ret ?_
  refine ⟨.inl rfl, (Value.bool (decide (a = (⟨0, 0, 0, 0⟩ : Agg5)))), ?_, ?_⟩
  · exact ⟨rfl, (Res.r1 (show RV _ _ _ (.tmp 2) (Value.bool (decide (a = (⟨0, 0, 0, 0⟩ : Agg5)))) from by exact rfl))⟩
  refine ⟨?_, M.close [] rfl (by decide) trivial⟩
  rfl

theorem agg_right {G : Nat → Prop} {w : World} (a : Agg5)   (M : Mem G (fun _ => False) w [] [] w) : Rets Try.prog 71 #[(Value.agg #[(Value.int .i64 a.count), (Value.int .i64 a.sum), (Value.int .i64 a.min), (Value.int .i64 a.max)])] w fun r w' => r = (Value.bool (aggRight a)) ∧ Mem G (fun _ => False) w [] [] w' := by
  refine Rets.enter 29 _ Try.func71 rfl Try.ntmps71 Try.results71 (by simp) ?_
  refine W.seq' ?_
  refine W.region rfl ?_
  refine WL.box (v := (Value.agg #[(Value.int .i64 a.count), (Value.int .i64 a.sum), (Value.int .i64 a.min), (Value.int .i64 a.max)])) (c := #[(Value.int .i64 a.count), (Value.int .i64 a.sum), (Value.int .i64 a.min), (Value.int .i64 a.max)]) M rfl rfl rfl (fun b1 w2 hb1 M => ?_)
  refine WL.step (v := (Value.bool false)) rfl (Step.assign rfl) ?_
  refine WL.nil ?_
  refine W.seq' ?_
  rcases Bool.eq_false_or_eq_true (decide (a = aggZ)) with h3 | h3
  ·
    have h3p := of_decide_eq_true h3
    refine W.drawn M [0, 1, 2, 3, 4, 5, 6, 7, 8, 9, 10, 11, 12, 13, 14, 15, 16, 17, 18, 19, 20, 21, 22, 23, 24, 25, 26] [1, 21] [] [blk b1 (.cells #[(Value.int .i64 a.count), (Value.int .i64 a.sum), (Value.int .i64 a.min), (Value.int .i64 a.max)] 32)] [] (List.Sublist.cons_cons _ List.Sublist.slnil) (fun _ h => h) Try.mixed (by kernel_rfl) ?_
    refine TW.read (v := (Value.agg #[(Value.int .i64 a.count), (Value.int .i64 a.sum), (Value.int .i64 a.min), (Value.int .i64 a.max)])) rfl (by decide) (by decide) rfl (fun A w M => (Step.loadN Try.ag32 rfl (M.blk 1 rfl) (Nat.le_of_ble_eq_true rfl) rfl)) ?_
    refine TW.callX (ι := Unit) (fun jx v_ => v_ = (Value.bool (decide (a = aggZ)))) (fun jx => [blk b1 (.cells #[(Value.int .i64 a.count), (Value.int .i64 a.sum), (Value.int .i64 a.min), (Value.int .i64 a.max)] 32)]) (fun jx => []) rfl (by decide) rfl (fun jx => (List.Sublist.cons_cons _ List.Sublist.slnil)) (fun jx r h => h) (fun A w M => Rets.mono (agg_blank a (M.enterW0 trivial)) (fun v_ w_ ⟨e_, m⟩ => ⟨(), e_, (M.leaveW0 m).sel (L' := [fl A, blk b1 (.cells #[(Value.int .i64 a.count), (Value.int .i64 a.sum), (Value.int .i64 a.min), (Value.int .i64 a.max)] 32)]) [0, 1] rfl (by decide), fun b hb => M.keptW0 m (fl A) (List.mem_cons_self ..) b hb⟩)) (fun w => CallsF.func Try.en85 rfl) (fun jx v hp hin => ?_)
    replace hp := hp.symm; subst hp
    clear hin
    change TW _ _ _ _ _ _ _ _ (MemA _ _ _ [blk b1 (.cells #[(Value.int .i64 a.count), (Value.int .i64 a.sum), (Value.int .i64 a.min), (Value.int .i64 a.max)] 32)] [])
    rw [h3]
    refine TW.pure (v := (Value.bool true)) rfl (by decide) (by decide) rfl (fun w => (Step.move rfl)) ?_
    refine TW.skip rfl rfl ?_
    refine TW.skip rfl rfl ?_
    refine TW.skip rfl rfl ?_
    refine TW.skip rfl rfl ?_
    refine TW.skip rfl rfl ?_
    refine TW.skip rfl rfl ?_
    refine TW.skip rfl rfl ?_
    refine TW.skip rfl rfl ?_
    refine TW.skip rfl rfl ?_
    refine TW.skip rfl rfl ?_
    refine TW.skip rfl rfl ?_
    refine TW.skip rfl rfl ?_
    refine TW.skip rfl rfl ?_
    refine TW.skip rfl rfl ?_
    refine TW.skip rfl rfl ?_
    refine TW.skip rfl rfl ?_
    refine TW.skip rfl rfl ?_
    refine TW.skip rfl rfl ?_
    refine TW.skip rfl rfl ?_
    refine TW.skip rfl rfl ?_
    refine TW.skip rfl rfl ?_
    refine TW.skip rfl rfl ?_
    refine TW.pure (v := (Value.bool true)) rfl (by decide) (by decide) rfl (fun w => (Step.pick (t := true) rfl rfl)) ?_
    refine TW.pure (v := (Value.bool true)) rfl (by decide) (by decide) rfl (fun w => (Step.assign rfl)) ?_
    refine TW.done (fun w4 M => ?_)
    refine W.ret ?_
    refine ⟨.inl rfl, (Value.bool true), ?_, ?_⟩
    · exact ⟨rfl, (Res.r1 (show RV _ _ _ (.tmp 2) (Value.bool true) from by exact rfl))⟩
    refine ⟨?_, M.close [] rfl (by decide) trivial⟩
    refine congrArg Value.bool ?_
    first | rfl | (simp [aggRight, aggZ, h3p]; done) | (simp [aggRight, aggZ, h3p]; omega) | (rw [Bool.eq_iff_iff]; simp [aggRight, aggZ, h3p]; done) | (rw [Bool.eq_iff_iff]; simp [aggRight, aggZ, h3p]; omega) | grind [aggRight, aggZ]
  ·
    have h3p := of_decide_eq_false h3
    rcases Bool.eq_false_or_eq_true (decide ((a.count : Int) > (0 : Int))) with h5 | h5
    ·
      have h5p := of_decide_eq_true h5
      rcases Bool.eq_false_or_eq_true (decide ((a.min : Int) ≤ (a.max : Int))) with h6 | h6
      ·
        have h6p := of_decide_eq_true h6
        rcases Bool.eq_false_or_eq_true (decide ((a.count : Int) > (1 : Int))) with h7 | h7
        ·
          have h7p := of_decide_eq_true h7
          refine W.drawn M [0, 1, 2, 3, 4, 5, 6, 7, 8, 9, 10, 11, 12, 13, 14, 15, 16, 17, 18, 19, 20, 21, 22, 23, 24, 25, 26] [1, 21] [] [blk b1 (.cells #[(Value.int .i64 a.count), (Value.int .i64 a.sum), (Value.int .i64 a.min), (Value.int .i64 a.max)] 32)] [] (List.Sublist.cons_cons _ List.Sublist.slnil) (fun _ h => h) Try.mixed (by kernel_rfl) ?_
          refine TW.read (v := (Value.agg #[(Value.int .i64 a.count), (Value.int .i64 a.sum), (Value.int .i64 a.min), (Value.int .i64 a.max)])) rfl (by decide) (by decide) rfl (fun A w M => (Step.loadN Try.ag32 rfl (M.blk 1 rfl) (Nat.le_of_ble_eq_true rfl) rfl)) ?_
          refine TW.callX (ι := Unit) (fun jx v_ => v_ = (Value.bool (decide (a = aggZ)))) (fun jx => [blk b1 (.cells #[(Value.int .i64 a.count), (Value.int .i64 a.sum), (Value.int .i64 a.min), (Value.int .i64 a.max)] 32)]) (fun jx => []) rfl (by decide) rfl (fun jx => (List.Sublist.cons_cons _ List.Sublist.slnil)) (fun jx r h => h) (fun A w M => Rets.mono (agg_blank a (M.enterW0 trivial)) (fun v_ w_ ⟨e_, m⟩ => ⟨(), e_, (M.leaveW0 m).sel (L' := [fl A, blk b1 (.cells #[(Value.int .i64 a.count), (Value.int .i64 a.sum), (Value.int .i64 a.min), (Value.int .i64 a.max)] 32)]) [0, 1] rfl (by decide), fun b hb => M.keptW0 m (fl A) (List.mem_cons_self ..) b hb⟩)) (fun w => CallsF.func Try.en85 rfl) (fun jx v hp hin => ?_)
          replace hp := hp.symm; subst hp
          clear hin
          change TW _ _ _ _ _ _ _ _ (MemA _ _ _ [blk b1 (.cells #[(Value.int .i64 a.count), (Value.int .i64 a.sum), (Value.int .i64 a.min), (Value.int .i64 a.max)] 32)] [])
          rw [h3]
          refine TW.pure (v := (Value.bool false)) rfl (by decide) (by decide) rfl (fun w => (Step.move rfl)) ?_
          refine TW.pure (v := (Value.pointer (some ⟨b1, 0, none⟩))) rfl (by decide) (by decide) rfl (fun w => (Step.pure (by kernel_rfl))) ?_
          refine TW.read (v := (Value.int .i64 a.count)) rfl (by decide) (by decide) rfl (fun A w M => (Step.load1 Try.sc2 rfl ((M.cell 1 rfl 0).trans rfl))) ?_
          refine TW.pure (v := (Value.bool true)) rfl (by decide) (by decide) rfl (fun w => (Step.cast (congrArg Value.bool h5) (Step.pure (by kernel_rfl)))) ?_
          refine TW.pure (v := (Value.bool true)) rfl (by decide) (by decide) rfl (fun w => (Step.move rfl)) ?_
          refine TW.pure (v := (Value.pointer (some ⟨b1, 2, none⟩))) rfl (by decide) (by decide) rfl (fun w => (Step.pure (by kernel_rfl))) ?_
          refine TW.read (v := (Value.int .i64 a.min)) rfl (by decide) (by decide) rfl (fun A w M => (Step.load1 Try.sc2 rfl ((M.cell 1 rfl 2).trans rfl))) ?_
          refine TW.pure (v := (Value.pointer (some ⟨b1, 3, none⟩))) rfl (by decide) (by decide) rfl (fun w => (Step.pure (by kernel_rfl))) ?_
          refine TW.read (v := (Value.int .i64 a.max)) rfl (by decide) (by decide) rfl (fun A w M => (Step.load1 Try.sc2 rfl ((M.cell 1 rfl 3).trans rfl))) ?_
          refine TW.pure (v := (Value.bool true)) rfl (by decide) (by decide) rfl (fun w => (Step.cast (congrArg Value.bool h6) (Step.pure (by kernel_rfl)))) ?_
          refine TW.pure (v := (Value.bool true)) rfl (by decide) (by decide) rfl (fun w => (Step.pick (t := true) rfl rfl)) ?_
          refine TW.pure (v := (Value.bool true)) rfl (by decide) (by decide) rfl (fun w => (Step.move rfl)) ?_
          refine TW.pure (v := (Value.pointer (some ⟨b1, 0, none⟩))) rfl (by decide) (by decide) rfl (fun w => (Step.pure (by kernel_rfl))) ?_
          refine TW.read (v := (Value.int .i64 a.count)) rfl (by decide) (by decide) rfl (fun A w M => (Step.load1 Try.sc2 rfl ((M.cell 1 rfl 0).trans rfl))) ?_
          refine TW.pure (v := (Value.bool true)) rfl (by decide) (by decide) rfl (fun w => (Step.cast (congrArg Value.bool h7) (Step.pure (by kernel_rfl)))) ?_
          refine TW.pure (v := (Value.bool true)) rfl (by decide) (by decide) rfl (fun w => (Step.move rfl)) ?_
          refine TW.skip rfl rfl ?_
          refine TW.skip rfl rfl ?_
          refine TW.skip rfl rfl ?_
          refine TW.skip rfl rfl ?_
          refine TW.skip rfl rfl ?_
          refine TW.pure (v := (Value.bool true)) rfl (by decide) (by decide) rfl (fun w => (Step.pick (t := true) rfl rfl)) ?_
          refine TW.pure (v := (Value.bool true)) rfl (by decide) (by decide) rfl (fun w => (Step.pick (t := true) rfl rfl)) ?_
          refine TW.pure (v := (Value.bool true)) rfl (by decide) (by decide) rfl (fun w => (Step.pick (t := false) rfl rfl)) ?_
          refine TW.pure (v := (Value.bool true)) rfl (by decide) (by decide) rfl (fun w => (Step.assign rfl)) ?_
          refine TW.done (fun w8 M => ?_)
          refine W.ret ?_
          refine ⟨.inl rfl, (Value.bool true), ?_, ?_⟩
          · exact ⟨rfl, (Res.r1 (show RV _ _ _ (.tmp 2) (Value.bool true) from by exact rfl))⟩
          refine ⟨?_, M.close [] rfl (by decide) trivial⟩
          refine congrArg Value.bool ?_
          first | rfl | (simp [aggRight, aggZ, h3p, h5p, h6p, h7p]; done) | (simp [aggRight, aggZ, h3p, h5p, h6p, h7p]; omega) | (rw [Bool.eq_iff_iff]; simp [aggRight, aggZ, h3p, h5p, h6p, h7p]; done) | (rw [Bool.eq_iff_iff]; simp [aggRight, aggZ, h3p, h5p, h6p, h7p]; omega) | grind [aggRight, aggZ]
        ·
          have h7p := of_decide_eq_false h7
          refine W.drawn M [0, 1, 2, 3, 4, 5, 6, 7, 8, 9, 10, 11, 12, 13, 14, 15, 16, 17, 18, 19, 20, 21, 22, 23, 24, 25, 26] [1, 21] [] [blk b1 (.cells #[(Value.int .i64 a.count), (Value.int .i64 a.sum), (Value.int .i64 a.min), (Value.int .i64 a.max)] 32)] [] (List.Sublist.cons_cons _ List.Sublist.slnil) (fun _ h => h) Try.mixed (by kernel_rfl) ?_
          refine TW.read (v := (Value.agg #[(Value.int .i64 a.count), (Value.int .i64 a.sum), (Value.int .i64 a.min), (Value.int .i64 a.max)])) rfl (by decide) (by decide) rfl (fun A w M => (Step.loadN Try.ag32 rfl (M.blk 1 rfl) (Nat.le_of_ble_eq_true rfl) rfl)) ?_
          refine TW.callX (ι := Unit) (fun jx v_ => v_ = (Value.bool (decide (a = aggZ)))) (fun jx => [blk b1 (.cells #[(Value.int .i64 a.count), (Value.int .i64 a.sum), (Value.int .i64 a.min), (Value.int .i64 a.max)] 32)]) (fun jx => []) rfl (by decide) rfl (fun jx => (List.Sublist.cons_cons _ List.Sublist.slnil)) (fun jx r h => h) (fun A w M => Rets.mono (agg_blank a (M.enterW0 trivial)) (fun v_ w_ ⟨e_, m⟩ => ⟨(), e_, (M.leaveW0 m).sel (L' := [fl A, blk b1 (.cells #[(Value.int .i64 a.count), (Value.int .i64 a.sum), (Value.int .i64 a.min), (Value.int .i64 a.max)] 32)]) [0, 1] rfl (by decide), fun b hb => M.keptW0 m (fl A) (List.mem_cons_self ..) b hb⟩)) (fun w => CallsF.func Try.en85 rfl) (fun jx v hp hin => ?_)
          replace hp := hp.symm; subst hp
          clear hin
          change TW _ _ _ _ _ _ _ _ (MemA _ _ _ [blk b1 (.cells #[(Value.int .i64 a.count), (Value.int .i64 a.sum), (Value.int .i64 a.min), (Value.int .i64 a.max)] 32)] [])
          rw [h3]
          refine TW.pure (v := (Value.bool false)) rfl (by decide) (by decide) rfl (fun w => (Step.move rfl)) ?_
          refine TW.pure (v := (Value.pointer (some ⟨b1, 0, none⟩))) rfl (by decide) (by decide) rfl (fun w => (Step.pure (by kernel_rfl))) ?_
          refine TW.read (v := (Value.int .i64 a.count)) rfl (by decide) (by decide) rfl (fun A w M => (Step.load1 Try.sc2 rfl ((M.cell 1 rfl 0).trans rfl))) ?_
          refine TW.pure (v := (Value.bool true)) rfl (by decide) (by decide) rfl (fun w => (Step.cast (congrArg Value.bool h5) (Step.pure (by kernel_rfl)))) ?_
          refine TW.pure (v := (Value.bool true)) rfl (by decide) (by decide) rfl (fun w => (Step.move rfl)) ?_
          refine TW.pure (v := (Value.pointer (some ⟨b1, 2, none⟩))) rfl (by decide) (by decide) rfl (fun w => (Step.pure (by kernel_rfl))) ?_
          refine TW.read (v := (Value.int .i64 a.min)) rfl (by decide) (by decide) rfl (fun A w M => (Step.load1 Try.sc2 rfl ((M.cell 1 rfl 2).trans rfl))) ?_
          refine TW.pure (v := (Value.pointer (some ⟨b1, 3, none⟩))) rfl (by decide) (by decide) rfl (fun w => (Step.pure (by kernel_rfl))) ?_
          refine TW.read (v := (Value.int .i64 a.max)) rfl (by decide) (by decide) rfl (fun A w M => (Step.load1 Try.sc2 rfl ((M.cell 1 rfl 3).trans rfl))) ?_
          refine TW.pure (v := (Value.bool true)) rfl (by decide) (by decide) rfl (fun w => (Step.cast (congrArg Value.bool h6) (Step.pure (by kernel_rfl)))) ?_
          refine TW.pure (v := (Value.bool true)) rfl (by decide) (by decide) rfl (fun w => (Step.pick (t := true) rfl rfl)) ?_
          refine TW.pure (v := (Value.bool true)) rfl (by decide) (by decide) rfl (fun w => (Step.move rfl)) ?_
          refine TW.pure (v := (Value.pointer (some ⟨b1, 0, none⟩))) rfl (by decide) (by decide) rfl (fun w => (Step.pure (by kernel_rfl))) ?_
          refine TW.read (v := (Value.int .i64 a.count)) rfl (by decide) (by decide) rfl (fun A w M => (Step.load1 Try.sc2 rfl ((M.cell 1 rfl 0).trans rfl))) ?_
          refine TW.pure (v := (Value.bool false)) rfl (by decide) (by decide) rfl (fun w => (Step.cast (congrArg Value.bool h7) (Step.pure (by kernel_rfl)))) ?_
          refine TW.pure (v := (Value.bool false)) rfl (by decide) (by decide) rfl (fun w => (Step.move rfl)) ?_
          refine TW.read (v := (Value.agg #[(Value.int .i64 a.count), (Value.int .i64 a.sum), (Value.int .i64 a.min), (Value.int .i64 a.max)])) rfl (by decide) (by decide) rfl (fun A w M => (Step.loadN Try.ag32 rfl (M.blk 1 rfl) (Nat.le_of_ble_eq_true rfl) rfl)) ?_
          refine TW.pure (v := (Value.pointer (some ⟨b1, 1, none⟩))) rfl (by decide) (by decide) rfl (fun w => (Step.pure (by kernel_rfl))) ?_
          refine TW.read (v := (Value.int .i64 a.sum)) rfl (by decide) (by decide) rfl (fun A w M => (Step.load1 Try.sc2 rfl ((M.cell 1 rfl 1).trans rfl))) ?_
          refine TW.callX (ι := Unit) (fun jx v_ => v_ = (Value.agg #[(Value.int .i64 1), (Value.int .i64 a.sum), (Value.int .i64 a.sum), (Value.int .i64 a.sum)])) (fun jx => [blk b1 (.cells #[(Value.int .i64 a.count), (Value.int .i64 a.sum), (Value.int .i64 a.min), (Value.int .i64 a.max)] 32)]) (fun jx => []) rfl (by decide) rfl (fun jx => (List.Sublist.cons_cons _ List.Sublist.slnil)) (fun jx r h => h) (fun A w M => Rets.mono (agg_one a.sum (M.enterW0 trivial)) (fun v_ w_ ⟨e_, m⟩ => ⟨(), e_, (M.leaveW0 m).sel (L' := [fl A, blk b1 (.cells #[(Value.int .i64 a.count), (Value.int .i64 a.sum), (Value.int .i64 a.min), (Value.int .i64 a.max)] 32)]) [0, 1] rfl (by decide), fun b hb => M.keptW0 m (fl A) (List.mem_cons_self ..) b hb⟩)) (fun w => CallsF.func Try.en76 rfl) (fun jx v hp hin => ?_)
          replace hp := hp.symm; subst hp
          clear hin
          change TW _ _ _ _ _ _ _ _ (MemA _ _ _ [blk b1 (.cells #[(Value.int .i64 a.count), (Value.int .i64 a.sum), (Value.int .i64 a.min), (Value.int .i64 a.max)] 32)] [])
          refine TW.pure (v := (Value.bool (decide (a = (⟨1, a.sum, a.sum, a.sum⟩ : Agg5))))) rfl (by decide) (by decide) rfl (fun w => (Step.cast (congrArg Value.bool (agg_eqB a (⟨1, a.sum, a.sum, a.sum⟩ : Agg5))) (Step.eqAgg Try.eg32 rfl rfl rfl (Try.eq32 9998 (a.count : Int) (a.sum : Int) (a.min : Int) (a.max : Int) (1 : Int) (a.sum : Int) (a.sum : Int) (a.sum : Int))))) ?_
          refine TW.pure (v := (Value.bool (decide (a = (⟨1, a.sum, a.sum, a.sum⟩ : Agg5))))) rfl (by decide) (by decide) rfl (fun w => (Step.pick (t := false) rfl rfl)) ?_
          refine TW.pure (v := (Value.bool (decide (a = (⟨1, a.sum, a.sum, a.sum⟩ : Agg5))))) rfl (by decide) (by decide) rfl (fun w => (Step.pick (t := true) rfl rfl)) ?_
          refine TW.pure (v := (Value.bool (decide (a = (⟨1, a.sum, a.sum, a.sum⟩ : Agg5))))) rfl (by decide) (by decide) rfl (fun w => (Step.pick (t := false) rfl rfl)) ?_
          refine TW.pure (v := (Value.bool (decide (a = (⟨1, a.sum, a.sum, a.sum⟩ : Agg5))))) rfl (by decide) (by decide) rfl (fun w => (Step.assign rfl)) ?_
          refine TW.done (fun w9 M => ?_)
          refine W.ret ?_
          refine ⟨.inl rfl, (Value.bool (decide (a = (⟨1, a.sum, a.sum, a.sum⟩ : Agg5)))), ?_, ?_⟩
          · exact ⟨rfl, (Res.r1 (show RV _ _ _ (.tmp 2) (Value.bool (decide (a = (⟨1, a.sum, a.sum, a.sum⟩ : Agg5)))) from by exact rfl))⟩
          refine ⟨?_, M.close [] rfl (by decide) trivial⟩
          refine congrArg Value.bool ?_
          first | rfl | (simp [aggRight, aggZ, h3p, h5p, h6p, h7p]; done) | (simp [aggRight, aggZ, h3p, h5p, h6p, h7p]; omega) | (rw [Bool.eq_iff_iff]; simp [aggRight, aggZ, h3p, h5p, h6p, h7p]; done) | (rw [Bool.eq_iff_iff]; simp [aggRight, aggZ, h3p, h5p, h6p, h7p]; omega) | grind [aggRight, aggZ]
      ·
        have h6p := of_decide_eq_false h6
        refine W.drawn M [0, 1, 2, 3, 4, 5, 6, 7, 8, 9, 10, 11, 12, 13, 14, 15, 16, 17, 18, 19, 20, 21, 22, 23, 24, 25, 26] [1, 21] [] [blk b1 (.cells #[(Value.int .i64 a.count), (Value.int .i64 a.sum), (Value.int .i64 a.min), (Value.int .i64 a.max)] 32)] [] (List.Sublist.cons_cons _ List.Sublist.slnil) (fun _ h => h) Try.mixed (by kernel_rfl) ?_
        refine TW.read (v := (Value.agg #[(Value.int .i64 a.count), (Value.int .i64 a.sum), (Value.int .i64 a.min), (Value.int .i64 a.max)])) rfl (by decide) (by decide) rfl (fun A w M => (Step.loadN Try.ag32 rfl (M.blk 1 rfl) (Nat.le_of_ble_eq_true rfl) rfl)) ?_
        refine TW.callX (ι := Unit) (fun jx v_ => v_ = (Value.bool (decide (a = aggZ)))) (fun jx => [blk b1 (.cells #[(Value.int .i64 a.count), (Value.int .i64 a.sum), (Value.int .i64 a.min), (Value.int .i64 a.max)] 32)]) (fun jx => []) rfl (by decide) rfl (fun jx => (List.Sublist.cons_cons _ List.Sublist.slnil)) (fun jx r h => h) (fun A w M => Rets.mono (agg_blank a (M.enterW0 trivial)) (fun v_ w_ ⟨e_, m⟩ => ⟨(), e_, (M.leaveW0 m).sel (L' := [fl A, blk b1 (.cells #[(Value.int .i64 a.count), (Value.int .i64 a.sum), (Value.int .i64 a.min), (Value.int .i64 a.max)] 32)]) [0, 1] rfl (by decide), fun b hb => M.keptW0 m (fl A) (List.mem_cons_self ..) b hb⟩)) (fun w => CallsF.func Try.en85 rfl) (fun jx v hp hin => ?_)
        replace hp := hp.symm; subst hp
        clear hin
        change TW _ _ _ _ _ _ _ _ (MemA _ _ _ [blk b1 (.cells #[(Value.int .i64 a.count), (Value.int .i64 a.sum), (Value.int .i64 a.min), (Value.int .i64 a.max)] 32)] [])
        rw [h3]
        refine TW.pure (v := (Value.bool false)) rfl (by decide) (by decide) rfl (fun w => (Step.move rfl)) ?_
        refine TW.pure (v := (Value.pointer (some ⟨b1, 0, none⟩))) rfl (by decide) (by decide) rfl (fun w => (Step.pure (by kernel_rfl))) ?_
        refine TW.read (v := (Value.int .i64 a.count)) rfl (by decide) (by decide) rfl (fun A w M => (Step.load1 Try.sc2 rfl ((M.cell 1 rfl 0).trans rfl))) ?_
        refine TW.pure (v := (Value.bool true)) rfl (by decide) (by decide) rfl (fun w => (Step.cast (congrArg Value.bool h5) (Step.pure (by kernel_rfl)))) ?_
        refine TW.pure (v := (Value.bool true)) rfl (by decide) (by decide) rfl (fun w => (Step.move rfl)) ?_
        refine TW.pure (v := (Value.pointer (some ⟨b1, 2, none⟩))) rfl (by decide) (by decide) rfl (fun w => (Step.pure (by kernel_rfl))) ?_
        refine TW.read (v := (Value.int .i64 a.min)) rfl (by decide) (by decide) rfl (fun A w M => (Step.load1 Try.sc2 rfl ((M.cell 1 rfl 2).trans rfl))) ?_
        refine TW.pure (v := (Value.pointer (some ⟨b1, 3, none⟩))) rfl (by decide) (by decide) rfl (fun w => (Step.pure (by kernel_rfl))) ?_
        refine TW.read (v := (Value.int .i64 a.max)) rfl (by decide) (by decide) rfl (fun A w M => (Step.load1 Try.sc2 rfl ((M.cell 1 rfl 3).trans rfl))) ?_
        refine TW.pure (v := (Value.bool false)) rfl (by decide) (by decide) rfl (fun w => (Step.cast (congrArg Value.bool h6) (Step.pure (by kernel_rfl)))) ?_
        refine TW.pure (v := (Value.bool false)) rfl (by decide) (by decide) rfl (fun w => (Step.pick (t := true) rfl rfl)) ?_
        refine TW.pure (v := (Value.bool false)) rfl (by decide) (by decide) rfl (fun w => (Step.move rfl)) ?_
        refine TW.skip rfl rfl ?_
        refine TW.skip rfl rfl ?_
        refine TW.skip rfl rfl ?_
        refine TW.skip rfl rfl ?_
        refine TW.skip rfl rfl ?_
        refine TW.skip rfl rfl ?_
        refine TW.skip rfl rfl ?_
        refine TW.skip rfl rfl ?_
        refine TW.skip rfl rfl ?_
        refine TW.skip rfl rfl ?_
        refine TW.pure (v := (Value.bool false)) rfl (by decide) (by decide) rfl (fun w => (Step.pick (t := false) rfl rfl)) ?_
        refine TW.pure (v := (Value.bool false)) rfl (by decide) (by decide) rfl (fun w => (Step.pick (t := false) rfl rfl)) ?_
        refine TW.pure (v := (Value.bool false)) rfl (by decide) (by decide) rfl (fun w => (Step.assign rfl)) ?_
        refine TW.done (fun w10 M => ?_)
        refine W.ret ?_
        refine ⟨.inl rfl, (Value.bool false), ?_, ?_⟩
        · exact ⟨rfl, (Res.r1 (show RV _ _ _ (.tmp 2) (Value.bool false) from by exact rfl))⟩
        refine ⟨?_, M.close [] rfl (by decide) trivial⟩
        refine congrArg Value.bool ?_
        first | rfl | (simp [aggRight, aggZ, h3p, h5p, h6p]; done) | (simp [aggRight, aggZ, h3p, h5p, h6p]; omega) | (rw [Bool.eq_iff_iff]; simp [aggRight, aggZ, h3p, h5p, h6p]; done) | (rw [Bool.eq_iff_iff]; simp [aggRight, aggZ, h3p, h5p, h6p]; omega) | grind [aggRight, aggZ]
    ·
      have h5p := of_decide_eq_false h5
      refine W.drawn M [0, 1, 2, 3, 4, 5, 6, 7, 8, 9, 10, 11, 12, 13, 14, 15, 16, 17, 18, 19, 20, 21, 22, 23, 24, 25, 26] [1, 21] [] [blk b1 (.cells #[(Value.int .i64 a.count), (Value.int .i64 a.sum), (Value.int .i64 a.min), (Value.int .i64 a.max)] 32)] [] (List.Sublist.cons_cons _ List.Sublist.slnil) (fun _ h => h) Try.mixed (by kernel_rfl) ?_
      refine TW.read (v := (Value.agg #[(Value.int .i64 a.count), (Value.int .i64 a.sum), (Value.int .i64 a.min), (Value.int .i64 a.max)])) rfl (by decide) (by decide) rfl (fun A w M => (Step.loadN Try.ag32 rfl (M.blk 1 rfl) (Nat.le_of_ble_eq_true rfl) rfl)) ?_
      refine TW.callX (ι := Unit) (fun jx v_ => v_ = (Value.bool (decide (a = aggZ)))) (fun jx => [blk b1 (.cells #[(Value.int .i64 a.count), (Value.int .i64 a.sum), (Value.int .i64 a.min), (Value.int .i64 a.max)] 32)]) (fun jx => []) rfl (by decide) rfl (fun jx => (List.Sublist.cons_cons _ List.Sublist.slnil)) (fun jx r h => h) (fun A w M => Rets.mono (agg_blank a (M.enterW0 trivial)) (fun v_ w_ ⟨e_, m⟩ => ⟨(), e_, (M.leaveW0 m).sel (L' := [fl A, blk b1 (.cells #[(Value.int .i64 a.count), (Value.int .i64 a.sum), (Value.int .i64 a.min), (Value.int .i64 a.max)] 32)]) [0, 1] rfl (by decide), fun b hb => M.keptW0 m (fl A) (List.mem_cons_self ..) b hb⟩)) (fun w => CallsF.func Try.en85 rfl) (fun jx v hp hin => ?_)
      replace hp := hp.symm; subst hp
      clear hin
      change TW _ _ _ _ _ _ _ _ (MemA _ _ _ [blk b1 (.cells #[(Value.int .i64 a.count), (Value.int .i64 a.sum), (Value.int .i64 a.min), (Value.int .i64 a.max)] 32)] [])
      rw [h3]
      refine TW.pure (v := (Value.bool false)) rfl (by decide) (by decide) rfl (fun w => (Step.move rfl)) ?_
      refine TW.pure (v := (Value.pointer (some ⟨b1, 0, none⟩))) rfl (by decide) (by decide) rfl (fun w => (Step.pure (by kernel_rfl))) ?_
      refine TW.read (v := (Value.int .i64 a.count)) rfl (by decide) (by decide) rfl (fun A w M => (Step.load1 Try.sc2 rfl ((M.cell 1 rfl 0).trans rfl))) ?_
      refine TW.pure (v := (Value.bool false)) rfl (by decide) (by decide) rfl (fun w => (Step.cast (congrArg Value.bool h5) (Step.pure (by kernel_rfl)))) ?_
      refine TW.pure (v := (Value.bool false)) rfl (by decide) (by decide) rfl (fun w => (Step.move rfl)) ?_
      refine TW.skip rfl rfl ?_
      refine TW.skip rfl rfl ?_
      refine TW.skip rfl rfl ?_
      refine TW.skip rfl rfl ?_
      refine TW.skip rfl rfl ?_
      refine TW.pure (v := (Value.bool false)) rfl (by decide) (by decide) rfl (fun w => (Step.pick (t := false) rfl rfl)) ?_
      refine TW.pure (v := (Value.bool false)) rfl (by decide) (by decide) rfl (fun w => (Step.move rfl)) ?_
      refine TW.skip rfl rfl ?_
      refine TW.skip rfl rfl ?_
      refine TW.skip rfl rfl ?_
      refine TW.skip rfl rfl ?_
      refine TW.skip rfl rfl ?_
      refine TW.skip rfl rfl ?_
      refine TW.skip rfl rfl ?_
      refine TW.skip rfl rfl ?_
      refine TW.skip rfl rfl ?_
      refine TW.skip rfl rfl ?_
      refine TW.pure (v := (Value.bool false)) rfl (by decide) (by decide) rfl (fun w => (Step.pick (t := false) rfl rfl)) ?_
      refine TW.pure (v := (Value.bool false)) rfl (by decide) (by decide) rfl (fun w => (Step.pick (t := false) rfl rfl)) ?_
      refine TW.pure (v := (Value.bool false)) rfl (by decide) (by decide) rfl (fun w => (Step.assign rfl)) ?_
      refine TW.done (fun w11 M => ?_)
      refine W.ret ?_
      refine ⟨.inl rfl, (Value.bool false), ?_, ?_⟩
      · exact ⟨rfl, (Res.r1 (show RV _ _ _ (.tmp 2) (Value.bool false) from by exact rfl))⟩
      refine ⟨?_, M.close [] rfl (by decide) trivial⟩
      refine congrArg Value.bool ?_
      first | rfl | (simp [aggRight, aggZ, h3p, h5p]; done) | (simp [aggRight, aggZ, h3p, h5p]; omega) | (rw [Bool.eq_iff_iff]; simp [aggRight, aggZ, h3p, h5p]; done) | (rw [Bool.eq_iff_iff]; simp [aggRight, aggZ, h3p, h5p]; omega) | grind [aggRight, aggZ]

theorem ref5_right {G : Nat → Prop} {w : World} (a : Agg5)   (M : Mem G (fun _ => False) w [] [] w) : Rets Try.prog 121 #[(Value.agg #[(Value.int .i64 a.count), (Value.int .i64 a.sum), (Value.int .i64 a.min), (Value.int .i64 a.max)])] w fun r w' => r = (Value.bool (aggRight a)) ∧ Mem G (fun _ => False) w [] [] w' := by
  refine Rets.enter 31 _ Try.func121 rfl Try.ntmps121 Try.results121 (by simp) ?_
  refine W.seq' ?_
  refine W.region rfl ?_
  refine WL.box (v := (Value.agg #[(Value.int .i64 a.count), (Value.int .i64 a.sum), (Value.int .i64 a.min), (Value.int .i64 a.max)])) (c := #[(Value.int .i64 a.count), (Value.int .i64 a.sum), (Value.int .i64 a.min), (Value.int .i64 a.max)]) M rfl rfl rfl (fun b1 w2 hb1 M => ?_)
  refine WL.step (v := (Value.bool false)) rfl (Step.assign rfl) ?_
  refine WL.nil ?_
  refine W.seq' ?_
  refine W.seq' ?_
  refine W.region rfl ?_
  refine WL.step (v := (Value.agg #[(Value.int .i64 a.count), (Value.int .i64 a.sum), (Value.int .i64 a.min), (Value.int .i64 a.max)])) rfl (Step.loadN Try.ag45 rfl (M.blk 0 rfl) (Nat.le_of_ble_eq_true rfl) rfl) ?_
  refine WL.step (v := (Value.agg #[(Value.int .i64 0), (Value.int .i64 0), (Value.int .i64 0), (Value.int .i64 0)])) rfl (Step.pure (by kernel_rfl)) ?_
  refine WL.step (v := (Value.bool (decide (a = (⟨0, 0, 0, 0⟩ : Agg5))))) rfl (Step.cast (congrArg Value.bool (agg_eqB a (⟨0, 0, 0, 0⟩ : Agg5))) (Step.eqAgg Try.eg45 rfl rfl rfl (Try.eq45 9998 (a.count : Int) (a.sum : Int) (a.min : Int) (a.max : Int) (0 : Int) (0 : Int) (0 : Int) (0 : Int)))) ?_
  refine WL.nil ?_
  refine W.cond (t := decide (a = (⟨0, 0, 0, 0⟩ : Agg5))) rfl (fun h3 => ?_) (fun h3 => ?_)
  ·
    have h3p := of_decide_eq_true h3
    refine W.seq' ?_
    refine W.region rfl ?_
    refine WL.step (v := (Value.bool true)) rfl (Step.assign rfl) ?_
    refine WL.nil ?_
    refine W.ret ?_
    refine ⟨.inl rfl, (Value.bool true), ?_, ?_⟩
    · exact ⟨rfl, (Res.r1 (show RV _ _ _ (.tmp 2) (Value.bool true) from by exact rfl))⟩
    refine ⟨?_, M.close [] rfl (by decide) trivial⟩
    refine congrArg Value.bool ?_
    simp [aggRight, aggZ, h3p]
  ·
    have h3p := of_decide_eq_false h3
    refine W.skip ?_
    refine W.seq' ?_
    refine W.seq' ?_
    refine W.region rfl ?_
    refine WL.step (v := (Value.pointer (some ⟨b1, 0, none⟩))) rfl (Step.pure (by kernel_rfl)) ?_
    refine WL.step (v := (Value.int .i64 a.count)) rfl (Step.load1 Try.sc2 rfl ((M.cell 0 rfl 0).trans rfl)) ?_
    refine WL.step (v := (Value.bool ((a.count : Int) == (1 : Int)))) rfl (Step.pure (by kernel_rfl)) ?_
    refine WL.nil ?_
    refine W.cond (t := (a.count : Int) == (1 : Int)) rfl (fun h4 => ?_) (fun h4 => ?_)
    ·
      have h4p : (a.count : Int) = (1 : Int) := by simpa using h4
      refine W.seq' ?_
      refine W.region rfl ?_
      refine WL.step (v := (Value.pointer (some ⟨b1, 1, none⟩))) rfl (Step.pure (by kernel_rfl)) ?_
      refine WL.step (v := (Value.int .i64 a.sum)) rfl (Step.load1 Try.sc2 rfl ((M.cell 0 rfl 1).trans rfl)) ?_
      refine WL.step (v := (Value.pointer (some ⟨b1, 2, none⟩))) rfl (Step.pure (by kernel_rfl)) ?_
      refine WL.step (v := (Value.int .i64 a.min)) rfl (Step.load1 Try.sc2 rfl ((M.cell 0 rfl 2).trans rfl)) ?_
      refine WL.step (v := (Value.bool ((a.sum : Int) == (a.min : Int)))) rfl (Step.pure (by kernel_rfl)) ?_
      refine WL.step (v := (Value.bool ((a.sum : Int) == (a.min : Int)))) rfl (Step.move rfl) ?_
      rcases Bool.eq_false_or_eq_true ((a.sum : Int) == (a.min : Int)) with h5 | h5
      ·
        have h5p : (a.sum : Int) = (a.min : Int) := by simpa using h5
        rw [h5]
        refine WL.step (v := (Value.pointer (some ⟨b1, 2, none⟩))) rfl (Step.pure (by kernel_rfl)) ?_
        refine WL.step (v := (Value.int .i64 a.min)) rfl (Step.load1 Try.sc2 rfl ((M.cell 0 rfl 2).trans rfl)) ?_
        refine WL.step (v := (Value.pointer (some ⟨b1, 3, none⟩))) rfl (Step.pure (by kernel_rfl)) ?_
        refine WL.step (v := (Value.int .i64 a.max)) rfl (Step.load1 Try.sc2 rfl ((M.cell 0 rfl 3).trans rfl)) ?_
        refine WL.step (v := (Value.bool ((a.min : Int) == (a.max : Int)))) rfl (Step.pure (by kernel_rfl)) ?_
        refine WL.step (v := (Value.bool ((a.min : Int) == (a.max : Int)))) rfl (Step.pick (t := true) rfl rfl) ?_
        refine WL.step (v := (Value.bool ((a.min : Int) == (a.max : Int)))) rfl (Step.assign rfl) ?_
        refine WL.nil ?_
        refine W.ret ?_
        refine ⟨.inl rfl, (Value.bool ((a.min : Int) == (a.max : Int))), ?_, ?_⟩
        · exact ⟨rfl, (Res.r1 (show RV _ _ _ (.tmp 2) (Value.bool ((a.min : Int) == (a.max : Int))) from by exact rfl))⟩
        refine ⟨?_, M.close [] rfl (by decide) trivial⟩
        refine congrArg Value.bool ?_
        rw [aggRight_one (by simpa [aggZ] using h3) (by simpa using h4)]
        first | rfl | (simp [h3p, h4p, h5p]; done) | (simp [h3p, h4p, h5p]; omega) | (rw [Bool.eq_iff_iff]; simp [h3p, h4p, h5p]; done) | (rw [Bool.eq_iff_iff]; simp [h3p, h4p, h5p]; omega) | grind []
      ·
        have h5p : ¬ (a.sum : Int) = (a.min : Int) := by simpa using h5
        rw [h5]
        refine WL.pass rfl ?_
        refine WL.pass rfl ?_
        refine WL.pass rfl ?_
        refine WL.pass rfl ?_
        refine WL.pass rfl ?_
        refine WL.step (v := (Value.bool false)) rfl (Step.pick (t := false) rfl rfl) ?_
        refine WL.step (v := (Value.bool false)) rfl (Step.assign rfl) ?_
        refine WL.nil ?_
        refine W.ret ?_
        refine ⟨.inl rfl, (Value.bool false), ?_, ?_⟩
        · exact ⟨rfl, (Res.r1 (show RV _ _ _ (.tmp 2) (Value.bool false) from by exact rfl))⟩
        refine ⟨?_, M.close [] rfl (by decide) trivial⟩
        refine congrArg Value.bool ?_
        rw [aggRight_one (by simpa [aggZ] using h3) (by simpa using h4)]
        first | rfl | (simp [h3p, h4p, h5p]; done) | (simp [h3p, h4p, h5p]; omega) | (rw [Bool.eq_iff_iff]; simp [h3p, h4p, h5p]; done) | (rw [Bool.eq_iff_iff]; simp [h3p, h4p, h5p]; omega) | grind []
    ·
      have h4p : ¬ (a.count : Int) = (1 : Int) := by simpa using h4
      refine W.skip ?_
      refine W.seq' ?_
      refine W.region rfl ?_
      refine WL.step (v := (Value.pointer (some ⟨b1, 0, none⟩))) rfl (Step.pure (by kernel_rfl)) ?_
      refine WL.step (v := (Value.int .i64 a.count)) rfl (Step.load1 Try.sc2 rfl ((M.cell 0 rfl 0).trans rfl)) ?_
      refine WL.step (v := (Value.bool (decide ((a.count : Int) > (1 : Int))))) rfl (Step.pure (by kernel_rfl)) ?_
      refine WL.step (v := (Value.bool (decide ((a.count : Int) > (1 : Int))))) rfl (Step.move rfl) ?_
      rcases Bool.eq_false_or_eq_true (decide ((a.count : Int) > (1 : Int))) with h6 | h6
      ·
        have h6p := of_decide_eq_true h6
        rw [h6]
        refine WL.step (v := (Value.pointer (some ⟨b1, 2, none⟩))) rfl (Step.pure (by kernel_rfl)) ?_
        refine WL.step (v := (Value.int .i64 a.min)) rfl (Step.load1 Try.sc2 rfl ((M.cell 0 rfl 2).trans rfl)) ?_
        refine WL.step (v := (Value.pointer (some ⟨b1, 3, none⟩))) rfl (Step.pure (by kernel_rfl)) ?_
        refine WL.step (v := (Value.int .i64 a.max)) rfl (Step.load1 Try.sc2 rfl ((M.cell 0 rfl 3).trans rfl)) ?_
        refine WL.step (v := (Value.bool (decide ((a.min : Int) ≤ (a.max : Int))))) rfl (Step.pure (by kernel_rfl)) ?_
        refine WL.step (v := (Value.bool (decide ((a.min : Int) ≤ (a.max : Int))))) rfl (Step.pick (t := true) rfl rfl) ?_
        refine WL.step (v := (Value.bool (decide ((a.min : Int) ≤ (a.max : Int))))) rfl (Step.assign rfl) ?_
        refine WL.nil ?_
        refine W.ret ?_
        refine ⟨.inl rfl, (Value.bool (decide ((a.min : Int) ≤ (a.max : Int)))), ?_, ?_⟩
        · exact ⟨rfl, (Res.r1 (show RV _ _ _ (.tmp 2) (Value.bool (decide ((a.min : Int) ≤ (a.max : Int)))) from by exact rfl))⟩
        refine ⟨?_, M.close [] rfl (by decide) trivial⟩
        refine congrArg Value.bool ?_
        rw [aggRight_many (by simpa [aggZ] using h3) (by simpa using h4)]
        first | rfl | (simp [h3p, h4p, h6p]; done) | (simp [h3p, h4p, h6p]; omega) | (rw [Bool.eq_iff_iff]; simp [h3p, h4p, h6p]; done) | (rw [Bool.eq_iff_iff]; simp [h3p, h4p, h6p]; omega) | grind []
      ·
        have h6p := of_decide_eq_false h6
        rw [h6]
        refine WL.pass rfl ?_
        refine WL.pass rfl ?_
        refine WL.pass rfl ?_
        refine WL.pass rfl ?_
        refine WL.pass rfl ?_
        refine WL.step (v := (Value.bool false)) rfl (Step.pick (t := false) rfl rfl) ?_
        refine WL.step (v := (Value.bool false)) rfl (Step.assign rfl) ?_
        refine WL.nil ?_
        refine W.ret ?_
        refine ⟨.inl rfl, (Value.bool false), ?_, ?_⟩
        · exact ⟨rfl, (Res.r1 (show RV _ _ _ (.tmp 2) (Value.bool false) from by exact rfl))⟩
        refine ⟨?_, M.close [] rfl (by decide) trivial⟩
        refine congrArg Value.bool ?_
        rw [aggRight_many (by simpa [aggZ] using h3) (by simpa using h4)]
        first | rfl | (simp [h3p, h4p, h6p]; done) | (simp [h3p, h4p, h6p]; omega) | (rw [Bool.eq_iff_iff]; simp [h3p, h4p, h6p]; done) | (rw [Bool.eq_iff_iff]; simp [h3p, h4p, h6p]; omega) | grind []

theorem ver_right {G : Nat → Prop} {w : World} (v : Ver)   (M : Mem G (fun _ => False) w [] [] w) : Rets Try.prog 78 #[(Value.agg #[(Value.int .u64 v.epoch), (Value.bool v.dead), (Value.int .i64 v.agg.count), (Value.int .i64 v.agg.sum), (Value.int .i64 v.agg.min), (Value.int .i64 v.agg.max)])] w fun r w' => r = (Value.bool (rightV v)) ∧ Mem G (fun _ => False) w [] [] w' := by
  refine Rets.enter 19 _ Try.func78 rfl Try.ntmps78 Try.results78 (by simp) ?_
  refine W.seq' ?_
  refine W.region rfl ?_
  refine WL.box (v := (Value.agg #[(Value.int .u64 v.epoch), (Value.bool v.dead), (Value.int .i64 v.agg.count), (Value.int .i64 v.agg.sum), (Value.int .i64 v.agg.min), (Value.int .i64 v.agg.max)])) (c := #[(Value.int .u64 v.epoch), (Value.bool v.dead), (Value.int .i64 v.agg.count), (Value.int .i64 v.agg.sum), (Value.int .i64 v.agg.min), (Value.int .i64 v.agg.max)]) M rfl rfl rfl (fun b1 w2 hb1 M => ?_)
  refine WL.step (v := (Value.bool false)) rfl (Step.assign rfl) ?_
  refine WL.nil ?_
  refine W.seq' ?_
  rcases Bool.eq_false_or_eq_true (decide ((v.epoch : Int) > (0 : Int))) with h3 | h3
  ·
    have h3p := of_decide_eq_true h3
    rcases Bool.eq_false_or_eq_true (aggRight v.agg) with h4 | h4
    ·
      refine W.drawn M [0, 1, 2, 3, 4, 5, 6, 7, 8, 9, 10, 11, 12, 13, 14, 15, 16] [6, 11] [] [blk b1 (.cells #[(Value.int .u64 v.epoch), (Value.bool v.dead), (Value.int .i64 v.agg.count), (Value.int .i64 v.agg.sum), (Value.int .i64 v.agg.min), (Value.int .i64 v.agg.max)] 34)] [] (List.Sublist.cons_cons _ List.Sublist.slnil) (fun _ h => h) Try.mixed (by kernel_rfl) ?_
      refine TW.pure (v := (Value.pointer (some ⟨b1, 0, none⟩))) rfl (by decide) (by decide) rfl (fun w => (Step.pure (by kernel_rfl))) ?_
      refine TW.read (v := (Value.int .u64 v.epoch)) rfl (by decide) (by decide) rfl (fun A w M => (Step.load1 Try.sc23 rfl ((M.cell 1 rfl 0).trans rfl))) ?_
      refine TW.pure (v := (Value.bool true)) rfl (by decide) (by decide) rfl (fun w => (Step.cast (congrArg Value.bool h3) (Step.pure (by kernel_rfl)))) ?_
      refine TW.pure (v := (Value.bool true)) rfl (by decide) (by decide) rfl (fun w => (Step.move rfl)) ?_
      refine TW.pure (v := (Value.pointer (some ⟨b1, 2, none⟩))) rfl (by decide) (by decide) rfl (fun w => (Step.pure (by kernel_rfl))) ?_
      refine TW.read (v := (Value.agg #[(Value.int .i64 v.agg.count), (Value.int .i64 v.agg.sum), (Value.int .i64 v.agg.min), (Value.int .i64 v.agg.max)])) rfl (by decide) (by decide) rfl (fun A w M => (Step.loadN Try.ag32 rfl (M.blk 1 rfl) (Nat.le_of_ble_eq_true rfl) rfl)) ?_
      refine TW.callX (ι := Unit) (fun jx v_ => v_ = (Value.bool (aggRight v.agg))) (fun jx => [blk b1 (.cells #[(Value.int .u64 v.epoch), (Value.bool v.dead), (Value.int .i64 v.agg.count), (Value.int .i64 v.agg.sum), (Value.int .i64 v.agg.min), (Value.int .i64 v.agg.max)] 34)]) (fun jx => []) rfl (by decide) rfl (fun jx => (List.Sublist.cons_cons _ List.Sublist.slnil)) (fun jx r h => h) (fun A w M => Rets.mono (agg_right v.agg (M.enterW0 trivial)) (fun v_ w_ ⟨e_, m⟩ => ⟨(), e_, (M.leaveW0 m).sel (L' := [fl A, blk b1 (.cells #[(Value.int .u64 v.epoch), (Value.bool v.dead), (Value.int .i64 v.agg.count), (Value.int .i64 v.agg.sum), (Value.int .i64 v.agg.min), (Value.int .i64 v.agg.max)] 34)]) [0, 1] rfl (by decide), fun b hb => M.keptW0 m (fl A) (List.mem_cons_self ..) b hb⟩)) (fun w => CallsF.func Try.en71 rfl) (fun jx v hp hin => ?_)
      replace hp := hp.symm; subst hp
      clear hin
      change TW _ _ _ _ _ _ _ _ (MemA _ _ _ [blk b1 (.cells #[(Value.int .u64 v.epoch), (Value.bool v.dead), (Value.int .i64 v.agg.count), (Value.int .i64 v.agg.sum), (Value.int .i64 v.agg.min), (Value.int .i64 v.agg.max)] 34)] [])
      rw [h4]
      refine TW.pure (v := (Value.bool true)) rfl (by decide) (by decide) rfl (fun w => (Step.pick (t := true) rfl rfl)) ?_
      refine TW.pure (v := (Value.bool true)) rfl (by decide) (by decide) rfl (fun w => (Step.move rfl)) ?_
      refine TW.pure (v := (Value.pointer (some ⟨b1, 2, none⟩))) rfl (by decide) (by decide) rfl (fun w => (Step.pure (by kernel_rfl))) ?_
      refine TW.read (v := (Value.agg #[(Value.int .i64 v.agg.count), (Value.int .i64 v.agg.sum), (Value.int .i64 v.agg.min), (Value.int .i64 v.agg.max)])) rfl (by decide) (by decide) rfl (fun A w M => (Step.loadN Try.ag32 rfl (M.blk 1 rfl) (Nat.le_of_ble_eq_true rfl) rfl)) ?_
      refine TW.callX (ι := Unit) (fun jx v_ => v_ = (Value.bool (decide (v.agg = aggZ)))) (fun jx => [blk b1 (.cells #[(Value.int .u64 v.epoch), (Value.bool v.dead), (Value.int .i64 v.agg.count), (Value.int .i64 v.agg.sum), (Value.int .i64 v.agg.min), (Value.int .i64 v.agg.max)] 34)]) (fun jx => []) rfl (by decide) rfl (fun jx => (List.Sublist.cons_cons _ List.Sublist.slnil)) (fun jx r h => h) (fun A w M => Rets.mono (agg_blank v.agg (M.enterW0 trivial)) (fun v_ w_ ⟨e_, m⟩ => ⟨(), e_, (M.leaveW0 m).sel (L' := [fl A, blk b1 (.cells #[(Value.int .u64 v.epoch), (Value.bool v.dead), (Value.int .i64 v.agg.count), (Value.int .i64 v.agg.sum), (Value.int .i64 v.agg.min), (Value.int .i64 v.agg.max)] 34)]) [0, 1] rfl (by decide), fun b hb => M.keptW0 m (fl A) (List.mem_cons_self ..) b hb⟩)) (fun w => CallsF.func Try.en85 rfl) (fun jx v hp hin => ?_)
      replace hp := hp.symm; subst hp
      clear hin
      change TW _ _ _ _ _ _ _ _ (MemA _ _ _ [blk b1 (.cells #[(Value.int .u64 v.epoch), (Value.bool v.dead), (Value.int .i64 v.agg.count), (Value.int .i64 v.agg.sum), (Value.int .i64 v.agg.min), (Value.int .i64 v.agg.max)] 34)] [])
      refine TW.pure (v := (Value.pointer (some ⟨b1, 1, none⟩))) rfl (by decide) (by decide) rfl (fun w => (Step.pure (by kernel_rfl))) ?_
      refine TW.read (v := (Value.bool v.dead)) rfl (by decide) (by decide) rfl (fun A w M => (Step.load1 Try.sc4 rfl ((M.cell 1 rfl 1).trans rfl))) ?_
      refine TW.pure (v := (Value.bool ((decide (v.agg = aggZ)) == v.dead))) rfl (by decide) (by decide) rfl (fun w => (Step.pure (by kernel_rfl))) ?_
      refine TW.pure (v := (Value.bool ((decide (v.agg = aggZ)) == v.dead))) rfl (by decide) (by decide) rfl (fun w => (Step.pick (t := true) rfl rfl)) ?_
      refine TW.pure (v := (Value.bool ((decide (v.agg = aggZ)) == v.dead))) rfl (by decide) (by decide) rfl (fun w => (Step.assign rfl)) ?_
      refine TW.done (fun w5 M => ?_)
      refine W.ret ?_
      refine ⟨.inl rfl, (Value.bool ((decide (v.agg = aggZ)) == v.dead)), ?_, ?_⟩
      · exact ⟨rfl, (Res.r1 (show RV _ _ _ (.tmp 2) (Value.bool ((decide (v.agg = aggZ)) == v.dead)) from by exact rfl))⟩
      refine ⟨?_, M.close [] rfl (by decide) trivial⟩
      refine congrArg Value.bool ?_
      first | rfl | (simp [rightV, h3p, h4]; done) | (simp [rightV, h3p, h4]; omega) | (rw [Bool.eq_iff_iff]; simp [rightV, h3p, h4]; done) | (rw [Bool.eq_iff_iff]; simp [rightV, h3p, h4]; omega) | grind [rightV]
    ·
      refine W.drawn M [0, 1, 2, 3, 4, 5, 6, 7, 8, 9, 10, 11, 12, 13, 14, 15, 16] [6, 11] [] [blk b1 (.cells #[(Value.int .u64 v.epoch), (Value.bool v.dead), (Value.int .i64 v.agg.count), (Value.int .i64 v.agg.sum), (Value.int .i64 v.agg.min), (Value.int .i64 v.agg.max)] 34)] [] (List.Sublist.cons_cons _ List.Sublist.slnil) (fun _ h => h) Try.mixed (by kernel_rfl) ?_
      refine TW.pure (v := (Value.pointer (some ⟨b1, 0, none⟩))) rfl (by decide) (by decide) rfl (fun w => (Step.pure (by kernel_rfl))) ?_
      refine TW.read (v := (Value.int .u64 v.epoch)) rfl (by decide) (by decide) rfl (fun A w M => (Step.load1 Try.sc23 rfl ((M.cell 1 rfl 0).trans rfl))) ?_
      refine TW.pure (v := (Value.bool true)) rfl (by decide) (by decide) rfl (fun w => (Step.cast (congrArg Value.bool h3) (Step.pure (by kernel_rfl)))) ?_
      refine TW.pure (v := (Value.bool true)) rfl (by decide) (by decide) rfl (fun w => (Step.move rfl)) ?_
      refine TW.pure (v := (Value.pointer (some ⟨b1, 2, none⟩))) rfl (by decide) (by decide) rfl (fun w => (Step.pure (by kernel_rfl))) ?_
      refine TW.read (v := (Value.agg #[(Value.int .i64 v.agg.count), (Value.int .i64 v.agg.sum), (Value.int .i64 v.agg.min), (Value.int .i64 v.agg.max)])) rfl (by decide) (by decide) rfl (fun A w M => (Step.loadN Try.ag32 rfl (M.blk 1 rfl) (Nat.le_of_ble_eq_true rfl) rfl)) ?_
      refine TW.callX (ι := Unit) (fun jx v_ => v_ = (Value.bool (aggRight v.agg))) (fun jx => [blk b1 (.cells #[(Value.int .u64 v.epoch), (Value.bool v.dead), (Value.int .i64 v.agg.count), (Value.int .i64 v.agg.sum), (Value.int .i64 v.agg.min), (Value.int .i64 v.agg.max)] 34)]) (fun jx => []) rfl (by decide) rfl (fun jx => (List.Sublist.cons_cons _ List.Sublist.slnil)) (fun jx r h => h) (fun A w M => Rets.mono (agg_right v.agg (M.enterW0 trivial)) (fun v_ w_ ⟨e_, m⟩ => ⟨(), e_, (M.leaveW0 m).sel (L' := [fl A, blk b1 (.cells #[(Value.int .u64 v.epoch), (Value.bool v.dead), (Value.int .i64 v.agg.count), (Value.int .i64 v.agg.sum), (Value.int .i64 v.agg.min), (Value.int .i64 v.agg.max)] 34)]) [0, 1] rfl (by decide), fun b hb => M.keptW0 m (fl A) (List.mem_cons_self ..) b hb⟩)) (fun w => CallsF.func Try.en71 rfl) (fun jx v hp hin => ?_)
      replace hp := hp.symm; subst hp
      clear hin
      change TW _ _ _ _ _ _ _ _ (MemA _ _ _ [blk b1 (.cells #[(Value.int .u64 v.epoch), (Value.bool v.dead), (Value.int .i64 v.agg.count), (Value.int .i64 v.agg.sum), (Value.int .i64 v.agg.min), (Value.int .i64 v.agg.max)] 34)] [])
      rw [h4]
      refine TW.pure (v := (Value.bool false)) rfl (by decide) (by decide) rfl (fun w => (Step.pick (t := true) rfl rfl)) ?_
      refine TW.pure (v := (Value.bool false)) rfl (by decide) (by decide) rfl (fun w => (Step.move rfl)) ?_
      refine TW.skip rfl rfl ?_
      refine TW.skip rfl rfl ?_
      refine TW.skip rfl rfl ?_
      refine TW.skip rfl rfl ?_
      refine TW.skip rfl rfl ?_
      refine TW.skip rfl rfl ?_
      refine TW.pure (v := (Value.bool false)) rfl (by decide) (by decide) rfl (fun w => (Step.pick (t := false) rfl rfl)) ?_
      refine TW.pure (v := (Value.bool false)) rfl (by decide) (by decide) rfl (fun w => (Step.assign rfl)) ?_
      refine TW.done (fun w6 M => ?_)
      refine W.ret ?_
      refine ⟨.inl rfl, (Value.bool false), ?_, ?_⟩
      · exact ⟨rfl, (Res.r1 (show RV _ _ _ (.tmp 2) (Value.bool false) from by exact rfl))⟩
      refine ⟨?_, M.close [] rfl (by decide) trivial⟩
      refine congrArg Value.bool ?_
      first | rfl | (simp [rightV, h3p, h4]; done) | (simp [rightV, h3p, h4]; omega) | (rw [Bool.eq_iff_iff]; simp [rightV, h3p, h4]; done) | (rw [Bool.eq_iff_iff]; simp [rightV, h3p, h4]; omega) | grind [rightV]
  ·
    have h3p := of_decide_eq_false h3
    refine W.drawn M [0, 1, 2, 3, 4, 5, 6, 7, 8, 9, 10, 11, 12, 13, 14, 15, 16] [6, 11] [] [blk b1 (.cells #[(Value.int .u64 v.epoch), (Value.bool v.dead), (Value.int .i64 v.agg.count), (Value.int .i64 v.agg.sum), (Value.int .i64 v.agg.min), (Value.int .i64 v.agg.max)] 34)] [] (List.Sublist.cons_cons _ List.Sublist.slnil) (fun _ h => h) Try.mixed (by kernel_rfl) ?_
    refine TW.pure (v := (Value.pointer (some ⟨b1, 0, none⟩))) rfl (by decide) (by decide) rfl (fun w => (Step.pure (by kernel_rfl))) ?_
    refine TW.read (v := (Value.int .u64 v.epoch)) rfl (by decide) (by decide) rfl (fun A w M => (Step.load1 Try.sc23 rfl ((M.cell 1 rfl 0).trans rfl))) ?_
    refine TW.pure (v := (Value.bool false)) rfl (by decide) (by decide) rfl (fun w => (Step.cast (congrArg Value.bool h3) (Step.pure (by kernel_rfl)))) ?_
    refine TW.pure (v := (Value.bool false)) rfl (by decide) (by decide) rfl (fun w => (Step.move rfl)) ?_
    refine TW.skip rfl rfl ?_
    refine TW.skip rfl rfl ?_
    refine TW.skip rfl rfl ?_
    refine TW.pure (v := (Value.bool false)) rfl (by decide) (by decide) rfl (fun w => (Step.pick (t := false) rfl rfl)) ?_
    refine TW.pure (v := (Value.bool false)) rfl (by decide) (by decide) rfl (fun w => (Step.move rfl)) ?_
    refine TW.skip rfl rfl ?_
    refine TW.skip rfl rfl ?_
    refine TW.skip rfl rfl ?_
    refine TW.skip rfl rfl ?_
    refine TW.skip rfl rfl ?_
    refine TW.skip rfl rfl ?_
    refine TW.pure (v := (Value.bool false)) rfl (by decide) (by decide) rfl (fun w => (Step.pick (t := false) rfl rfl)) ?_
    refine TW.pure (v := (Value.bool false)) rfl (by decide) (by decide) rfl (fun w => (Step.assign rfl)) ?_
    refine TW.done (fun w7 M => ?_)
    refine W.ret ?_
    refine ⟨.inl rfl, (Value.bool false), ?_, ?_⟩
    · exact ⟨rfl, (Res.r1 (show RV _ _ _ (.tmp 2) (Value.bool false) from by exact rfl))⟩
    refine ⟨?_, M.close [] rfl (by decide) trivial⟩
    refine congrArg Value.bool ?_
    first | rfl | (simp [rightV, h3p]; done) | (simp [rightV, h3p]; omega) | (rw [Bool.eq_iff_iff]; simp [rightV, h3p]; done) | (rw [Bool.eq_iff_iff]; simp [rightV, h3p]; omega) | grind [rightV]

theorem ref_right1 {G : Nat → Prop} {w : World} (v : Ver)   (M : Mem G (fun _ => False) w [] [] w) : Rets Try.prog 86 #[(Value.agg #[(Value.int .u64 v.epoch), (Value.bool v.dead), (Value.int .i64 v.agg.count), (Value.int .i64 v.agg.sum), (Value.int .i64 v.agg.min), (Value.int .i64 v.agg.max)])] w fun r w' => r = (Value.bool (rightV v)) ∧ Mem G (fun _ => False) w [] [] w' := by
  refine Rets.enter 22 _ Try.func86 rfl Try.ntmps86 Try.results86 (by simp) ?_
  refine W.seq' ?_
  refine W.region rfl ?_
  refine WL.box (v := (Value.agg #[(Value.int .u64 v.epoch), (Value.bool v.dead), (Value.int .i64 v.agg.count), (Value.int .i64 v.agg.sum), (Value.int .i64 v.agg.min), (Value.int .i64 v.agg.max)])) (c := #[(Value.int .u64 v.epoch), (Value.bool v.dead), (Value.int .i64 v.agg.count), (Value.int .i64 v.agg.sum), (Value.int .i64 v.agg.min), (Value.int .i64 v.agg.max)]) M rfl rfl rfl (fun b1 w2 hb1 M => ?_)
  refine WL.step (v := (Value.bool false)) rfl (Step.assign rfl) ?_
  refine WL.nil ?_
  refine W.seq' ?_
  refine W.region rfl ?_
  refine WL.step (v := (Value.pointer (some ⟨b1, 2, none⟩))) rfl (Step.pure (by kernel_rfl)) ?_
  refine WL.step (v := (Value.agg #[(Value.int .i64 v.agg.count), (Value.int .i64 v.agg.sum), (Value.int .i64 v.agg.min), (Value.int .i64 v.agg.max)])) rfl (Step.loadN Try.ag45 rfl (M.blk 0 rfl) (Nat.le_of_ble_eq_true rfl) rfl) ?_
  refine WL.step (v := (Value.agg #[(Value.int .i64 0), (Value.int .i64 0), (Value.int .i64 0), (Value.int .i64 0)])) rfl (Step.pure (by kernel_rfl)) ?_
  refine WL.step (v := (Value.bool (decide (v.agg = (⟨0, 0, 0, 0⟩ : Agg5))))) rfl (Step.cast (congrArg Value.bool (agg_eqB v.agg (⟨0, 0, 0, 0⟩ : Agg5))) (Step.eqAgg Try.eg45 rfl rfl rfl (Try.eq45 9998 (v.agg.count : Int) (v.agg.sum : Int) (v.agg.min : Int) (v.agg.max : Int) (0 : Int) (0 : Int) (0 : Int) (0 : Int)))) ?_
  refine WL.step (v := (Value.bool (decide (v.agg = (⟨0, 0, 0, 0⟩ : Agg5))))) rfl (Step.assign rfl) ?_
  refine WL.nil ?_
  refine W.seq' ?_
  refine W.region rfl ?_
  refine WL.step (v := (Value.pointer (some ⟨b1, 0, none⟩))) rfl (Step.pure (by kernel_rfl)) ?_
  refine WL.step (v := (Value.int .u64 v.epoch)) rfl (Step.load1 Try.sc23 rfl ((M.cell 0 rfl 0).trans rfl)) ?_
  refine WL.step (v := (Value.bool (decide ((v.epoch : Int) ≥ (1 : Int))))) rfl (Step.pure (by kernel_rfl)) ?_
  refine WL.step (v := (Value.bool (decide ((v.epoch : Int) ≥ (1 : Int))))) rfl (Step.move rfl) ?_
  rcases Bool.eq_false_or_eq_true (decide ((v.epoch : Int) ≥ (1 : Int))) with h3 | h3
  ·
    have h3p := of_decide_eq_true h3
    rw [h3]
    refine WL.step (v := (Value.pointer (some ⟨b1, 2, none⟩))) rfl (Step.pure (by kernel_rfl)) ?_
    refine WL.step (v := (Value.agg #[(Value.int .i64 v.agg.count), (Value.int .i64 v.agg.sum), (Value.int .i64 v.agg.min), (Value.int .i64 v.agg.max)])) rfl (Step.loadN Try.ag45 rfl (M.blk 0 rfl) (Nat.le_of_ble_eq_true rfl) rfl) ?_
    refine WL.callX rfl (ref5_right v.agg (M.enterW0 trivial)) (CallsF.func Try.en121 rfl) ?_
    rintro _ w4 ⟨rfl, m⟩
    replace M := M.leaveW0 m
    clear m
    replace M : Mem _ _ _ [blk b1 (.cells #[(Value.int .u64 v.epoch), (Value.bool v.dead), (Value.int .i64 v.agg.count), (Value.int .i64 v.agg.sum), (Value.int .i64 v.agg.min), (Value.int .i64 v.agg.max)] 51)] [] _ := M
    refine WL.step (v := (Value.bool (aggRight v.agg))) rfl (Step.pick (t := true) rfl rfl) ?_
    refine WL.step (v := (Value.bool (aggRight v.agg))) rfl (Step.move rfl) ?_
    rcases Bool.eq_false_or_eq_true (aggRight v.agg) with h5 | h5
    ·
      rw [h5]
      refine WL.step (v := (Value.pointer (some ⟨b1, 1, none⟩))) rfl (Step.pure (by kernel_rfl)) ?_
      refine WL.step (v := (Value.bool v.dead)) rfl (Step.load1 Try.sc4 rfl ((M.cell 0 rfl 1).trans rfl)) ?_
      refine WL.step (v := (Value.bool (decide (v.agg = (⟨0, 0, 0, 0⟩ : Agg5))))) rfl (Step.move rfl) ?_
      refine WL.step (v := (Value.bool (v.dead == (decide (v.agg = (⟨0, 0, 0, 0⟩ : Agg5)))))) rfl (Step.pure (by kernel_rfl)) ?_
      refine WL.step (v := (Value.bool (v.dead == (decide (v.agg = (⟨0, 0, 0, 0⟩ : Agg5)))))) rfl (Step.pick (t := true) rfl rfl) ?_
      refine WL.step (v := (Value.bool (v.dead == (decide (v.agg = (⟨0, 0, 0, 0⟩ : Agg5)))))) rfl (Step.assign rfl) ?_
      refine WL.nil ?_
      refine W.ret ?_
      refine ⟨.inl rfl, (Value.bool (v.dead == (decide (v.agg = (⟨0, 0, 0, 0⟩ : Agg5))))), ?_, ?_⟩
      · exact ⟨rfl, (Res.r1 (show RV _ _ _ (.tmp 2) (Value.bool (v.dead == (decide (v.agg = (⟨0, 0, 0, 0⟩ : Agg5))))) from by exact rfl))⟩
      refine ⟨?_, M.close [] rfl (by decide) trivial⟩
      refine congrArg Value.bool ?_
      first | rfl | (simp [rightV, aggZ, h3p, h5]; done) | (simp [rightV, aggZ, h3p, h5]; omega) | (rw [Bool.eq_iff_iff]; simp [rightV, aggZ, h3p, h5]; done) | (rw [Bool.eq_iff_iff]; simp [rightV, aggZ, h3p, h5]; omega) | grind [rightV, aggZ]
    ·
      rw [h5]
      refine WL.pass rfl ?_
      refine WL.pass rfl ?_
      refine WL.pass rfl ?_
      refine WL.pass rfl ?_
      refine WL.step (v := (Value.bool false)) rfl (Step.pick (t := false) rfl rfl) ?_
      refine WL.step (v := (Value.bool false)) rfl (Step.assign rfl) ?_
      refine WL.nil ?_
      refine W.ret ?_
      refine ⟨.inl rfl, (Value.bool false), ?_, ?_⟩
      · exact ⟨rfl, (Res.r1 (show RV _ _ _ (.tmp 2) (Value.bool false) from by exact rfl))⟩
      refine ⟨?_, M.close [] rfl (by decide) trivial⟩
      refine congrArg Value.bool ?_
      first | rfl | (simp [rightV, aggZ, h3p, h5]; done) | (simp [rightV, aggZ, h3p, h5]; omega) | (rw [Bool.eq_iff_iff]; simp [rightV, aggZ, h3p, h5]; done) | (rw [Bool.eq_iff_iff]; simp [rightV, aggZ, h3p, h5]; omega) | grind [rightV, aggZ]
  ·
    have h3p := of_decide_eq_false h3
    rw [h3]
    refine WL.pass rfl ?_
    refine WL.pass rfl ?_
    refine WL.pass rfl ?_
    refine WL.step (v := (Value.bool false)) rfl (Step.pick (t := false) rfl rfl) ?_
    refine WL.step (v := (Value.bool false)) rfl (Step.move rfl) ?_
    refine WL.pass rfl ?_
    refine WL.pass rfl ?_
    refine WL.pass rfl ?_
    refine WL.pass rfl ?_
    refine WL.step (v := (Value.bool false)) rfl (Step.pick (t := false) rfl rfl) ?_
    refine WL.step (v := (Value.bool false)) rfl (Step.assign rfl) ?_
    refine WL.nil ?_
    refine W.ret ?_
    refine ⟨.inl rfl, (Value.bool false), ?_, ?_⟩
    · exact ⟨rfl, (Res.r1 (show RV _ _ _ (.tmp 2) (Value.bool false) from by exact rfl))⟩
    refine ⟨?_, M.close [] rfl (by decide) trivial⟩
    refine congrArg Value.bool ?_
    first | rfl | (simp [rightV, aggZ, h3p]; done) | (simp [rightV, aggZ, h3p]; omega) | (rw [Bool.eq_iff_iff]; simp [rightV, aggZ, h3p]; done) | (rw [Bool.eq_iff_iff]; simp [rightV, aggZ, h3p]; omega) | grind [rightV, aggZ]
end Go.Proofs
