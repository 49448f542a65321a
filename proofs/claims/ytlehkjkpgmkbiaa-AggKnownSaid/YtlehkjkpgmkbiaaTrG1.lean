/- Walks. -/
import Derived.Test.YtlehkjkpgmkbiaaTrAggP
import Derived.Test.YtlehkjkpgmkbiaaTrDel
import Derived.Test.YtlehkjkpgmkbiaaChecked
set_option maxRecDepth 100000
set_option linter.all false
namespace Go.Proofs
open Go Tp
theorem Try.un121 : Und Try.prog 121 (.slice 2) := by unfold Und; kernel_rfl
theorem Try.ag32 : Aggr Try.prog 32 4 := ⟨fun _ => by kernel_rfl, fun _ => by kernel_rfl⟩
theorem Try.ag45 : Aggr Try.prog 45 4 := ⟨fun _ => by kernel_rfl, fun _ => by kernel_rfl⟩
theorem Try.el2 : Elem Try.prog 2 (Value.int .i64 0) 1 8 := Elem.mk (by kernel_rfl)
theorem Try.el3 : Elem Try.prog 3 (Value.int .i64 0) 1 8 := Elem.mk (by kernel_rfl)
theorem Try.el32 : Elem Try.prog 32 (Value.agg #[(Value.int .i64 0), (Value.int .i64 0), (Value.int .i64 0), (Value.int .i64 0)]) 4 32 := Elem.mk (by kernel_rfl)
theorem Try.en76 : Enters Try.prog 76 := fun _ _ => by kernel_rfl
theorem Try.en85 : Enters Try.prog 85 := fun _ _ => by kernel_rfl
theorem Try.en116 : Enters Try.prog 116 := fun _ _ => by kernel_rfl
theorem Try.en117 : Enters Try.prog 117 := fun _ _ => by kernel_rfl
theorem Try.en118 : Enters Try.prog 118 := fun _ _ => by kernel_rfl
theorem Try.en134 : Enters Try.prog 134 := fun _ _ => by kernel_rfl
theorem Try.fl32 : (Try.prog.fieldsOf 32).toList = [⟨ "Count", 2, 0, false, "", "", 0⟩, ⟨ "Sum", 2, 1, false, "", "", 8⟩, ⟨ "Min", 2, 2, false, "", "", 16⟩, ⟨ "Max", 2, 3, false, "", "", 24⟩] := by kernel_rfl
theorem Try.eg32 : Try.prog.eqGuardType Try.prog.depth 32 = false := by kernel_rfl
theorem Try.eq32 (d : Nat) (a0 : Int) (a1 : Int) (a2 : Int) (a3 : Int) (b0 : Int) (b1 : Int) (b2 : Int) (b3 : Int) : ∀ w, (Op.equalIn (d + 2) 32 (Value.agg #[(Value.int .i64 a0), (Value.int .i64 a1), (Value.int .i64 a2), (Value.int .i64 a3)]) (Value.agg #[(Value.int .i64 b0), (Value.int .i64 b1), (Value.int .i64 b2), (Value.int .i64 b3)])).run Try.prog w = .ok (((a0 : Int) == (b0 : Int)) && (((a1 : Int) == (b1 : Int)) && (((a2 : Int) == (b2 : Int)) && (((a3 : Int) == (b3 : Int)) && true)))) w :=
  (eq_struct (by kernel_rfl) (by kernel_rfl) (Try.fl32) (eqF_cons (x := (Value.int .i64 a0)) (y := (Value.int .i64 b0)) (by decide) (fun _ => by kernel_rfl) (fun _ => by kernel_rfl) (fun w => run_equalIn_int w _ _ _ .i64 _ _ (by kernel_rfl)) (eqF_cons (x := (Value.int .i64 a1)) (y := (Value.int .i64 b1)) (by decide) (fun _ => by kernel_rfl) (fun _ => by kernel_rfl) (fun w => run_equalIn_int w _ _ _ .i64 _ _ (by kernel_rfl)) (eqF_cons (x := (Value.int .i64 a2)) (y := (Value.int .i64 b2)) (by decide) (fun _ => by kernel_rfl) (fun _ => by kernel_rfl) (fun w => run_equalIn_int w _ _ _ .i64 _ _ (by kernel_rfl)) (eqF_cons (x := (Value.int .i64 a3)) (y := (Value.int .i64 b3)) (by decide) (fun _ => by kernel_rfl) (fun _ => by kernel_rfl) (fun w => run_equalIn_int w _ _ _ .i64 _ _ (by kernel_rfl)) eqF_nil)))))
theorem Try.fl45 : (Try.prog.fieldsOf 45).toList = [⟨ "Count", 2, 0, false, "", "", 0⟩, ⟨ "Sum", 2, 1, false, "", "", 8⟩, ⟨ "Min", 2, 2, false, "", "", 16⟩, ⟨ "Max", 2, 3, false, "", "", 24⟩] := by kernel_rfl
theorem Try.eg45 : Try.prog.eqGuardType Try.prog.depth 45 = false := by kernel_rfl
theorem Try.eq45 (d : Nat) (a0 : Int) (a1 : Int) (a2 : Int) (a3 : Int) (b0 : Int) (b1 : Int) (b2 : Int) (b3 : Int) : ∀ w, (Op.equalIn (d + 2) 45 (Value.agg #[(Value.int .i64 a0), (Value.int .i64 a1), (Value.int .i64 a2), (Value.int .i64 a3)]) (Value.agg #[(Value.int .i64 b0), (Value.int .i64 b1), (Value.int .i64 b2), (Value.int .i64 b3)])).run Try.prog w = .ok (((a0 : Int) == (b0 : Int)) && (((a1 : Int) == (b1 : Int)) && (((a2 : Int) == (b2 : Int)) && (((a3 : Int) == (b3 : Int)) && true)))) w :=
  (eq_struct (by kernel_rfl) (by kernel_rfl) (Try.fl45) (eqF_cons (x := (Value.int .i64 a0)) (y := (Value.int .i64 b0)) (by decide) (fun _ => by kernel_rfl) (fun _ => by kernel_rfl) (fun w => run_equalIn_int w _ _ _ .i64 _ _ (by kernel_rfl)) (eqF_cons (x := (Value.int .i64 a1)) (y := (Value.int .i64 b1)) (by decide) (fun _ => by kernel_rfl) (fun _ => by kernel_rfl) (fun w => run_equalIn_int w _ _ _ .i64 _ _ (by kernel_rfl)) (eqF_cons (x := (Value.int .i64 a2)) (y := (Value.int .i64 b2)) (by decide) (fun _ => by kernel_rfl) (fun _ => by kernel_rfl) (fun w => run_equalIn_int w _ _ _ .i64 _ _ (by kernel_rfl)) (eqF_cons (x := (Value.int .i64 a3)) (y := (Value.int .i64 b3)) (by decide) (fun _ => by kernel_rfl) (fun _ => by kernel_rfl) (fun w => run_equalIn_int w _ _ _ .i64 _ _ (by kernel_rfl)) eqF_nil)))))
theorem Try.sc2 : Scal Try.prog 2 := fun _ => by kernel_rfl
theorem Try.sc3 : Scal Try.prog 3 := fun _ => by kernel_rfl
theorem Try.mixed : Try.prog.follows .mixedOrders = true := by kernel_rfl

theorem agg_one {G : Nat → Prop} {w : World} (v : Int)   (M : Mem G (fun _ => False) w [] [] w) : Rets Try.prog 76 #[(Value.int .i64 v)] w fun r w' => r = (Value.agg #[(Value.int .i64 1), (Value.int .i64 v), (Value.int .i64 v), (Value.int .i64 v)]) ∧ Mem G (fun _ => False) w [] [] w' := by
  refine Rets.enter 7 _ Try.func76 rfl Try.ntmps76 Try.results76 (by simp) ?_
  refine W.seq' ?_
  refine W.region rfl ?_
  refine WL.alloc (c := #[(Value.int .i64 0), (Value.int .i64 0), (Value.int .i64 0), (Value.int .i64 0)]) M rfl Try.el32.zero rfl (fun b1 w2 hb1 M => ?_)
  refine WL.nil ?_
  refine W.seq' ?_
  refine W.region rfl ?_
  refine WL.step (v := (Value.int .i64 v)) rfl (Step.move rfl) ?_
  refine WL.step (v := (Value.int .i64 v)) rfl (Step.move rfl) ?_
  refine WL.step (v := (Value.int .i64 v)) rfl (Step.move rfl) ?_
  refine WL.step (v := (Value.agg #[(Value.int .i64 1), (Value.int .i64 v), (Value.int .i64 v), (Value.int .i64 v)])) rfl (Step.pure (by kernel_rfl)) ?_
  refine WL.store (v := (Value.agg #[(Value.int .i64 1), (Value.int .i64 v), (Value.int .i64 v), (Value.int .i64 v)])) (cs := [(Value.int .i64 1), (Value.int .i64 v), (Value.int .i64 v), (Value.int .i64 v)]) (c' := #[(Value.int .i64 1), (Value.int .i64 v), (Value.int .i64 v), (Value.int .i64 v)]) M 0 rfl rfl Try.el32.sized rfl rfl rfl rfl (Nat.le_of_ble_eq_true rfl) (cel_cons rfl (cel_cons rfl (cel_cons rfl (cel_cons rfl cel_nil)))) rfl rfl (fun w3 M => ?_)
  refine WL.nil ?_
  refine W.ret ?_
  refine ⟨.inl rfl, (Value.agg #[(Value.int .i64 1), (Value.int .i64 v), (Value.int .i64 v), (Value.int .i64 v)]), ?_, ?_⟩
  · exact ⟨rfl, (Res.r1 (RV.cellN Try.ag32 rfl (M.blk 0 rfl) rfl))⟩
  refine ⟨?_, M.close [] rfl (by decide) trivial⟩
  rfl

theorem agg_blank {G : Nat → Prop} {w : World} (a : Agg5)   (M : Mem G (fun _ => False) w [] [] w) : Rets Try.prog 85 #[(Value.agg #[(Value.int .i64 a.count), (Value.int .i64 a.sum), (Value.int .i64 a.min), (Value.int .i64 a.max)])] w fun r w' => r = (Value.bool (decide (a = aggZ))) ∧ Mem G (fun _ => False) w [] [] w' := by
  refine Rets.enter 6 _ Try.func85 rfl Try.ntmps85 Try.results85 (by simp) ?_
  refine W.seq' ?_
  refine W.region rfl ?_
  refine WL.box (v := (Value.agg #[(Value.int .i64 a.count), (Value.int .i64 a.sum), (Value.int .i64 a.min), (Value.int .i64 a.max)])) (c := #[(Value.int .i64 a.count), (Value.int .i64 a.sum), (Value.int .i64 a.min), (Value.int .i64 a.max)]) M rfl rfl rfl (fun b1 w2 hb1 M => ?_)
  refine WL.step (v := (Value.bool false)) rfl (Step.assign rfl) ?_
  refine WL.nil ?_
  refine W.seq' ?_
  refine W.region rfl ?_
  refine WL.step (v := (Value.agg #[(Value.int .i64 a.count), (Value.int .i64 a.sum), (Value.int .i64 a.min), (Value.int .i64 a.max)])) rfl (Step.loadN Try.ag32 rfl (M.blk 0 rfl) (Nat.le_of_ble_eq_true rfl) rfl) ?_
  refine WL.step (v := (Value.agg #[(Value.int .i64 0), (Value.int .i64 0), (Value.int .i64 0), (Value.int .i64 0)])) rfl (Step.pure (by kernel_rfl)) ?_
  refine WL.step (v := (Value.bool (decide (a = (⟨0, 0, 0, 0⟩ : Agg5))))) rfl (Step.cast (congrArg Value.bool (agg_eqB a (⟨0, 0, 0, 0⟩ : Agg5))) (Step.eqAgg Try.eg32 rfl rfl rfl (Try.eq32 9998 (a.count : Int) (a.sum : Int) (a.min : Int) (a.max : Int) (0 : Int) (0 : Int) (0 : Int) (0 : Int)))) ?_
  refine WL.step (v := (Value.bool (decide (a = (⟨0, 0, 0, 0⟩ : Agg5))))) rfl (Step.assign rfl) ?_
  refine WL.nil ?_
  refine W.ret ?_
  refine ⟨.inl rfl, (Value.bool (decide (a = (⟨0, 0, 0, 0⟩ : Agg5)))), ?_, ?_⟩
  · exact ⟨rfl, (Res.r1 (show RV _ _ _ (.tmp 2) (Value.bool (decide (a = (⟨0, 0, 0, 0⟩ : Agg5)))) from by exact rfl))⟩
  refine ⟨?_, M.close [] rfl (by decide) trivial⟩
  rfl

theorem agg_right {G : Nat → Prop} {w : World} (a : Agg5)   (M : Mem G (fun _ => False) w [] [] w) : Rets Try.prog 71 #[(Value.agg #[(Value.int .i64 a.count), (Value.int .i64 a.sum), (Value.int .i64 a.min), (Value.int .i64 a.max)])] w fun r w' => r = (Value.bool (aggRight a)) ∧ Mem G (fun _ => False) w [] [] w' := by
  refine Rets.enter 29 _ Try.func71 rfl Try.ntmps71 Try.results71 (by simp) ?_
  refine W.seq' ?_
  refine W.region rfl ?_
  refine WL.box (v := (Value.agg #[(Value.int .i64 a.count), (Value.int .i64 a.sum), (Value.int .i64 a.min), (Value.int .i64 a.max)])) (c := #[(Value.int .i64 a.count), (Value.int .i64 a.sum), (Value.int .i64 a.min), (Value.int .i64 a.max)]) M rfl rfl rfl (fun b1 w2 hb1 M => ?_)
  refine WL.step (v := (Value.bool false)) rfl (Step.assign rfl) ?_
  refine WL.nil ?_
  refine W.seq' ?_
  rcases Bool.eq_false_or_eq_true (decide (a = aggZ)) with h3 | h3
  ·
    have h3p := of_decide_eq_true h3
    refine W.drawn M [0, 1, 2, 3, 4, 5, 6, 7, 8, 9, 10, 11, 12, 13, 14, 15, 16, 17, 18, 19, 20, 21, 22, 23, 24, 25, 26] [1, 21] [] [blk b1 (.cells #[(Value.int .i64 a.count), (Value.int .i64 a.sum), (Value.int .i64 a.min), (Value.int .i64 a.max)] 32)] [] (List.Sublist.cons_cons _ List.Sublist.slnil) (fun _ h => h) Try.mixed (by kernel_rfl) ?_
    refine TW.read (v := (Value.agg #[(Value.int .i64 a.count), (Value.int .i64 a.sum), (Value.int .i64 a.min), (Value.int .i64 a.max)])) rfl (by decide) (by decide) rfl (fun A w M => (Step.loadN Try.ag32 rfl (M.blk 1 rfl) (Nat.le_of_ble_eq_true rfl) rfl)) ?_
    refine TW.callX (ι := Unit) (fun jx v_ => v_ = (Value.bool (decide (a = aggZ)))) (fun jx => [blk b1 (.cells #[(Value.int .i64 a.count), (Value.int .i64 a.sum), (Value.int .i64 a.min), (Value.int .i64 a.max)] 32)]) (fun jx => []) rfl (by decide) rfl (fun jx => (List.Sublist.cons_cons _ List.Sublist.slnil)) (fun jx r h => h) (fun A w M => Rets.mono (agg_blank a (M.enterW0 trivial)) (fun v_ w_ ⟨e_, m⟩ => ⟨(), e_, (M.leaveW0 m).sel (L' := [fl A, blk b1 (.cells #[(Value.int .i64 a.count), (Value.int .i64 a.sum), (Value.int .i64 a.min), (Value.int .i64 a.max)] 32)]) [0, 1] rfl (by decide), fun b hb => M.keptW0 m (fl A) (List.mem_cons_self ..) b hb⟩)) (fun w => CallsF.func Try.en85 rfl) (fun jx v hp hin => ?_)
    replace hp := hp.symm; subst hp
    clear hin
    change TW _ _ _ _ _ _ _ _ (MemA _ _ _ [blk b1 (.cells #[(Value.int .i64 a.count), (Value.int .i64 a.sum), (Value.int .i64 a.min), (Value.int .i64 a.max)] 32)] [])
    rw [h3]
    refine TW.pure (v := (Value.bool true)) rfl (by decide) (by decide) rfl (fun w => (Step.move rfl)) ?_
    refine TW.skip rfl rfl ?_
    refine TW.skip rfl rfl ?_
    refine TW.skip rfl rfl ?_
    refine TW.skip rfl rfl ?_
    refine TW.skip rfl rfl ?_
    refine TW.skip rfl rfl ?_
    refine TW.skip rfl rfl ?_
    refine TW.skip rfl rfl ?_
    refine TW.skip rfl rfl ?_
    refine TW.skip rfl rfl ?_
    refine TW.skip rfl rfl ?_
    refine TW.skip rfl rfl ?_
    refine TW.skip rfl rfl ?_
    refine TW.skip rfl rfl ?_
    refine TW.skip rfl rfl ?_
    refine TW.skip rfl rfl ?_
    refine TW.skip rfl rfl ?_
    refine TW.skip rfl rfl ?_
    refine TW.skip rfl rfl ?_
    refine TW.skip rfl rfl ?_
    refine TW.skip rfl rfl ?_
    refine TW.skip rfl rfl ?_
    refine TW.pure (v := (Value.bool true)) rfl (by decide) (by decide) rfl (fun w => (Step.pick (t := true) rfl rfl)) ?_
    refine TW.pure (v := (Value.bool true)) rfl (by decide) (by decide) rfl (fun w => (Step.assign rfl)) ?_
    refine TW.done (fun w4 M => ?_)
    refine W.ret ?_
    refine ⟨.inl rfl, (Value.bool true), ?_, ?_⟩
    · exact ⟨rfl, (Res.r1 (show RV _ _ _ (.tmp 2) (Value.bool true) from by exact rfl))⟩
    refine ⟨?_, M.close [] rfl (by decide) trivial⟩
    refine congrArg Value.bool ?_
    first | rfl | (simp [aggRight, aggZ, h3p]; done) | (simp [aggRight, aggZ, h3p]; omega) | (rw [Bool.eq_iff_iff]; simp [aggRight, aggZ, h3p]; done) | (rw [Bool.eq_iff_iff]; simp [aggRight, aggZ, h3p]; omega) | grind [aggRight, aggZ]
  ·
    have h3p := of_decide_eq_false h3
    rcases Bool.eq_false_or_eq_true (decide ((a.count : Int) > (0 : Int))) with h5 | h5
    ·
      have h5p := of_decide_eq_true h5
      rcases Bool.eq_false_or_eq_true (decide ((a.min : Int) ≤ (a.max : Int))) with h6 | h6
      ·
        have h6p := of_decide_eq_true h6
        rcases Bool.eq_false_or_eq_true (decide ((a.count : Int) > (1 : Int))) with h7 | h7
        ·
          have h7p := of_decide_eq_true h7
          refine W.drawn M [0, 1, 2, 3, 4, 5, 6, 7, 8, 9, 10, 11, 12, 13, 14, 15, 16, 17, 18, 19, 20, 21, 22, 23, 24, 25, 26] [1, 21] [] [blk b1 (.cells #[(Value.int .i64 a.count), (Value.int .i64 a.sum), (Value.int .i64 a.min), (Value.int .i64 a.max)] 32)] [] (List.Sublist.cons_cons _ List.Sublist.slnil) (fun _ h => h) Try.mixed (by kernel_rfl) ?_
          refine TW.read (v := (Value.agg #[(Value.int .i64 a.count), (Value.int .i64 a.sum), (Value.int .i64 a.min), (Value.int .i64 a.max)])) rfl (by decide) (by decide) rfl (fun A w M => (Step.loadN Try.ag32 rfl (M.blk 1 rfl) (Nat.le_of_ble_eq_true rfl) rfl)) ?_
          refine TW.callX (ι := Unit) (fun jx v_ => v_ = (Value.bool (decide (a = aggZ)))) (fun jx => [blk b1 (.cells #[(Value.int .i64 a.count), (Value.int .i64 a.sum), (Value.int .i64 a.min), (Value.int .i64 a.max)] 32)]) (fun jx => []) rfl (by decide) rfl (fun jx => (List.Sublist.cons_cons _ List.Sublist.slnil)) (fun jx r h => h) (fun A w M => Rets.mono (agg_blank a (M.enterW0 trivial)) (fun v_ w_ ⟨e_, m⟩ => ⟨(), e_, (M.leaveW0 m).sel (L' := [fl A, blk b1 (.cells #[(Value.int .i64 a.count), (Value.int .i64 a.sum), (Value.int .i64 a.min), (Value.int .i64 a.max)] 32)]) [0, 1] rfl (by decide), fun b hb => M.keptW0 m (fl A) (List.mem_cons_self ..) b hb⟩)) (fun w => CallsF.func Try.en85 rfl) (fun jx v hp hin => ?_)
          replace hp := hp.symm; subst hp
          clear hin
          change TW _ _ _ _ _ _ _ _ (MemA _ _ _ [blk b1 (.cells #[(Value.int .i64 a.count), (Value.int .i64 a.sum), (Value.int .i64 a.min), (Value.int .i64 a.max)] 32)] [])
          rw [h3]
          refine TW.pure (v := (Value.bool false)) rfl (by decide) (by decide) rfl (fun w => (Step.move rfl)) ?_
          refine TW.pure (v := (Value.pointer (some ⟨b1, 0, none⟩))) rfl (by decide) (by decide) rfl (fun w => (Step.pure (by kernel_rfl))) ?_
          refine TW.read (v := (Value.int .i64 a.count)) rfl (by decide) (by decide) rfl (fun A w M => (Step.load1 Try.sc2 rfl ((M.cell 1 rfl 0).trans rfl))) ?_
          refine TW.pure (v := (Value.bool true)) rfl (by decide) (by decide) rfl (fun w => (Step.cast (congrArg Value.bool h5) (Step.pure (by kernel_rfl)))) ?_
          refine TW.pure (v := (Value.bool true)) rfl (by decide) (by decide) rfl (fun w => (Step.move rfl)) ?_
          refine TW.pure (v := (Value.pointer (some ⟨b1, 2, none⟩))) rfl (by decide) (by decide) rfl (fun w => (Step.pure (by kernel_rfl))) ?_
          refine TW.read (v := (Value.int .i64 a.min)) rfl (by decide) (by decide) rfl (fun A w M => (Step.load1 Try.sc2 rfl ((M.cell 1 rfl 2).trans rfl))) ?_
          refine TW.pure (v := (Value.pointer (some ⟨b1, 3, none⟩))) rfl (by decide) (by decide) rfl (fun w => (Step.pure (by kernel_rfl))) ?_
          refine TW.read (v := (Value.int .i64 a.max)) rfl (by decide) (by decide) rfl (fun A w M => (Step.load1 Try.sc2 rfl ((M.cell 1 rfl 3).trans rfl))) ?_
          refine TW.pure (v := (Value.bool true)) rfl (by decide) (by decide) rfl (fun w => (Step.cast (congrArg Value.bool h6) (Step.pure (by kernel_rfl)))) ?_
          refine TW.pure (v := (Value.bool true)) rfl (by decide) (by decide) rfl (fun w => (Step.pick (t := true) rfl rfl)) ?_
          refine TW.pure (v := (Value.bool true)) rfl (by decide) (by decide) rfl (fun w => (Step.move rfl)) ?_
          refine TW.pure (v := (Value.pointer (some ⟨b1, 0, none⟩))) rfl (by decide) (by decide) rfl (fun w => (Step.pure (by kernel_rfl))) ?_
          refine TW.read (v := (Value.int .i64 a.count)) rfl (by decide) (by decide) rfl (fun A w M => (Step.load1 Try.sc2 rfl ((M.cell 1 rfl 0).trans rfl))) ?_
          refine TW.pure (v := (Value.bool true)) rfl (by decide) (by decide) rfl (fun w => (Step.cast (congrArg Value.bool h7) (Step.pure (by kernel_rfl)))) ?_
          refine TW.pure (v := (Value.bool true)) rfl (by decide) (by decide) rfl (fun w => (Step.move rfl)) ?_
          refine TW.skip rfl rfl ?_
          refine TW.skip rfl rfl ?_
          refine TW.skip rfl rfl ?_
          refine TW.skip rfl rfl ?_
          refine TW.skip rfl rfl ?_
          refine TW.pure (v := (Value.bool true)) rfl (by decide) (by decide) rfl (fun w => (Step.pick (t := true) rfl rfl)) ?_
          refine TW.pure (v := (Value.bool true)) rfl (by decide) (by decide) rfl (fun w => (Step.pick (t := true) rfl rfl)) ?_
          refine TW.pure (v := (Value.bool true)) rfl (by decide) (by decide) rfl (fun w => (Step.pick (t := false) rfl rfl)) ?_
          refine TW.pure (v := (Value.bool true)) rfl (by decide) (by decide) rfl (fun w => (Step.assign rfl)) ?_
          refine TW.done (fun w8 M => ?_)
          refine W.ret ?_
          refine ⟨.inl rfl, (Value.bool true), ?_, ?_⟩
          · exact ⟨rfl, (Res.r1 (show RV _ _ _ (.tmp 2) (Value.bool true) from by exact rfl))⟩
          refine ⟨?_, M.close [] rfl (by decide) trivial⟩
          refine congrArg Value.bool ?_
          first | rfl | (simp [aggRight, aggZ, h3p, h5p, h6p, h7p]; done) | (simp [aggRight, aggZ, h3p, h5p, h6p, h7p]; omega) | (rw [Bool.eq_iff_iff]; simp [aggRight, aggZ, h3p, h5p, h6p, h7p]; done) | (rw [Bool.eq_iff_iff]; simp [aggRight, aggZ, h3p, h5p, h6p, h7p]; omega) | grind [aggRight, aggZ]
        ·
          have h7p := of_decide_eq_false h7
          refine W.drawn M [0, 1, 2, 3, 4, 5, 6, 7, 8, 9, 10, 11, 12, 13, 14, 15, 16, 17, 18, 19, 20, 21, 22, 23, 24, 25, 26] [1, 21] [] [blk b1 (.cells #[(Value.int .i64 a.count), (Value.int .i64 a.sum), (Value.int .i64 a.min), (Value.int .i64 a.max)] 32)] [] (List.Sublist.cons_cons _ List.Sublist.slnil) (fun _ h => h) Try.mixed (by kernel_rfl) ?_
          refine TW.read (v := (Value.agg #[(Value.int .i64 a.count), (Value.int .i64 a.sum), (Value.int .i64 a.min), (Value.int .i64 a.max)])) rfl (by decide) (by decide) rfl (fun A w M => (Step.loadN Try.ag32 rfl (M.blk 1 rfl) (Nat.le_of_ble_eq_true rfl) rfl)) ?_
          refine TW.callX (ι := Unit) (fun jx v_ => v_ = (Value.bool (decide (a = aggZ)))) (fun jx => [blk b1 (.cells #[(Value.int .i64 a.count), (Value.int .i64 a.sum), (Value.int .i64 a.min), (Value.int .i64 a.max)] 32)]) (fun jx => []) rfl (by decide) rfl (fun jx => (List.Sublist.cons_cons _ List.Sublist.slnil)) (fun jx r h => h) (fun A w M => Rets.mono (agg_blank a (M.enterW0 trivial)) (fun v_ w_ ⟨e_, m⟩ => ⟨(), e_, (M.leaveW0 m).sel (L' := [fl A, blk b1 (.cells #[(Value.int .i64 a.count), (Value.int .i64 a.sum), (Value.int .i64 a.min), (Value.int .i64 a.max)] 32)]) [0, 1] rfl (by decide), fun b hb => M.keptW0 m (fl A) (List.mem_cons_self ..) b hb⟩)) (fun w => CallsF.func Try.en85 rfl) (fun jx v hp hin => ?_)
          replace hp := hp.symm; subst hp
          clear hin
          change TW _ _ _ _ _ _ _ _ (MemA _ _ _ [blk b1 (.cells #[(Value.int .i64 a.count), (Value.int .i64 a.sum), (Value.int .i64 a.min), (Value.int .i64 a.max)] 32)] [])
          rw [h3]
          refine TW.pure (v := (Value.bool false)) rfl (by decide) (by decide) rfl (fun w => (Step.move rfl)) ?_
          refine TW.pure (v := (Value.pointer (some ⟨b1, 0, none⟩))) rfl (by decide) (by decide) rfl (fun w => (Step.pure (by kernel_rfl))) ?_
          refine TW.read (v := (Value.int .i64 a.count)) rfl (by decide) (by decide) rfl (fun A w M => (Step.load1 Try.sc2 rfl ((M.cell 1 rfl 0).trans rfl))) ?_
          refine TW.pure (v := (Value.bool true)) rfl (by decide) (by decide) rfl (fun w => (Step.cast (congrArg Value.bool h5) (Step.pure (by kernel_rfl)))) ?_
          refine TW.pure (v := (Value.bool true)) rfl (by decide) (by decide) rfl (fun w => (Step.move rfl)) ?_
          refine TW.pure (v := (Value.pointer (some ⟨b1, 2, none⟩))) rfl (by decide) (by decide) rfl (fun w => (Step.pure (by kernel_rfl))) ?_
          refine TW.read (v := (Value.int .i64 a.min)) rfl (by decide) (by decide) rfl (fun A w M => (Step.load1 Try.sc2 rfl ((M.cell 1 rfl 2).trans rfl))) ?_
          refine TW.pure (v := (Value.pointer (some ⟨b1, 3, none⟩))) rfl (by decide) (by decide) rfl (fun w => (Step.pure (by kernel_rfl))) ?_
          refine TW.read (v := (Value.int .i64 a.max)) rfl (by decide) (by decide) rfl (fun A w M => (Step.load1 Try.sc2 rfl ((M.cell 1 rfl 3).trans rfl))) ?_
          refine TW.pure (v := (Value.bool true)) rfl (by decide) (by decide) rfl (fun w => (Step.cast (congrArg Value.bool h6) (Step.pure (by kernel_rfl)))) ?_
          refine TW.pure (v := (Value.bool true)) rfl (by decide) (by decide) rfl (fun w => (Step.pick (t := true) rfl rfl)) ?_
          refine TW.pure (v := (Value.bool true)) rfl (by decide) (by decide) rfl (fun w => (Step.move rfl)) ?_
          refine TW.pure (v := (Value.pointer (some ⟨b1, 0, none⟩))) rfl (by decide) (by decide) rfl (fun w => (Step.pure (by kernel_rfl))) ?_
          refine TW.read (v := (Value.int .i64 a.count)) rfl (by decide) (by decide) rfl (fun A w M => (Step.load1 Try.sc2 rfl ((M.cell 1 rfl 0).trans rfl))) ?_
          refine TW.pure (v := (Value.bool false)) rfl (by decide) (by decide) rfl (fun w => (Step.cast (congrArg Value.bool h7) (Step.pure (by kernel_rfl)))) ?_
          refine TW.pure (v := (Value.bool false)) rfl (by decide) (by decide) rfl (fun w => (Step.move rfl)) ?_
          refine TW.read (v := (Value.agg #[(Value.int .i64 a.count), (Value.int .i64 a.sum), (Value.int .i64 a.min), (Value.int .i64 a.max)])) rfl (by decide) (by decide) rfl (fun A w M => (Step.loadN Try.ag32 rfl (M.blk 1 rfl) (Nat.le_of_ble_eq_true rfl) rfl)) ?_
          refine TW.pure (v := (Value.pointer (some ⟨b1, 1, none⟩))) rfl (by decide) (by decide) rfl (fun w => (Step.pure (by kernel_rfl))) ?_
          refine TW.read (v := (Value.int .i64 a.sum)) rfl (by decide) (by decide) rfl (fun A w M => (Step.load1 Try.sc2 rfl ((M.cell 1 rfl 1).trans rfl))) ?_
          refine TW.callX (ι := Unit) (fun jx v_ => v_ = (Value.agg #[(Value.int .i64 1), (Value.int .i64 a.sum), (Value.int .i64 a.sum), (Value.int .i64 a.sum)])) (fun jx => [blk b1 (.cells #[(Value.int .i64 a.count), (Value.int .i64 a.sum), (Value.int .i64 a.min), (Value.int .i64 a.max)] 32)]) (fun jx => []) rfl (by decide) rfl (fun jx => (List.Sublist.cons_cons _ List.Sublist.slnil)) (fun jx r h => h) (fun A w M => Rets.mono (agg_one a.sum (M.enterW0 trivial)) (fun v_ w_ ⟨e_, m⟩ => ⟨(), e_, (M.leaveW0 m).sel (L' := [fl A, blk b1 (.cells #[(Value.int .i64 a.count), (Value.int .i64 a.sum), (Value.int .i64 a.min), (Value.int .i64 a.max)] 32)]) [0, 1] rfl (by decide), fun b hb => M.keptW0 m (fl A) (List.mem_cons_self ..) b hb⟩)) (fun w => CallsF.func Try.en76 rfl) (fun jx v hp hin => ?_)
          replace hp := hp.symm; subst hp
          clear hin
          change TW _ _ _ _ _ _ _ _ (MemA _ _ _ [blk b1 (.cells #[(Value.int .i64 a.count), (Value.int .i64 a.sum), (Value.int .i64 a.min), (Value.int .i64 a.max)] 32)] [])
          refine TW.pure (v := (Value.bool (decide (a = (⟨1, a.sum, a.sum, a.sum⟩ : Agg5))))) rfl (by decide) (by decide) rfl (fun w => (Step.cast (congrArg Value.bool (agg_eqB a (⟨1, a.sum, a.sum, a.sum⟩ : Agg5))) (Step.eqAgg Try.eg32 rfl rfl rfl (Try.eq32 9998 (a.count : Int) (a.sum : Int) (a.min : Int) (a.max : Int) (1 : Int) (a.sum : Int) (a.sum : Int) (a.sum : Int))))) ?_
          refine TW.pure (v := (Value.bool (decide (a = (⟨1, a.sum, a.sum, a.sum⟩ : Agg5))))) rfl (by decide) (by decide) rfl (fun w => (Step.pick (t := false) rfl rfl)) ?_
          refine TW.pure (v := (Value.bool (decide (a = (⟨1, a.sum, a.sum, a.sum⟩ : Agg5))))) rfl (by decide) (by decide) rfl (fun w => (Step.pick (t := true) rfl rfl)) ?_
          refine TW.pure (v := (Value.bool (decide (a = (⟨1, a.sum, a.sum, a.sum⟩ : Agg5))))) rfl (by decide) (by decide) rfl (fun w => (Step.pick (t := false) rfl rfl)) ?_
          refine TW.pure (v := (Value.bool (decide (a = (⟨1, a.sum, a.sum, a.sum⟩ : Agg5))))) rfl (by decide) (by decide) rfl (fun w => (Step.assign rfl)) ?_
          refine TW.done (fun w9 M => ?_)
          refine W.ret ?_
          refine ⟨.inl rfl, (Value.bool (decide (a = (⟨1, a.sum, a.sum, a.sum⟩ : Agg5)))), ?_, ?_⟩
          · exact ⟨rfl, (Res.r1 (show RV _ _ _ (.tmp 2) (Value.bool (decide (a = (⟨1, a.sum, a.sum, a.sum⟩ : Agg5)))) from by exact rfl))⟩
          refine ⟨?_, M.close [] rfl (by decide) trivial⟩
          refine congrArg Value.bool ?_
          first | rfl | (simp [aggRight, aggZ, h3p, h5p, h6p, h7p]; done) | (simp [aggRight, aggZ, h3p, h5p, h6p, h7p]; omega) | (rw [Bool.eq_iff_iff]; simp [aggRight, aggZ, h3p, h5p, h6p, h7p]; done) | (rw [Bool.eq_iff_iff]; simp [aggRight, aggZ, h3p, h5p, h6p, h7p]; omega) | grind [aggRight, aggZ]
      ·
        have h6p := of_decide_eq_false h6
        refine W.drawn M [0, 1, 2, 3, 4, 5, 6, 7, 8, 9, 10, 11, 12, 13, 14, 15, 16, 17, 18, 19, 20, 21, 22, 23, 24, 25, 26] [1, 21] [] [blk b1 (.cells #[(Value.int .i64 a.count), (Value.int .i64 a.sum), (Value.int .i64 a.min), (Value.int .i64 a.max)] 32)] [] (List.Sublist.cons_cons _ List.Sublist.slnil) (fun _ h => h) Try.mixed (by kernel_rfl) ?_
        refine TW.read (v := (Value.agg #[(Value.int .i64 a.count), (Value.int .i64 a.sum), (Value.int .i64 a.min), (Value.int .i64 a.max)])) rfl (by decide) (by decide) rfl (fun A w M => (Step.loadN Try.ag32 rfl (M.blk 1 rfl) (Nat.le_of_ble_eq_true rfl) rfl)) ?_
        refine TW.callX (ι := Unit) (fun jx v_ => v_ = (Value.bool (decide (a = aggZ)))) (fun jx => [blk b1 (.cells #[(Value.int .i64 a.count), (Value.int .i64 a.sum), (Value.int .i64 a.min), (Value.int .i64 a.max)] 32)]) (fun jx => []) rfl (by decide) rfl (fun jx => (List.Sublist.cons_cons _ List.Sublist.slnil)) (fun jx r h => h) (fun A w M => Rets.mono (agg_blank a (M.enterW0 trivial)) (fun v_ w_ ⟨e_, m⟩ => ⟨(), e_, (M.leaveW0 m).sel (L' := [fl A, blk b1 (.cells #[(Value.int .i64 a.count), (Value.int .i64 a.sum), (Value.int .i64 a.min), (Value.int .i64 a.max)] 32)]) [0, 1] rfl (by decide), fun b hb => M.keptW0 m (fl A) (List.mem_cons_self ..) b hb⟩)) (fun w => CallsF.func Try.en85 rfl) (fun jx v hp hin => ?_)
        replace hp := hp.symm; subst hp
        clear hin
        change TW _ _ _ _ _ _ _ _ (MemA _ _ _ [blk b1 (.cells #[(Value.int .i64 a.count), (Value.int .i64 a.sum), (Value.int .i64 a.min), (Value.int .i64 a.max)] 32)] [])
        rw [h3]
        refine TW.pure (v := (Value.bool false)) rfl (by decide) (by decide) rfl (fun w => (Step.move rfl)) ?_
        refine TW.pure (v := (Value.pointer (some ⟨b1, 0, none⟩))) rfl (by decide) (by decide) rfl (fun w => (Step.pure (by kernel_rfl))) ?_
        refine TW.read (v := (Value.int .i64 a.count)) rfl (by decide) (by decide) rfl (fun A w M => (Step.load1 Try.sc2 rfl ((M.cell 1 rfl 0).trans rfl))) ?_
        refine TW.pure (v := (Value.bool true)) rfl (by decide) (by decide) rfl (fun w => (Step.cast (congrArg Value.bool h5) (Step.pure (by kernel_rfl)))) ?_
        refine TW.pure (v := (Value.bool true)) rfl (by decide) (by decide) rfl (fun w => (Step.move rfl)) ?_
        refine TW.pure (v := (Value.pointer (some ⟨b1, 2, none⟩))) rfl (by decide) (by decide) rfl (fun w => (Step.pure (by kernel_rfl))) ?_
        refine TW.read (v := (Value.int .i64 a.min)) rfl (by decide) (by decide) rfl (fun A w M => (Step.load1 Try.sc2 rfl ((M.cell 1 rfl 2).trans rfl))) ?_
        refine TW.pure (v := (Value.pointer (some ⟨b1, 3, none⟩))) rfl (by decide) (by decide) rfl (fun w => (Step.pure (by kernel_rfl))) ?_
        refine TW.read (v := (Value.int .i64 a.max)) rfl (by decide) (by decide) rfl (fun A w M => (Step.load1 Try.sc2 rfl ((M.cell 1 rfl 3).trans rfl))) ?_
        refine TW.pure (v := (Value.bool false)) rfl (by decide) (by decide) rfl (fun w => (Step.cast (congrArg Value.bool h6) (Step.pure (by kernel_rfl)))) ?_
        refine TW.pure (v := (Value.bool false)) rfl (by decide) (by decide) rfl (fun w => (Step.pick (t := true) rfl rfl)) ?_
        refine TW.pure (v := (Value.bool false)) rfl (by decide) (by decide) rfl (fun w => (Step.move rfl)) ?_
        refine TW.skip rfl rfl ?_
        refine TW.skip rfl rfl ?_
        refine TW.skip rfl rfl ?_
        refine TW.skip rfl rfl ?_
        refine TW.skip rfl rfl ?_
        refine TW.skip rfl rfl ?_
        refine TW.skip rfl rfl ?_
        refine TW.skip rfl rfl ?_
        refine TW.skip rfl rfl ?_
        refine TW.skip rfl rfl ?_
        refine TW.pure (v := (Value.bool false)) rfl (by decide) (by decide) rfl (fun w => (Step.pick (t := false) rfl rfl)) ?_
        refine TW.pure (v := (Value.bool false)) rfl (by decide) (by decide) rfl (fun w => (Step.pick (t := false) rfl rfl)) ?_
        refine TW.pure (v := (Value.bool false)) rfl (by decide) (by decide) rfl (fun w => (Step.assign rfl)) ?_
        refine TW.done (fun w10 M => ?_)
        refine W.ret ?_
        refine ⟨.inl rfl, (Value.bool false), ?_, ?_⟩
        · exact ⟨rfl, (Res.r1 (show RV _ _ _ (.tmp 2) (Value.bool false) from by exact rfl))⟩
        refine ⟨?_, M.close [] rfl (by decide) trivial⟩
        refine congrArg Value.bool ?_
        first | rfl | (simp [aggRight, aggZ, h3p, h5p, h6p]; done) | (simp [aggRight, aggZ, h3p, h5p, h6p]; omega) | (rw [Bool.eq_iff_iff]; simp [aggRight, aggZ, h3p, h5p, h6p]; done) | (rw [Bool.eq_iff_iff]; simp [aggRight, aggZ, h3p, h5p, h6p]; omega) | grind [aggRight, aggZ]
    ·
      have h5p := of_decide_eq_false h5
      refine W.drawn M [0, 1, 2, 3, 4, 5, 6, 7, 8, 9, 10, 11, 12, 13, 14, 15, 16, 17, 18, 19, 20, 21, 22, 23, 24, 25, 26] [1, 21] [] [blk b1 (.cells #[(Value.int .i64 a.count), (Value.int .i64 a.sum), (Value.int .i64 a.min), (Value.int .i64 a.max)] 32)] [] (List.Sublist.cons_cons _ List.Sublist.slnil) (fun _ h => h) Try.mixed (by kernel_rfl) ?_
      refine TW.read (v := (Value.agg #[(Value.int .i64 a.count), (Value.int .i64 a.sum), (Value.int .i64 a.min), (Value.int .i64 a.max)])) rfl (by decide) (by decide) rfl (fun A w M => (Step.loadN Try.ag32 rfl (M.blk 1 rfl) (Nat.le_of_ble_eq_true rfl) rfl)) ?_
      refine TW.callX (ι := Unit) (fun jx v_ => v_ = (Value.bool (decide (a = aggZ)))) (fun jx => [blk b1 (.cells #[(Value.int .i64 a.count), (Value.int .i64 a.sum), (Value.int .i64 a.min), (Value.int .i64 a.max)] 32)]) (fun jx => []) rfl (by decide) rfl (fun jx => (List.Sublist.cons_cons _ List.Sublist.slnil)) (fun jx r h => h) (fun A w M => Rets.mono (agg_blank a (M.enterW0 trivial)) (fun v_ w_ ⟨e_, m⟩ => ⟨(), e_, (M.leaveW0 m).sel (L' := [fl A, blk b1 (.cells #[(Value.int .i64 a.count), (Value.int .i64 a.sum), (Value.int .i64 a.min), (Value.int .i64 a.max)] 32)]) [0, 1] rfl (by decide), fun b hb => M.keptW0 m (fl A) (List.mem_cons_self ..) b hb⟩)) (fun w => CallsF.func Try.en85 rfl) (fun jx v hp hin => ?_)
      replace hp := hp.symm; subst hp
      clear hin
      change TW _ _ _ _ _ _ _ _ (MemA _ _ _ [blk b1 (.cells #[(Value.int .i64 a.count), (Value.int .i64 a.sum), (Value.int .i64 a.min), (Value.int .i64 a.max)] 32)] [])
      rw [h3]
      refine TW.pure (v := (Value.bool false)) rfl (by decide) (by decide) rfl (fun w => (Step.move rfl)) ?_
      refine TW.pure (v := (Value.pointer (some ⟨b1, 0, none⟩))) rfl (by decide) (by decide) rfl (fun w => (Step.pure (by kernel_rfl))) ?_
      refine TW.read (v := (Value.int .i64 a.count)) rfl (by decide) (by decide) rfl (fun A w M => (Step.load1 Try.sc2 rfl ((M.cell 1 rfl 0).trans rfl))) ?_
      refine TW.pure (v := (Value.bool false)) rfl (by decide) (by decide) rfl (fun w => (Step.cast (congrArg Value.bool h5) (Step.pure (by kernel_rfl)))) ?_
      refine TW.pure (v := (Value.bool false)) rfl (by decide) (by decide) rfl (fun w => (Step.move rfl)) ?_
      refine TW.skip rfl rfl ?_
      refine TW.skip rfl rfl ?_
      refine TW.skip rfl rfl ?_
      refine TW.skip rfl rfl ?_
      refine TW.skip rfl rfl ?_
      refine TW.pure (v := (Value.bool false)) rfl (by decide) (by decide) rfl (fun w => (Step.pick (t := false) rfl rfl)) ?_
      refine TW.pure (v := (Value.bool false)) rfl (by decide) (by decide) rfl (fun w => (Step.move rfl)) ?_
      refine TW.skip rfl rfl ?_
      refine TW.skip rfl rfl ?_
      refine TW.skip rfl rfl ?_
      refine TW.skip rfl rfl ?_
      refine TW.skip rfl rfl ?_
      refine TW.skip rfl rfl ?_
      refine TW.skip rfl rfl ?_
      refine TW.skip rfl rfl ?_
      refine TW.skip rfl rfl ?_
      refine TW.skip rfl rfl ?_
      refine TW.pure (v := (Value.bool false)) rfl (by decide) (by decide) rfl (fun w => (Step.pick (t := false) rfl rfl)) ?_
      refine TW.pure (v := (Value.bool false)) rfl (by decide) (by decide) rfl (fun w => (Step.pick (t := false) rfl rfl)) ?_
      refine TW.pure (v := (Value.bool false)) rfl (by decide) (by decide) rfl (fun w => (Step.assign rfl)) ?_
      refine TW.done (fun w11 M => ?_)
      refine W.ret ?_
      refine ⟨.inl rfl, (Value.bool false), ?_, ?_⟩
      · exact ⟨rfl, (Res.r1 (show RV _ _ _ (.tmp 2) (Value.bool false) from by exact rfl))⟩
      refine ⟨?_, M.close [] rfl (by decide) trivial⟩
      refine congrArg Value.bool ?_
      first | rfl | (simp [aggRight, aggZ, h3p, h5p]; done) | (simp [aggRight, aggZ, h3p, h5p]; omega) | (rw [Bool.eq_iff_iff]; simp [aggRight, aggZ, h3p, h5p]; done) | (rw [Bool.eq_iff_iff]; simp [aggRight, aggZ, h3p, h5p]; omega) | grind [aggRight, aggZ]

theorem ref5_right {G : Nat → Prop} {w : World} (a : Agg5)   (M : Mem G (fun _ => False) w [] [] w) : Rets Try.prog 121 #[(Value.agg #[(Value.int .i64 a.count), (Value.int .i64 a.sum), (Value.int .i64 a.min), (Value.int .i64 a.max)])] w fun r w' => r = (Value.bool (aggRight a)) ∧ Mem G (fun _ => False) w [] [] w' := by
  refine Rets.enter 31 _ Try.func121 rfl Try.ntmps121 Try.results121 (by simp) ?_
  refine W.seq' ?_
  refine W.region rfl ?_
  refine WL.box (v := (Value.agg #[(Value.int .i64 a.count), (Value.int .i64 a.sum), (Value.int .i64 a.min), (Value.int .i64 a.max)])) (c := #[(Value.int .i64 a.count), (Value.int .i64 a.sum), (Value.int .i64 a.min), (Value.int .i64 a.max)]) M rfl rfl rfl (fun b1 w2 hb1 M => ?_)
  refine WL.step (v := (Value.bool false)) rfl (Step.assign rfl) ?_
  refine WL.nil ?_
  refine W.seq' ?_
  refine W.seq' ?_
  refine W.region rfl ?_
  refine WL.step (v := (Value.agg #[(Value.int .i64 a.count), (Value.int .i64 a.sum), (Value.int .i64 a.min), (Value.int .i64 a.max)])) rfl (Step.loadN Try.ag45 rfl (M.blk 0 rfl) (Nat.le_of_ble_eq_true rfl) rfl) ?_
  refine WL.step (v := (Value.agg #[(Value.int .i64 0), (Value.int .i64 0), (Value.int .i64 0), (Value.int .i64 0)])) rfl (Step.pure (by kernel_rfl)) ?_
  refine WL.step (v := (Value.bool (decide (a = (⟨0, 0, 0, 0⟩ : Agg5))))) rfl (Step.cast (congrArg Value.bool (agg_eqB a (⟨0, 0, 0, 0⟩ : Agg5))) (Step.eqAgg Try.eg45 rfl rfl rfl (Try.eq45 9998 (a.count : Int) (a.sum : Int) (a.min : Int) (a.max : Int) (0 : Int) (0 : Int) (0 : Int) (0 : Int)))) ?_
  refine WL.nil ?_
  refine W.cond (t := decide (a = (⟨0, 0, 0, 0⟩ : Agg5))) rfl (fun h3 => ?_) (fun h3 => ?_)
  ·
    have h3p := of_decide_eq_true h3
    refine W.seq' ?_
    refine W.region rfl ?_
    refine WL.step (v := (Value.bool true)) rfl (Step.assign rfl) ?_
    refine WL.nil ?_
    refine W.ret ?_
    refine ⟨.inl rfl, (Value.bool true), ?_, ?_⟩
    · exact ⟨rfl, (Res.r1 (show RV _ _ _ (.tmp 2) (Value.bool true) from by exact rfl))⟩
    refine ⟨?_, M.close [] rfl (by decide) trivial⟩
    refine congrArg Value.bool ?_
    simp [aggRight, aggZ, h3p]
  ·
    have h3p := of_decide_eq_false h3
    refine W.skip ?_
    refine W.seq' ?_
    refine W.seq' ?_
    refine W.region rfl ?_
    refine WL.step (v := (Value.pointer (some ⟨b1, 0, none⟩))) rfl (Step.pure (by kernel_rfl)) ?_
    refine WL.step (v := (Value.int .i64 a.count)) rfl (Step.load1 Try.sc2 rfl ((M.cell 0 rfl 0).trans rfl)) ?_
    refine WL.step (v := (Value.bool ((a.count : Int) == (1 : Int)))) rfl (Step.pure (by kernel_rfl)) ?_
    refine WL.nil ?_
    refine W.cond (t := (a.count : Int) == (1 : Int)) rfl (fun h4 => ?_) (fun h4 => ?_)
    ·
      have h4p : (a.count : Int) = (1 : Int) := by simpa using h4
      refine W.seq' ?_
      refine W.region rfl ?_
      refine WL.step (v := (Value.pointer (some ⟨b1, 1, none⟩))) rfl (Step.pure (by kernel_rfl)) ?_
      refine WL.step (v := (Value.int .i64 a.sum)) rfl (Step.load1 Try.sc2 rfl ((M.cell 0 rfl 1).trans rfl)) ?_
      refine WL.step (v := (Value.pointer (some ⟨b1, 2, none⟩))) rfl (Step.pure (by kernel_rfl)) ?_
      refine WL.step (v := (Value.int .i64 a.min)) rfl (Step.load1 Try.sc2 rfl ((M.cell 0 rfl 2).trans rfl)) ?_
      refine WL.step (v := (Value.bool ((a.sum : Int) == (a.min : Int)))) rfl (Step.pure (by kernel_rfl)) ?_
      refine WL.step (v := (Value.bool ((a.sum : Int) == (a.min : Int)))) rfl (Step.move rfl) ?_
      rcases Bool.eq_false_or_eq_true ((a.sum : Int) == (a.min : Int)) with h5 | h5
      ·
        have h5p : (a.sum : Int) = (a.min : Int) := by simpa using h5
        rw [h5]
        refine WL.step (v := (Value.pointer (some ⟨b1, 2, none⟩))) rfl (Step.pure (by kernel_rfl)) ?_
        refine WL.step (v := (Value.int .i64 a.min)) rfl (Step.load1 Try.sc2 rfl ((M.cell 0 rfl 2).trans rfl)) ?_
        refine WL.step (v := (Value.pointer (some ⟨b1, 3, none⟩))) rfl (Step.pure (by kernel_rfl)) ?_
        refine WL.step (v := (Value.int .i64 a.max)) rfl (Step.load1 Try.sc2 rfl ((M.cell 0 rfl 3).trans rfl)) ?_
        refine WL.step (v := (Value.bool ((a.min : Int) == (a.max : Int)))) rfl (Step.pure (by kernel_rfl)) ?_
        refine WL.step (v := (Value.bool ((a.min : Int) == (a.max : Int)))) rfl (Step.pick (t := true) rfl rfl) ?_
        refine WL.step (v := (Value.bool ((a.min : Int) == (a.max : Int)))) rfl (Step.assign rfl) ?_
        refine WL.nil ?_
        refine W.ret ?_
        refine ⟨.inl rfl, (Value.bool ((a.min : Int) == (a.max : Int))), ?_, ?_⟩
        · exact ⟨rfl, (Res.r1 (show RV _ _ _ (.tmp 2) (Value.bool ((a.min : Int) == (a.max : Int))) from by exact rfl))⟩
        refine ⟨?_, M.close [] rfl (by decide) trivial⟩
        refine congrArg Value.bool ?_
        rw [aggRight_one (by simpa [aggZ] using h3) (by simpa using h4)]
        first | rfl | (simp [h3p, h4p, h5p]; done) | (simp [h3p, h4p, h5p]; omega) | (rw [Bool.eq_iff_iff]; simp [h3p, h4p, h5p]; done) | (rw [Bool.eq_iff_iff]; simp [h3p, h4p, h5p]; omega) | grind []
      ·
        have h5p : ¬ (a.sum : Int) = (a.min : Int) := by simpa using h5
        rw [h5]
        refine WL.pass rfl ?_
        refine WL.pass rfl ?_
        refine WL.pass rfl ?_
        refine WL.pass rfl ?_
        refine WL.pass rfl ?_
        refine WL.step (v := (Value.bool false)) rfl (Step.pick (t := false) rfl rfl) ?_
        refine WL.step (v := (Value.bool false)) rfl (Step.assign rfl) ?_
        refine WL.nil ?_
        refine W.ret ?_
        refine ⟨.inl rfl, (Value.bool false), ?_, ?_⟩
        · exact ⟨rfl, (Res.r1 (show RV _ _ _ (.tmp 2) (Value.bool false) from by exact rfl))⟩
        refine ⟨?_, M.close [] rfl (by decide) trivial⟩
        refine congrArg Value.bool ?_
        rw [aggRight_one (by simpa [aggZ] using h3) (by simpa using h4)]
        first | rfl | (simp [h3p, h4p, h5p]; done) | (simp [h3p, h4p, h5p]; omega) | (rw [Bool.eq_iff_iff]; simp [h3p, h4p, h5p]; done) | (rw [Bool.eq_iff_iff]; simp [h3p, h4p, h5p]; omega) | grind []
    ·
      have h4p : ¬ (a.count : Int) = (1 : Int) := by simpa using h4
      refine W.skip ?_
      refine W.seq' ?_
      refine W.region rfl ?_
      refine WL.step (v := (Value.pointer (some ⟨b1, 0, none⟩))) rfl (Step.pure (by kernel_rfl)) ?_
      refine WL.step (v := (Value.int .i64 a.count)) rfl (Step.load1 Try.sc2 rfl ((M.cell 0 rfl 0).trans rfl)) ?_
      refine WL.step (v := (Value.bool (decide ((a.count : Int) > (1 : Int))))) rfl (Step.pure (by kernel_rfl)) ?_
      refine WL.step (v := (Value.bool (decide ((a.count : Int) > (1 : Int))))) rfl (Step.move rfl) ?_
      rcases Bool.eq_false_or_eq_true (decide ((a.count : Int) > (1 : Int))) with h6 | h6
      ·
        have h6p := of_decide_eq_true h6
        rw [h6]
        refine WL.step (v := (Value.pointer (some ⟨b1, 2, none⟩))) rfl (Step.pure (by kernel_rfl)) ?_
        refine WL.step (v := (Value.int .i64 a.min)) rfl (Step.load1 Try.sc2 rfl ((M.cell 0 rfl 2).trans rfl)) ?_
        refine WL.step (v := (Value.pointer (some ⟨b1, 3, none⟩))) rfl (Step.pure (by kernel_rfl)) ?_
        refine WL.step (v := (Value.int .i64 a.max)) rfl (Step.load1 Try.sc2 rfl ((M.cell 0 rfl 3).trans rfl)) ?_
        refine WL.step (v := (Value.bool (decide ((a.min : Int) ≤ (a.max : Int))))) rfl (Step.pure (by kernel_rfl)) ?_
        refine WL.step (v := (Value.bool (decide ((a.min : Int) ≤ (a.max : Int))))) rfl (Step.pick (t := true) rfl rfl) ?_
        refine WL.step (v := (Value.bool (decide ((a.min : Int) ≤ (a.max : Int))))) rfl (Step.assign rfl) ?_
        refine WL.nil ?_
        refine W.ret ?_
        refine ⟨.inl rfl, (Value.bool (decide ((a.min : Int) ≤ (a.max : Int)))), ?_, ?_⟩
        · exact ⟨rfl, (Res.r1 (show RV _ _ _ (.tmp 2) (Value.bool (decide ((a.min : Int) ≤ (a.max : Int)))) from by exact rfl))⟩
        refine ⟨?_, M.close [] rfl (by decide) trivial⟩
        refine congrArg Value.bool ?_
        rw [aggRight_many (by simpa [aggZ] using h3) (by simpa using h4)]
        first | rfl | (simp [h3p, h4p, h6p]; done) | (simp [h3p, h4p, h6p]; omega) | (rw [Bool.eq_iff_iff]; simp [h3p, h4p, h6p]; done) | (rw [Bool.eq_iff_iff]; simp [h3p, h4p, h6p]; omega) | grind []
      ·
        have h6p := of_decide_eq_false h6
        rw [h6]
        refine WL.pass rfl ?_
        refine WL.pass rfl ?_
        refine WL.pass rfl ?_
        refine WL.pass rfl ?_
        refine WL.pass rfl ?_
        refine WL.step (v := (Value.bool false)) rfl (Step.pick (t := false) rfl rfl) ?_
        refine WL.step (v := (Value.bool false)) rfl (Step.assign rfl) ?_
        refine WL.nil ?_
        refine W.ret ?_
        refine ⟨.inl rfl, (Value.bool false), ?_, ?_⟩
        · exact ⟨rfl, (Res.r1 (show RV _ _ _ (.tmp 2) (Value.bool false) from by exact rfl))⟩
        refine ⟨?_, M.close [] rfl (by decide) trivial⟩
        refine congrArg Value.bool ?_
        rw [aggRight_many (by simpa [aggZ] using h3) (by simpa using h4)]
        first | rfl | (simp [h3p, h4p, h6p]; done) | (simp [h3p, h4p, h6p]; omega) | (rw [Bool.eq_iff_iff]; simp [h3p, h4p, h6p]; done) | (rw [Bool.eq_iff_iff]; simp [h3p, h4p, h6p]; omega) | grind []

theorem sum1 {G X : Nat → Prop} {w : World} (n : Int) (sb : Nat) (s : Int) (ob : Nat) (o : Int)  (ho : -1000000 ≤ o ∧ o ≤ 1000000) (M : Mem G X w [blk sb (.cells #[(Value.int .i64 s)] 2), blk ob (.cells #[(Value.int .i64 o)] 3)] [] w) : Rets Try.prog 134 #[(Value.int .i64 n), (Value.pointer (some ⟨sb, 0, none⟩)), (Value.pointer (some ⟨ob, 0, none⟩))] w fun r w' => r = undef ∧ Mem G X w [blk sb (.cells #[(Value.int .i64 (w64 ((s : Int) + (n : Int))))] 2), blk ob (.cells #[(Value.int .i64 (overS s o n))] 3)] [] w' := by
  refine Rets.enter 35 _ Try.func134 rfl Try.ntmps134 Try.results134 (by simp) ?_
  refine W.seq' ?_
  refine W.region rfl ?_
  refine WL.step (v := (Value.int .i64 s)) rfl (Step.load1 Try.sc2 rfl ((M.cell 0 rfl 0).trans rfl)) ?_
  refine WL.step (v := (Value.int .i64 s)) rfl (Step.assign rfl) ?_
  refine WL.nil ?_
  refine W.seq' ?_
  refine W.region rfl ?_
  refine WL.step (v := (Value.int .i64 s)) rfl (Step.load1 Try.sc2 rfl ((M.cell 0 rfl 0).trans rfl)) ?_
  refine WL.step (v := (Value.int .i64 n)) rfl (Step.move rfl) ?_
  refine WL.step (v := (Value.int .i64 (w64 ((s : Int) + (n : Int))))) rfl (Step.addW rfl rfl) ?_
  refine WL.store (v := (Value.int .i64 (w64 ((s : Int) + (n : Int))))) (cs := [(Value.int .i64 (w64 ((s : Int) + (n : Int))))]) (c' := #[(Value.int .i64 (w64 ((s : Int) + (n : Int))))]) M 0 rfl rfl Try.el2.sized rfl rfl rfl rfl (Nat.le_of_ble_eq_true rfl) (cel_cons rfl cel_nil) rfl rfl (fun w1 M => ?_)
  refine WL.nil ?_
  refine W.block ?_
  refine W.seq' ?_
  refine W.region rfl ?_
  refine WL.step (v := (Value.int .i64 s)) rfl (Step.move rfl) ?_
  refine WL.step (v := (Value.bool (decide ((s : Int) ≥ (0 : Int))))) rfl (Step.pure (by kernel_rfl)) ?_
  refine WL.step (v := (Value.bool (decide ((s : Int) ≥ (0 : Int))))) rfl (Step.move rfl) ?_
  rcases Bool.eq_false_or_eq_true (decide ((s : Int) ≥ (0 : Int))) with h2 | h2
  ·
    have h2p := of_decide_eq_true h2
    rw [h2]
    refine WL.step (v := (Value.int .i64 n)) rfl (Step.move rfl) ?_
    refine WL.step (v := (Value.bool (decide ((n : Int) ≥ (0 : Int))))) rfl (Step.pure (by kernel_rfl)) ?_
    refine WL.step (v := (Value.bool (decide ((n : Int) ≥ (0 : Int))))) rfl (Step.pick (t := true) rfl rfl) ?_
    refine WL.step (v := (Value.bool (decide ((n : Int) ≥ (0 : Int))))) rfl (Step.move rfl) ?_
    rcases Bool.eq_false_or_eq_true (decide ((n : Int) ≥ (0 : Int))) with h3 | h3
    ·
      have h3p := of_decide_eq_true h3
      rw [h3]
      refine WL.step (v := (Value.int .i64 (w64 ((s : Int) + (n : Int))))) rfl (Step.load1 Try.sc2 rfl ((M.cell 0 rfl 0).trans rfl)) ?_
      refine WL.step (v := (Value.bool (decide ((w64 ((s : Int) + (n : Int)) : Int) < (0 : Int))))) rfl (Step.pure (by kernel_rfl)) ?_
      refine WL.step (v := (Value.bool (decide ((w64 ((s : Int) + (n : Int)) : Int) < (0 : Int))))) rfl (Step.pick (t := true) rfl rfl) ?_
      refine WL.step (v := (Value.bool (decide ((w64 ((s : Int) + (n : Int)) : Int) < (0 : Int))))) rfl (Step.assign rfl) ?_
      refine WL.nil ?_
      refine W.cond (t := decide ((w64 ((s : Int) + (n : Int)) : Int) < (0 : Int))) rfl (fun h4 => ?_) (fun h4 => ?_)
      ·
        have h4p := of_decide_eq_true h4
        refine W.region rfl ?_
        refine WL.step (v := (Value.int .i64 o)) rfl (Step.load1 Try.sc3 rfl ((M.cell 1 rfl 0).trans rfl)) ?_
        refine WL.step (v := (Value.int .i64 (o + 1))) rfl (Step.add rfl rfl (wrap_i64 (by omega))) ?_
        refine WL.store (v := (Value.int .i64 (o + 1))) (cs := [(Value.int .i64 (o + 1))]) (c' := #[(Value.int .i64 (o + 1))]) M 1 rfl rfl Try.el3.sized rfl rfl rfl rfl (Nat.le_of_ble_eq_true rfl) (cel_cons rfl cel_nil) rfl rfl (fun w5 M => ?_)
        refine WL.nil ?_
        refine ⟨.inr rfl, undef, ?_, ?_⟩
        · exact ⟨rfl, Res.none⟩
        have e6 : (blk ob (.cells #[(Value.int .i64 (overS s o n))] 3) : Chunk) = (blk ob (.cells #[(Value.int .i64 (o + 1))] 3) : Chunk) := by
          have hov_ : overS s o n = (o + 1 : Int) := by unfold overS; (repeat split) <;> omega
          rw [hov_]
        replace M := M.rechunk 1 (c' := blk ob (.cells #[(Value.int .i64 (overS s o n))] 3)) rfl e6.symm
        replace M : Mem _ _ _ [blk sb (.cells #[(Value.int .i64 (w64 ((s : Int) + (n : Int))))] 2), blk ob (.cells #[(Value.int .i64 (overS s o n))] 3)] [] _ := M
        refine ⟨?_, M.close [0, 1] rfl (by decide) trivial⟩
        rfl
      ·
        have h4p := of_decide_eq_false h4
        refine W.seq' ?_
        refine W.region rfl ?_
        refine WL.step (v := (Value.int .i64 s)) rfl (Step.move rfl) ?_
        refine WL.step (v := (Value.bool (decide ((s : Int) < (0 : Int))))) rfl (Step.pure (by kernel_rfl)) ?_
        refine WL.step (v := (Value.bool (decide ((s : Int) < (0 : Int))))) rfl (Step.move rfl) ?_
        rcases Bool.eq_false_or_eq_true (decide ((s : Int) < (0 : Int))) with h7 | h7
        ·
          have h7p := of_decide_eq_true h7
          rw [h7]
          refine WL.step (v := (Value.int .i64 n)) rfl (Step.move rfl) ?_
          refine WL.step (v := (Value.bool (decide ((n : Int) < (0 : Int))))) rfl (Step.pure (by kernel_rfl)) ?_
          refine WL.step (v := (Value.bool (decide ((n : Int) < (0 : Int))))) rfl (Step.pick (t := true) rfl rfl) ?_
          refine WL.step (v := (Value.bool (decide ((n : Int) < (0 : Int))))) rfl (Step.move rfl) ?_
          rcases Bool.eq_false_or_eq_true (decide ((n : Int) < (0 : Int))) with h8 | h8
          ·
            have h8p := of_decide_eq_true h8
            rw [h8]
            refine WL.step (v := (Value.int .i64 (w64 ((s : Int) + (n : Int))))) rfl (Step.load1 Try.sc2 rfl ((M.cell 0 rfl 0).trans rfl)) ?_
            refine WL.step (v := (Value.bool (decide ((w64 ((s : Int) + (n : Int)) : Int) ≥ (0 : Int))))) rfl (Step.pure (by kernel_rfl)) ?_
            refine WL.step (v := (Value.bool (decide ((w64 ((s : Int) + (n : Int)) : Int) ≥ (0 : Int))))) rfl (Step.pick (t := true) rfl rfl) ?_
            refine WL.step (v := (Value.bool (decide ((w64 ((s : Int) + (n : Int)) : Int) ≥ (0 : Int))))) rfl (Step.assign rfl) ?_
            refine WL.nil ?_
            refine W.cond (t := decide ((w64 ((s : Int) + (n : Int)) : Int) ≥ (0 : Int))) rfl (fun h9 => ?_) (fun h9 => ?_)
            ·
              have h9p := of_decide_eq_true h9
              refine W.region rfl ?_
              refine WL.step (v := (Value.int .i64 o)) rfl (Step.load1 Try.sc3 rfl ((M.cell 1 rfl 0).trans rfl)) ?_
              refine WL.step (v := (Value.int .i64 ((o : Int) - 1))) rfl (Step.sub rfl rfl (wrap_i64 (by omega))) ?_
              refine WL.store (v := (Value.int .i64 ((o : Int) - 1))) (cs := [(Value.int .i64 ((o : Int) - 1))]) (c' := #[(Value.int .i64 ((o : Int) - 1))]) M 1 rfl rfl Try.el3.sized rfl rfl rfl rfl (Nat.le_of_ble_eq_true rfl) (cel_cons rfl cel_nil) rfl rfl (fun w10 M => ?_)
              refine WL.nil ?_
              refine ⟨.inr rfl, undef, ?_, ?_⟩
              · exact ⟨rfl, Res.none⟩
              have e11 : (blk ob (.cells #[(Value.int .i64 (overS s o n))] 3) : Chunk) = (blk ob (.cells #[(Value.int .i64 ((o : Int) - 1))] 3) : Chunk) := by
                have hov_ : overS s o n = ((o : Int) - 1 : Int) := by unfold overS; (repeat split) <;> omega
                rw [hov_]
              replace M := M.rechunk 1 (c' := blk ob (.cells #[(Value.int .i64 (overS s o n))] 3)) rfl e11.symm
              replace M : Mem _ _ _ [blk sb (.cells #[(Value.int .i64 (w64 ((s : Int) + (n : Int))))] 2), blk ob (.cells #[(Value.int .i64 (overS s o n))] 3)] [] _ := M
              refine ⟨?_, M.close [0, 1] rfl (by decide) trivial⟩
              rfl
            ·
              have h9p := of_decide_eq_false h9
              refine W.skip ?_
              refine ⟨.inr rfl, undef, ?_, ?_⟩
              · exact ⟨rfl, Res.none⟩
              have e12 : (blk ob (.cells #[(Value.int .i64 (overS s o n))] 3) : Chunk) = (blk ob (.cells #[(Value.int .i64 o)] 3) : Chunk) := by
                have hov_ : overS s o n = (o : Int) := by unfold overS; (repeat split) <;> omega
                rw [hov_]
              replace M := M.rechunk 1 (c' := blk ob (.cells #[(Value.int .i64 (overS s o n))] 3)) rfl e12.symm
              replace M : Mem _ _ _ [blk sb (.cells #[(Value.int .i64 (w64 ((s : Int) + (n : Int))))] 2), blk ob (.cells #[(Value.int .i64 (overS s o n))] 3)] [] _ := M
              refine ⟨?_, M.close [0, 1] rfl (by decide) trivial⟩
              rfl
          ·
            have h8p := of_decide_eq_false h8
            rw [h8]
            refine WL.pass rfl ?_
            refine WL.pass rfl ?_
            refine WL.step (v := (Value.bool false)) rfl (Step.pick (t := false) rfl rfl) ?_
            refine WL.step (v := (Value.bool false)) rfl (Step.assign rfl) ?_
            refine WL.nil ?_
            refine W.cond (t := false) rfl (fun h => by cases h) (fun _ => ?_)
            refine W.skip ?_
            refine ⟨.inr rfl, undef, ?_, ?_⟩
            · exact ⟨rfl, Res.none⟩
            have e13 : (blk ob (.cells #[(Value.int .i64 (overS s o n))] 3) : Chunk) = (blk ob (.cells #[(Value.int .i64 o)] 3) : Chunk) := by
              have hov_ : overS s o n = (o : Int) := by unfold overS; (repeat split) <;> omega
              rw [hov_]
            replace M := M.rechunk 1 (c' := blk ob (.cells #[(Value.int .i64 (overS s o n))] 3)) rfl e13.symm
            replace M : Mem _ _ _ [blk sb (.cells #[(Value.int .i64 (w64 ((s : Int) + (n : Int))))] 2), blk ob (.cells #[(Value.int .i64 (overS s o n))] 3)] [] _ := M
            refine ⟨?_, M.close [0, 1] rfl (by decide) trivial⟩
            rfl
        ·
          have h7p := of_decide_eq_false h7
          rw [h7]
          refine WL.pass rfl ?_
          refine WL.pass rfl ?_
          refine WL.step (v := (Value.bool false)) rfl (Step.pick (t := false) rfl rfl) ?_
          refine WL.step (v := (Value.bool false)) rfl (Step.move rfl) ?_
          refine WL.pass rfl ?_
          refine WL.pass rfl ?_
          refine WL.step (v := (Value.bool false)) rfl (Step.pick (t := false) rfl rfl) ?_
          refine WL.step (v := (Value.bool false)) rfl (Step.assign rfl) ?_
          refine WL.nil ?_
          refine W.cond (t := false) rfl (fun h => by cases h) (fun _ => ?_)
          refine W.skip ?_
          refine ⟨.inr rfl, undef, ?_, ?_⟩
          · exact ⟨rfl, Res.none⟩
          have e14 : (blk ob (.cells #[(Value.int .i64 (overS s o n))] 3) : Chunk) = (blk ob (.cells #[(Value.int .i64 o)] 3) : Chunk) := by
            have hov_ : overS s o n = (o : Int) := by unfold overS; (repeat split) <;> omega
            rw [hov_]
          replace M := M.rechunk 1 (c' := blk ob (.cells #[(Value.int .i64 (overS s o n))] 3)) rfl e14.symm
          replace M : Mem _ _ _ [blk sb (.cells #[(Value.int .i64 (w64 ((s : Int) + (n : Int))))] 2), blk ob (.cells #[(Value.int .i64 (overS s o n))] 3)] [] _ := M
          refine ⟨?_, M.close [0, 1] rfl (by decide) trivial⟩
          rfl
    ·
      have h3p := of_decide_eq_false h3
      rw [h3]
      refine WL.pass rfl ?_
      refine WL.pass rfl ?_
      refine WL.step (v := (Value.bool false)) rfl (Step.pick (t := false) rfl rfl) ?_
      refine WL.step (v := (Value.bool false)) rfl (Step.assign rfl) ?_
      refine WL.nil ?_
      refine W.cond (t := false) rfl (fun h => by cases h) (fun _ => ?_)
      refine W.seq' ?_
      refine W.region rfl ?_
      refine WL.step (v := (Value.int .i64 s)) rfl (Step.move rfl) ?_
      refine WL.step (v := (Value.bool (decide ((s : Int) < (0 : Int))))) rfl (Step.pure (by kernel_rfl)) ?_
      refine WL.step (v := (Value.bool (decide ((s : Int) < (0 : Int))))) rfl (Step.move rfl) ?_
      rcases Bool.eq_false_or_eq_true (decide ((s : Int) < (0 : Int))) with h15 | h15
      ·
        have h15p := of_decide_eq_true h15
        rw [h15]
        refine WL.step (v := (Value.int .i64 n)) rfl (Step.move rfl) ?_
        refine WL.step (v := (Value.bool (decide ((n : Int) < (0 : Int))))) rfl (Step.pure (by kernel_rfl)) ?_
        refine WL.step (v := (Value.bool (decide ((n : Int) < (0 : Int))))) rfl (Step.pick (t := true) rfl rfl) ?_
        refine WL.step (v := (Value.bool (decide ((n : Int) < (0 : Int))))) rfl (Step.move rfl) ?_
        rcases Bool.eq_false_or_eq_true (decide ((n : Int) < (0 : Int))) with h16 | h16
        ·
          have h16p := of_decide_eq_true h16
          rw [h16]
          refine WL.step (v := (Value.int .i64 (w64 ((s : Int) + (n : Int))))) rfl (Step.load1 Try.sc2 rfl ((M.cell 0 rfl 0).trans rfl)) ?_
          refine WL.step (v := (Value.bool (decide ((w64 ((s : Int) + (n : Int)) : Int) ≥ (0 : Int))))) rfl (Step.pure (by kernel_rfl)) ?_
          refine WL.step (v := (Value.bool (decide ((w64 ((s : Int) + (n : Int)) : Int) ≥ (0 : Int))))) rfl (Step.pick (t := true) rfl rfl) ?_
          refine WL.step (v := (Value.bool (decide ((w64 ((s : Int) + (n : Int)) : Int) ≥ (0 : Int))))) rfl (Step.assign rfl) ?_
          refine WL.nil ?_
          refine W.cond (t := decide ((w64 ((s : Int) + (n : Int)) : Int) ≥ (0 : Int))) rfl (fun h17 => ?_) (fun h17 => ?_)
          ·
            have h17p := of_decide_eq_true h17
            refine W.region rfl ?_
            refine WL.step (v := (Value.int .i64 o)) rfl (Step.load1 Try.sc3 rfl ((M.cell 1 rfl 0).trans rfl)) ?_
            refine WL.step (v := (Value.int .i64 ((o : Int) - 1))) rfl (Step.sub rfl rfl (wrap_i64 (by omega))) ?_
            refine WL.store (v := (Value.int .i64 ((o : Int) - 1))) (cs := [(Value.int .i64 ((o : Int) - 1))]) (c' := #[(Value.int .i64 ((o : Int) - 1))]) M 1 rfl rfl Try.el3.sized rfl rfl rfl rfl (Nat.le_of_ble_eq_true rfl) (cel_cons rfl cel_nil) rfl rfl (fun w18 M => ?_)
            refine WL.nil ?_
            refine ⟨.inr rfl, undef, ?_, ?_⟩
            · exact ⟨rfl, Res.none⟩
            have e19 : (blk ob (.cells #[(Value.int .i64 (overS s o n))] 3) : Chunk) = (blk ob (.cells #[(Value.int .i64 ((o : Int) - 1))] 3) : Chunk) := by
              have hov_ : overS s o n = ((o : Int) - 1 : Int) := by unfold overS; (repeat split) <;> omega
              rw [hov_]
            replace M := M.rechunk 1 (c' := blk ob (.cells #[(Value.int .i64 (overS s o n))] 3)) rfl e19.symm
            replace M : Mem _ _ _ [blk sb (.cells #[(Value.int .i64 (w64 ((s : Int) + (n : Int))))] 2), blk ob (.cells #[(Value.int .i64 (overS s o n))] 3)] [] _ := M
            refine ⟨?_, M.close [0, 1] rfl (by decide) trivial⟩
            rfl
          ·
            have h17p := of_decide_eq_false h17
            refine W.skip ?_
            refine ⟨.inr rfl, undef, ?_, ?_⟩
            · exact ⟨rfl, Res.none⟩
            have e20 : (blk ob (.cells #[(Value.int .i64 (overS s o n))] 3) : Chunk) = (blk ob (.cells #[(Value.int .i64 o)] 3) : Chunk) := by
              have hov_ : overS s o n = (o : Int) := by unfold overS; (repeat split) <;> omega
              rw [hov_]
            replace M := M.rechunk 1 (c' := blk ob (.cells #[(Value.int .i64 (overS s o n))] 3)) rfl e20.symm
            replace M : Mem _ _ _ [blk sb (.cells #[(Value.int .i64 (w64 ((s : Int) + (n : Int))))] 2), blk ob (.cells #[(Value.int .i64 (overS s o n))] 3)] [] _ := M
            refine ⟨?_, M.close [0, 1] rfl (by decide) trivial⟩
            rfl
        ·
          have h16p := of_decide_eq_false h16
          rw [h16]
          refine WL.pass rfl ?_
          refine WL.pass rfl ?_
          refine WL.step (v := (Value.bool false)) rfl (Step.pick (t := false) rfl rfl) ?_
          refine WL.step (v := (Value.bool false)) rfl (Step.assign rfl) ?_
          refine WL.nil ?_
          refine W.cond (t := false) rfl (fun h => by cases h) (fun _ => ?_)
          refine W.skip ?_
          refine ⟨.inr rfl, undef, ?_, ?_⟩
          · exact ⟨rfl, Res.none⟩
          have e21 : (blk ob (.cells #[(Value.int .i64 (overS s o n))] 3) : Chunk) = (blk ob (.cells #[(Value.int .i64 o)] 3) : Chunk) := by
            have hov_ : overS s o n = (o : Int) := by unfold overS; (repeat split) <;> omega
            rw [hov_]
          replace M := M.rechunk 1 (c' := blk ob (.cells #[(Value.int .i64 (overS s o n))] 3)) rfl e21.symm
          replace M : Mem _ _ _ [blk sb (.cells #[(Value.int .i64 (w64 ((s : Int) + (n : Int))))] 2), blk ob (.cells #[(Value.int .i64 (overS s o n))] 3)] [] _ := M
          refine ⟨?_, M.close [0, 1] rfl (by decide) trivial⟩
          rfl
      ·
        have h15p := of_decide_eq_false h15
        rw [h15]
        refine WL.pass rfl ?_
        refine WL.pass rfl ?_
        refine WL.step (v := (Value.bool false)) rfl (Step.pick (t := false) rfl rfl) ?_
        refine WL.step (v := (Value.bool false)) rfl (Step.move rfl) ?_
        refine WL.pass rfl ?_
        refine WL.pass rfl ?_
        refine WL.step (v := (Value.bool false)) rfl (Step.pick (t := false) rfl rfl) ?_
        refine WL.step (v := (Value.bool false)) rfl (Step.assign rfl) ?_
        refine WL.nil ?_
        refine W.cond (t := false) rfl (fun h => by cases h) (fun _ => ?_)
        refine W.skip ?_
        refine ⟨.inr rfl, undef, ?_, ?_⟩
        · exact ⟨rfl, Res.none⟩
        have e22 : (blk ob (.cells #[(Value.int .i64 (overS s o n))] 3) : Chunk) = (blk ob (.cells #[(Value.int .i64 o)] 3) : Chunk) := by
          have hov_ : overS s o n = (o : Int) := by unfold overS; (repeat split) <;> omega
          rw [hov_]
        replace M := M.rechunk 1 (c' := blk ob (.cells #[(Value.int .i64 (overS s o n))] 3)) rfl e22.symm
        replace M : Mem _ _ _ [blk sb (.cells #[(Value.int .i64 (w64 ((s : Int) + (n : Int))))] 2), blk ob (.cells #[(Value.int .i64 (overS s o n))] 3)] [] _ := M
        refine ⟨?_, M.close [0, 1] rfl (by decide) trivial⟩
        rfl
  ·
    have h2p := of_decide_eq_false h2
    rw [h2]
    refine WL.pass rfl ?_
    refine WL.pass rfl ?_
    refine WL.step (v := (Value.bool false)) rfl (Step.pick (t := false) rfl rfl) ?_
    refine WL.step (v := (Value.bool false)) rfl (Step.move rfl) ?_
    refine WL.pass rfl ?_
    refine WL.pass rfl ?_
    refine WL.step (v := (Value.bool false)) rfl (Step.pick (t := false) rfl rfl) ?_
    refine WL.step (v := (Value.bool false)) rfl (Step.assign rfl) ?_
    refine WL.nil ?_
    refine W.cond (t := false) rfl (fun h => by cases h) (fun _ => ?_)
    refine W.seq' ?_
    refine W.region rfl ?_
    refine WL.step (v := (Value.int .i64 s)) rfl (Step.move rfl) ?_
    refine WL.step (v := (Value.bool (decide ((s : Int) < (0 : Int))))) rfl (Step.pure (by kernel_rfl)) ?_
    refine WL.step (v := (Value.bool (decide ((s : Int) < (0 : Int))))) rfl (Step.move rfl) ?_
    rcases Bool.eq_false_or_eq_true (decide ((s : Int) < (0 : Int))) with h23 | h23
    ·
      have h23p := of_decide_eq_true h23
      rw [h23]
      refine WL.step (v := (Value.int .i64 n)) rfl (Step.move rfl) ?_
      refine WL.step (v := (Value.bool (decide ((n : Int) < (0 : Int))))) rfl (Step.pure (by kernel_rfl)) ?_
      refine WL.step (v := (Value.bool (decide ((n : Int) < (0 : Int))))) rfl (Step.pick (t := true) rfl rfl) ?_
      refine WL.step (v := (Value.bool (decide ((n : Int) < (0 : Int))))) rfl (Step.move rfl) ?_
      rcases Bool.eq_false_or_eq_true (decide ((n : Int) < (0 : Int))) with h24 | h24
      ·
        have h24p := of_decide_eq_true h24
        rw [h24]
        refine WL.step (v := (Value.int .i64 (w64 ((s : Int) + (n : Int))))) rfl (Step.load1 Try.sc2 rfl ((M.cell 0 rfl 0).trans rfl)) ?_
        refine WL.step (v := (Value.bool (decide ((w64 ((s : Int) + (n : Int)) : Int) ≥ (0 : Int))))) rfl (Step.pure (by kernel_rfl)) ?_
        refine WL.step (v := (Value.bool (decide ((w64 ((s : Int) + (n : Int)) : Int) ≥ (0 : Int))))) rfl (Step.pick (t := true) rfl rfl) ?_
        refine WL.step (v := (Value.bool (decide ((w64 ((s : Int) + (n : Int)) : Int) ≥ (0 : Int))))) rfl (Step.assign rfl) ?_
        refine WL.nil ?_
        refine W.cond (t := decide ((w64 ((s : Int) + (n : Int)) : Int) ≥ (0 : Int))) rfl (fun h25 => ?_) (fun h25 => ?_)
        ·
          have h25p := of_decide_eq_true h25
          refine W.region rfl ?_
          refine WL.step (v := (Value.int .i64 o)) rfl (Step.load1 Try.sc3 rfl ((M.cell 1 rfl 0).trans rfl)) ?_
          refine WL.step (v := (Value.int .i64 ((o : Int) - 1))) rfl (Step.sub rfl rfl (wrap_i64 (by omega))) ?_
          refine WL.store (v := (Value.int .i64 ((o : Int) - 1))) (cs := [(Value.int .i64 ((o : Int) - 1))]) (c' := #[(Value.int .i64 ((o : Int) - 1))]) M 1 rfl rfl Try.el3.sized rfl rfl rfl rfl (Nat.le_of_ble_eq_true rfl) (cel_cons rfl cel_nil) rfl rfl (fun w26 M => ?_)
          refine WL.nil ?_
          refine ⟨.inr rfl, undef, ?_, ?_⟩
          · exact ⟨rfl, Res.none⟩
          have e27 : (blk ob (.cells #[(Value.int .i64 (overS s o n))] 3) : Chunk) = (blk ob (.cells #[(Value.int .i64 ((o : Int) - 1))] 3) : Chunk) := by
            have hov_ : overS s o n = ((o : Int) - 1 : Int) := by unfold overS; (repeat split) <;> omega
            rw [hov_]
          replace M := M.rechunk 1 (c' := blk ob (.cells #[(Value.int .i64 (overS s o n))] 3)) rfl e27.symm
          replace M : Mem _ _ _ [blk sb (.cells #[(Value.int .i64 (w64 ((s : Int) + (n : Int))))] 2), blk ob (.cells #[(Value.int .i64 (overS s o n))] 3)] [] _ := M
          refine ⟨?_, M.close [0, 1] rfl (by decide) trivial⟩
          rfl
        ·
          have h25p := of_decide_eq_false h25
          refine W.skip ?_
          refine ⟨.inr rfl, undef, ?_, ?_⟩
          · exact ⟨rfl, Res.none⟩
          have e28 : (blk ob (.cells #[(Value.int .i64 (overS s o n))] 3) : Chunk) = (blk ob (.cells #[(Value.int .i64 o)] 3) : Chunk) := by
            have hov_ : overS s o n = (o : Int) := by unfold overS; (repeat split) <;> omega
            rw [hov_]
          replace M := M.rechunk 1 (c' := blk ob (.cells #[(Value.int .i64 (overS s o n))] 3)) rfl e28.symm
          replace M : Mem _ _ _ [blk sb (.cells #[(Value.int .i64 (w64 ((s : Int) + (n : Int))))] 2), blk ob (.cells #[(Value.int .i64 (overS s o n))] 3)] [] _ := M
          refine ⟨?_, M.close [0, 1] rfl (by decide) trivial⟩
          rfl
      ·
        have h24p := of_decide_eq_false h24
        rw [h24]
        refine WL.pass rfl ?_
        refine WL.pass rfl ?_
        refine WL.step (v := (Value.bool false)) rfl (Step.pick (t := false) rfl rfl) ?_
        refine WL.step (v := (Value.bool false)) rfl (Step.assign rfl) ?_
        refine WL.nil ?_
        refine W.cond (t := false) rfl (fun h => by cases h) (fun _ => ?_)
        refine W.skip ?_
        refine ⟨.inr rfl, undef, ?_, ?_⟩
        · exact ⟨rfl, Res.none⟩
        have e29 : (blk ob (.cells #[(Value.int .i64 (overS s o n))] 3) : Chunk) = (blk ob (.cells #[(Value.int .i64 o)] 3) : Chunk) := by
          have hov_ : overS s o n = (o : Int) := by unfold overS; (repeat split) <;> omega
          rw [hov_]
        replace M := M.rechunk 1 (c' := blk ob (.cells #[(Value.int .i64 (overS s o n))] 3)) rfl e29.symm
        replace M : Mem _ _ _ [blk sb (.cells #[(Value.int .i64 (w64 ((s : Int) + (n : Int))))] 2), blk ob (.cells #[(Value.int .i64 (overS s o n))] 3)] [] _ := M
        refine ⟨?_, M.close [0, 1] rfl (by decide) trivial⟩
        rfl
    ·
      have h23p := of_decide_eq_false h23
      rw [h23]
      refine WL.pass rfl ?_
      refine WL.pass rfl ?_
      refine WL.step (v := (Value.bool false)) rfl (Step.pick (t := false) rfl rfl) ?_
      refine WL.step (v := (Value.bool false)) rfl (Step.move rfl) ?_
      refine WL.pass rfl ?_
      refine WL.pass rfl ?_
      refine WL.step (v := (Value.bool false)) rfl (Step.pick (t := false) rfl rfl) ?_
      refine WL.step (v := (Value.bool false)) rfl (Step.assign rfl) ?_
      refine WL.nil ?_
      refine W.cond (t := false) rfl (fun h => by cases h) (fun _ => ?_)
      refine W.skip ?_
      refine ⟨.inr rfl, undef, ?_, ?_⟩
      · exact ⟨rfl, Res.none⟩
      have e30 : (blk ob (.cells #[(Value.int .i64 (overS s o n))] 3) : Chunk) = (blk ob (.cells #[(Value.int .i64 o)] 3) : Chunk) := by
        have hov_ : overS s o n = (o : Int) := by unfold overS; (repeat split) <;> omega
        rw [hov_]
      replace M := M.rechunk 1 (c' := blk ob (.cells #[(Value.int .i64 (overS s o n))] 3)) rfl e30.symm
      replace M : Mem _ _ _ [blk sb (.cells #[(Value.int .i64 (w64 ((s : Int) + (n : Int))))] 2), blk ob (.cells #[(Value.int .i64 (overS s o n))] 3)] [] _ := M
      refine ⟨?_, M.close [0, 1] rfl (by decide) trivial⟩
      rfl

theorem num_sum {G : Nat → Prop} {w : World} (v : Value) (xs : List Int)  (hb : xs.length ≤ 1000000) (hin : ∀ x, x ∈ xs → in64 x) (M : Mem G (fun _ => False) w [] [SlAt 1 v xs.length (xs.flatMap intE)] w) : Rets Try.prog 116 #[v] w fun r w' => r = (Value.tuple #[(Value.int .i64 ((sumV xs).1)), (Value.int .i64 ((sumV xs).2))]) ∧ Mem G (fun _ => False) w [] [] w' := by
  refine Rets.enter 23 _ Try.func116 rfl Try.ntmps116 Try.results116 (by simp) ?_
  have hle1 := SlAt.le' (M.rep 0 rfl)
  have sl2 : IsSl v := SlAt.isSl (Mem.rep M 0 rfl)
  refine W.seq' ?_
  refine W.region rfl ?_
  refine WL.step (v := (Value.int .i64 0)) rfl (Step.assign rfl) ?_
  refine WL.step (v := (Value.int .i64 0)) rfl (Step.assign rfl) ?_
  refine WL.nil ?_
  refine W.seq' ?_
  refine W.region rfl ?_
  refine WL.alloc (c := #[(Value.int .i64 0)]) M rfl Try.el2.zero rfl (fun b3 w4 hb3 M => ?_)
  refine WL.alloc (c := #[(Value.int .i64 0)]) M rfl Try.el3.zero rfl (fun b5 w6 hb5 M => ?_)
  refine WL.store (v := (Value.int .i64 0)) (cs := [(Value.int .i64 0)]) (c' := #[(Value.int .i64 0)]) M 1 rfl rfl Try.el2.sized rfl rfl rfl rfl (Nat.le_of_ble_eq_true rfl) (cel_cons rfl cel_nil) rfl rfl (fun w7 M => ?_)
  refine WL.store (v := (Value.int .i64 0)) (cs := [(Value.int .i64 0)]) (c' := #[(Value.int .i64 0)]) M 0 rfl rfl Try.el3.sized rfl rfl rfl rfl (Nat.le_of_ble_eq_true rfl) (cel_cons rfl cel_nil) rfl rfl (fun w8 M => ?_)
  refine WL.nil ?_
  refine W.seq' ?_
  refine W.region rfl ?_
  refine WL.step (v := (Value.func (.func 134) #[] #[(Value.pointer (some ⟨b3, 0, none⟩)), (Value.pointer (some ⟨b5, 0, none⟩))])) rfl (Step.pure (by kernel_rfl)) ?_
  refine WL.step (v := (Value.func (.func 134) #[] #[(Value.pointer (some ⟨b3, 0, none⟩)), (Value.pointer (some ⟨b5, 0, none⟩))])) rfl (Step.assign rfl) ?_
  refine WL.nil ?_
  refine W.seq' ?_
  refine W.seq' ?_
  refine W.region rfl ?_
  refine WL.step (v := v) rfl (Step.move rfl) ?_
  refine WL.step (v := (Value.int .i64 ↑xs.length)) rfl (Step.lenSl Try.un121 rfl (M.rep 0 rfl)) ?_
  refine WL.step (v := (Value.int .i64 0)) rfl (Step.move rfl) ?_
  refine WL.nil ?_
  refine W.block ?_
  refine W.loop (fun kk ρ w' => ∃ (k_ : Nat) (s_ : Int) (o_ : Int), ((k_ ≤ xs.length) ∧ (in64 s_) ∧ (s_ + o_ * 18446744073709551616 = sumI (xs.take k_)) ∧ (-(k_ : Int) ≤ o_ ∧ o_ ≤ k_) ∧ kk = xs.length - k_) ∧ ρ.has [(2, (Value.int .i64 0)), (3, (Value.int .i64 0)), (4, (Value.pointer (some ⟨b3, 0, none⟩))), (5, (Value.pointer (some ⟨b5, 0, none⟩))), (6, (Value.func (.func 134) #[] #[(Value.pointer (some ⟨b3, 0, none⟩)), (Value.pointer (some ⟨b5, 0, none⟩))])), (10, v), (11, (Value.int .i64 ↑xs.length)), (12, (Value.int .i64 ↑k_))] ∧ Mem G (fun _ => False) w [blk b5 (.cells #[(Value.int .i64 o_)] 3), blk b3 (.cells #[(Value.int .i64 s_)] 2)] [SlAt 1 v xs.length (xs.flatMap intE)]  w') _ ⟨0, 0, 0, ⟨(Nat.zero_le _), (by decide), rfl, (by decide), rfl⟩, ⟨rfl, rfl, rfl, rfl, rfl, rfl, rfl, rfl, rfl, rfl⟩, M⟩ ?_
  rintro _ ρ10 w9 ⟨k_, s_, o_, ⟨hi11, hi12, hi13, hi14, rfl⟩, hρ, M⟩
  obtain ⟨ρ10, rfl⟩ := hρ.know
  clear hρ
  refine W.seq' ?_
  refine W.region rfl ?_
  refine WL.step (v := (Value.bool (decide ((↑k_ : Int) < (↑xs.length : Int))))) rfl (Step.pure (by kernel_rfl)) ?_
  refine WL.nil ?_
  refine W.seq' ?_
  refine W.cond (t := decide ((↑k_ : Int) < (↑xs.length : Int))) rfl (fun h15 => ?_) (fun h15 => ?_)
  ·
    have h15p := of_decide_eq_true h15
    refine W.skip ?_
    refine W.seq' ?_
    refine W.block ?_
    refine W.seq' ?_
    refine W.region rfl ?_
    obtain ⟨cap17, hb16⟩ := SlAt.base (M.rep 0 rfl) (by omega)
    obtain ⟨x18, hx18⟩ := elem_of_lt (xs := xs) (i := k_) (by omega)
    refine WL.step (v := (Value.pointer (some ⟨(sBlk v), sOff v + k_ * 1, none⟩))) rfl (Step.indexAddr (i := k_) (Try.un121).run Try.el2.sized rfl rfl (by omega) hb16 (by omega)) ?_
    refine WL.step (v := (Value.int .i64 x18)) rfl (Step.loadE (k := 0) Try.sc2 (flat_ec (M.rep 0 rfl) hx18 intE_len) (by decide) rfl rfl) ?_
    refine WL.step (v := (Value.int .i64 x18)) rfl (Step.assign rfl) ?_
    refine WL.nil ?_
    refine W.region rfl ?_
    refine WL.step (v := (Value.func (.func 134) #[] #[(Value.pointer (some ⟨b3, 0, none⟩)), (Value.pointer (some ⟨b5, 0, none⟩))])) rfl (Step.move rfl) ?_
    refine WL.step (v := (Value.int .i64 x18)) rfl (Step.move rfl) ?_
    refine WL.callX rfl (sum1 x18 b3 s_ b5 o_ (by omega) (M.enterW (C := [blk b3 (.cells #[(Value.int .i64 s_)] 2), blk b5 (.cells #[(Value.int .i64 o_)] 3)]) (D := []) [1, 0] rfl (by decide) trivial)) (CallsF.value Try.en134 rfl rfl rfl) ?_
    rintro _ w19 ⟨rfl, m⟩
    replace M := M.leaveW (C := [blk b3 (.cells #[(Value.int .i64 s_)] 2), blk b5 (.cells #[(Value.int .i64 o_)] 3)]) (D := []) [1, 0] rfl (by decide) m
    clear m
    replace M : Mem _ _ _ [blk b3 (.cells #[(Value.int .i64 (w64 ((s_ : Int) + (x18 : Int))))] 2), blk b5 (.cells #[(Value.int .i64 (overS s_ o_ x18))] 3)] [SlAt 1 v xs.length (xs.flatMap intE)] _ := M
    refine WL.nil ?_
    refine W.region rfl ?_
    refine WL.step (v := (Value.int .i64 (↑k_ + 1))) rfl (Step.add rfl rfl (wrap_i64 (by omega))) ?_
    refine WL.step (v := (Value.int .i64 (↑k_ + 1))) rfl (Step.move rfl) ?_
    refine WL.nil ?_
    have hol_ := overS_le (s := s_) (o := o_) (n := x18)
    replace M := M.sel (L' := [blk b5 (.cells #[(Value.int .i64 (overS s_ o_ x18))] 3), blk b3 (.cells #[(Value.int .i64 (w64 ((s_ : Int) + (x18 : Int))))] 2)]) [1, 0] rfl (by decide)
    exact ⟨_, (by omega), k_ + 1, w64 ((s_ : Int) + (x18 : Int)), overS s_ o_ x18, ⟨(by omega), (w64_in _), (by rw [sumI_snoc hx18]; exact overS_step hi12 (hin _ (List.mem_of_getElem? hx18)) hi13), (by omega), rfl⟩, ⟨rfl, rfl, rfl, rfl, rfl, rfl, rfl, rfl, rfl, rfl⟩, M⟩
  ·
    have h15p := of_decide_eq_false h15
    refine W.exit ?_
    refine thn_exit ?_
    refine thn_exit ?_
    refine inBlk_hit ?_
    refine W.seq' ?_
    refine W.seq' ?_
    refine W.region rfl ?_
    refine WL.step (v := (Value.int .i64 o_)) rfl (Step.load1 Try.sc3 rfl ((M.cell 0 rfl 0).trans rfl)) ?_
    refine WL.step (v := (Value.bool ((o_ : Int) != (0 : Int)))) rfl (Step.pure (by kernel_rfl)) ?_
    refine WL.nil ?_
    refine W.cond (t := (o_ : Int) != (0 : Int)) rfl (fun h20 => ?_) (fun h20 => ?_)
    ·
      have h20p : ¬ (o_ : Int) = (0 : Int) := by simpa using h20
      refine W.seq' ?_
      refine W.region rfl ?_
      refine WL.step (v := (Value.int .i64 0)) rfl (Step.assign rfl) ?_
      refine WL.step (v := (Value.int .i64 30)) rfl (Step.assign rfl) ?_
      refine WL.nil ?_
      refine W.ret ?_
      refine ⟨.inl rfl, (Value.tuple #[(Value.int .i64 0), (Value.int .i64 30)]), ?_, ?_⟩
      · exact ⟨rfl, (Res.r2 (show RV _ _ _ (.tmp 2) (Value.int .i64 0) from by exact rfl) (show RV _ _ _ (.tmp 3) (Value.int .i64 30) from by exact rfl))⟩
      refine ⟨?_, M.close [] rfl (by decide) trivial⟩
      have hkk : k_ = xs.length := by omega
      have hsv := sumV_over hi12 hi13
      rw [hkk, List.take_length] at hsv
      rcases hsv with ⟨e1, e2, e3⟩ | ⟨e1, e2⟩
      · exact absurd e1 h20p
      · simp [sumV, e2]
    ·
      have h20p : (o_ : Int) = (0 : Int) := by simpa using h20
      refine W.skip ?_
      refine W.seq' ?_
      refine W.region rfl ?_
      refine WL.step (v := (Value.int .i64 s_)) rfl (Step.load1 Try.sc2 rfl ((M.cell 1 rfl 0).trans rfl)) ?_
      refine WL.step (v := (Value.int .i64 s_)) rfl (Step.assign rfl) ?_
      refine WL.step (v := (Value.int .i64 0)) rfl (Step.assign rfl) ?_
      refine WL.nil ?_
      refine W.ret ?_
      refine ⟨.inl rfl, (Value.tuple #[(Value.int .i64 s_), (Value.int .i64 0)]), ?_, ?_⟩
      · exact ⟨rfl, (Res.r2 (show RV _ _ _ (.tmp 2) (Value.int .i64 s_) from by exact rfl) (show RV _ _ _ (.tmp 3) (Value.int .i64 0) from by exact rfl))⟩
      refine ⟨?_, M.close [] rfl (by decide) trivial⟩
      have hkk : k_ = xs.length := by omega
      have hsv := sumV_over hi12 hi13
      rw [hkk, List.take_length] at hsv
      rcases hsv with ⟨e1, e2, e3⟩ | ⟨e1, e2⟩
      · simp [sumV, e2, e3]
      · exact absurd h20p e1

theorem slices_min {G : Nat → Prop} {w : World} (v : Value) (xs : List Int)  (hne : 0 < xs.length) (M : Mem G (fun _ => False) w [] [SlAt 1 v xs.length (xs.flatMap intE)] w) : Rets Try.prog 117 #[v] w fun r w' => r = (Value.int .i64 (minI xs)) ∧ Mem G (fun _ => False) w [] [] w' := by
  refine Rets.enter 25 _ Try.func117 rfl Try.ntmps117 Try.results117 (by simp) ?_
  have hle1 := SlAt.le' (M.rep 0 rfl)
  have sl2 : IsSl v := SlAt.isSl (Mem.rep M 0 rfl)
  refine W.seq' ?_
  refine W.region rfl ?_
  refine WL.step (v := (Value.int .i64 0)) rfl (Step.assign rfl) ?_
  refine WL.nil ?_
  refine W.seq' ?_
  refine W.seq' ?_
  refine W.region rfl ?_
  refine WL.step (v := v) rfl (Step.move rfl) ?_
  refine WL.step (v := (Value.int .i64 ↑xs.length)) rfl (Step.lenSl Try.un121 rfl (M.rep 0 rfl)) ?_
  refine WL.step (v := (Value.bool (decide ((↑xs.length : Int) < (1 : Int))))) rfl (Step.pure (by kernel_rfl)) ?_
  refine WL.nil ?_
  refine W.cond (t := decide ((↑xs.length : Int) < (1 : Int))) rfl (fun h3 => ?_) (fun h3 => ?_)
  ·
    have h3p := of_decide_eq_true h3
    exact absurd h3 (by simp; omega)
  ·
    have h3p := of_decide_eq_false h3
    refine W.skip ?_
    refine W.seq' ?_
    refine W.region rfl ?_
    refine WL.step (v := v) rfl (Step.move rfl) ?_
    obtain ⟨cap5, hb4⟩ := SlAt.base (M.rep 0 rfl) (by omega)
    obtain ⟨x6, hx6⟩ := elem_of_lt (xs := xs) (i := 0) (by omega)
    refine WL.step (v := (Value.pointer (some ⟨(sBlk v), sOff v + 0 * 1, none⟩))) rfl (Step.indexAddr (i := 0) (Try.un121).run Try.el2.sized rfl rfl rfl hb4 (by omega)) ?_
    refine WL.step (v := (Value.int .i64 x6)) rfl (Step.loadE (k := 0) Try.sc2 (flat_ec (M.rep 0 rfl) hx6 intE_len) (by decide) rfl rfl) ?_
    refine WL.step (v := (Value.int .i64 x6)) rfl (Step.assign rfl) ?_
    refine WL.nil ?_
    refine W.seq' ?_
    refine W.seq' ?_
    refine W.region rfl ?_
    refine WL.step (v := (Value.int .i64 1)) rfl (Step.assign rfl) ?_
    refine WL.nil ?_
    refine W.block ?_
    refine W.loop (fun kk ρ w' => ∃ (i_ : Nat) (m_ : Int), ((i_ ≤ xs.length) ∧ (1 ≤ i_) ∧ (m_ = minI (xs.take i_)) ∧ kk = xs.length - i_) ∧ ρ.has [(0, v), (2, (Value.int .i64 0)), (3, (Value.int .i64 m_)), (4, (Value.int .i64 ↑i_))] ∧ Mem G (fun _ => False) w [] [SlAt 1 v xs.length (xs.flatMap intE)]  w') _ ⟨1, x6, ⟨(by omega), (Nat.le_refl _), (minI_one hx6), rfl⟩, ⟨rfl, rfl, rfl, rfl, rfl, rfl⟩, M⟩ ?_
    rintro _ ρ8 w7 ⟨i_, m_, ⟨hi9, hi10, hi11, rfl⟩, hρ, M⟩
    obtain ⟨ρ8, rfl⟩ := hρ.know
    clear hρ
    refine W.seq' ?_
    refine W.seq' ?_
    refine W.region rfl ?_
    refine WL.step (v := (Value.int .i64 ↑i_)) rfl (Step.move rfl) ?_
    refine WL.step (v := v) rfl (Step.move rfl) ?_
    refine WL.step (v := (Value.int .i64 ↑xs.length)) rfl (Step.lenSl Try.un121 rfl (M.rep 0 rfl)) ?_
    refine WL.step (v := (Value.bool (decide ((↑i_ : Int) < (↑xs.length : Int))))) rfl (Step.pure (by kernel_rfl)) ?_
    refine WL.nil ?_
    refine W.cond (t := decide ((↑i_ : Int) < (↑xs.length : Int))) rfl (fun h12 => ?_) (fun h12 => ?_)
    ·
      have h12p := of_decide_eq_true h12
      refine W.skip ?_
      refine W.seq' ?_
      refine W.block ?_
      refine W.region rfl ?_
      refine WL.step (v := (Value.int .i64 m_)) rfl (Step.move rfl) ?_
      refine WL.step (v := v) rfl (Step.move rfl) ?_
      refine WL.step (v := (Value.int .i64 ↑i_)) rfl (Step.move rfl) ?_
      obtain ⟨x13, hx13⟩ := elem_of_lt (xs := xs) (i := i_) (by omega)
      refine WL.step (v := (Value.pointer (some ⟨(sBlk v), sOff v + i_ * 1, none⟩))) rfl (Step.indexAddr (i := i_) (Try.un121).run Try.el2.sized rfl rfl (by omega) hb4 (by omega)) ?_
      refine WL.step (v := (Value.int .i64 x13)) rfl (Step.loadE (k := 0) Try.sc2 (flat_ec (M.rep 0 rfl) hx13 intE_len) (by decide) rfl rfl) ?_
      refine WL.step (v := (Value.int .i64 (min (m_ : Int) (x13 : Int)))) rfl (Step.minI rfl rfl) ?_
      refine WL.step (v := (Value.int .i64 (min (m_ : Int) (x13 : Int)))) rfl (Step.assign rfl) ?_
      refine WL.nil ?_
      refine W.region rfl ?_
      refine WL.step (v := (Value.int .i64 ↑i_)) rfl (Step.move rfl) ?_
      refine WL.step (v := (Value.int .i64 (↑i_ + 1))) rfl (Step.add rfl rfl (wrap_i64 (by omega))) ?_
      refine WL.step (v := (Value.int .i64 (↑i_ + 1))) rfl (Step.assign rfl) ?_
      refine WL.nil ?_
      exact ⟨_, (by omega), i_ + 1, min (m_ : Int) (x13 : Int), ⟨(by omega), (by omega), (by rw [minI_snoc (by omega) hx13, ← hi11]), rfl⟩, ⟨rfl, rfl, rfl, rfl, rfl, rfl⟩, M⟩
    ·
      have h12p := of_decide_eq_false h12
      refine W.exit ?_
      refine thn_exit ?_
      refine thn_exit ?_
      refine inBlk_hit ?_
      refine W.seq' ?_
      refine W.region rfl ?_
      refine WL.step (v := (Value.int .i64 m_)) rfl (Step.move rfl) ?_
      refine WL.step (v := (Value.int .i64 m_)) rfl (Step.assign rfl) ?_
      refine WL.nil ?_
      refine W.ret ?_
      refine ⟨.inl rfl, (Value.int .i64 m_), ?_, ?_⟩
      · exact ⟨rfl, (Res.r1 (show RV _ _ _ (.tmp 2) (Value.int .i64 m_) from by exact rfl))⟩
      refine ⟨?_, M.close [] rfl (by decide) trivial⟩
      rw [hi11, show i_ = xs.length by omega, List.take_length]

theorem slices_max {G : Nat → Prop} {w : World} (v : Value) (xs : List Int)  (hne : 0 < xs.length) (M : Mem G (fun _ => False) w [] [SlAt 1 v xs.length (xs.flatMap intE)] w) : Rets Try.prog 118 #[v] w fun r w' => r = (Value.int .i64 (maxI xs)) ∧ Mem G (fun _ => False) w [] [] w' := by
  refine Rets.enter 25 _ Try.func118 rfl Try.ntmps118 Try.results118 (by simp) ?_
  have hle1 := SlAt.le' (M.rep 0 rfl)
  have sl2 : IsSl v := SlAt.isSl (Mem.rep M 0 rfl)
  refine W.seq' ?_
  refine W.region rfl ?_
  refine WL.step (v := (Value.int .i64 0)) rfl (Step.assign rfl) ?_
  refine WL.nil ?_
  refine W.seq' ?_
  refine W.seq' ?_
  refine W.region rfl ?_
  refine WL.step (v := v) rfl (Step.move rfl) ?_
  refine WL.step (v := (Value.int .i64 ↑xs.length)) rfl (Step.lenSl Try.un121 rfl (M.rep 0 rfl)) ?_
  refine WL.step (v := (Value.bool (decide ((↑xs.length : Int) < (1 : Int))))) rfl (Step.pure (by kernel_rfl)) ?_
  refine WL.nil ?_
  refine W.cond (t := decide ((↑xs.length : Int) < (1 : Int))) rfl (fun h3 => ?_) (fun h3 => ?_)
  ·
    have h3p := of_decide_eq_true h3
    exact absurd h3 (by simp; omega)
  ·
    have h3p := of_decide_eq_false h3
    refine W.skip ?_
    refine W.seq' ?_
    refine W.region rfl ?_
    refine WL.step (v := v) rfl (Step.move rfl) ?_
    obtain ⟨cap5, hb4⟩ := SlAt.base (M.rep 0 rfl) (by omega)
    obtain ⟨x6, hx6⟩ := elem_of_lt (xs := xs) (i := 0) (by omega)
    refine WL.step (v := (Value.pointer (some ⟨(sBlk v), sOff v + 0 * 1, none⟩))) rfl (Step.indexAddr (i := 0) (Try.un121).run Try.el2.sized rfl rfl rfl hb4 (by omega)) ?_
    refine WL.step (v := (Value.int .i64 x6)) rfl (Step.loadE (k := 0) Try.sc2 (flat_ec (M.rep 0 rfl) hx6 intE_len) (by decide) rfl rfl) ?_
    refine WL.step (v := (Value.int .i64 x6)) rfl (Step.assign rfl) ?_
    refine WL.nil ?_
    refine W.seq' ?_
    refine W.seq' ?_
    refine W.region rfl ?_
    refine WL.step (v := (Value.int .i64 1)) rfl (Step.assign rfl) ?_
    refine WL.nil ?_
    refine W.block ?_
    refine W.loop (fun kk ρ w' => ∃ (i_ : Nat) (m_ : Int), ((i_ ≤ xs.length) ∧ (1 ≤ i_) ∧ (m_ = maxI (xs.take i_)) ∧ kk = xs.length - i_) ∧ ρ.has [(0, v), (2, (Value.int .i64 0)), (3, (Value.int .i64 m_)), (4, (Value.int .i64 ↑i_))] ∧ Mem G (fun _ => False) w [] [SlAt 1 v xs.length (xs.flatMap intE)]  w') _ ⟨1, x6, ⟨(by omega), (Nat.le_refl _), (maxI_one hx6), rfl⟩, ⟨rfl, rfl, rfl, rfl, rfl, rfl⟩, M⟩ ?_
    rintro _ ρ8 w7 ⟨i_, m_, ⟨hi9, hi10, hi11, rfl⟩, hρ, M⟩
    obtain ⟨ρ8, rfl⟩ := hρ.know
    clear hρ
    refine W.seq' ?_
    refine W.seq' ?_
    refine W.region rfl ?_
    refine WL.step (v := (Value.int .i64 ↑i_)) rfl (Step.move rfl) ?_
    refine WL.step (v := v) rfl (Step.move rfl) ?_
    refine WL.step (v := (Value.int .i64 ↑xs.length)) rfl (Step.lenSl Try.un121 rfl (M.rep 0 rfl)) ?_
    refine WL.step (v := (Value.bool (decide ((↑i_ : Int) < (↑xs.length : Int))))) rfl (Step.pure (by kernel_rfl)) ?_
    refine WL.nil ?_
    refine W.cond (t := decide ((↑i_ : Int) < (↑xs.length : Int))) rfl (fun h12 => ?_) (fun h12 => ?_)
    ·
      have h12p := of_decide_eq_true h12
      refine W.skip ?_
      refine W.seq' ?_
      refine W.block ?_
      refine W.region rfl ?_
      refine WL.step (v := (Value.int .i64 m_)) rfl (Step.move rfl) ?_
      refine WL.step (v := v) rfl (Step.move rfl) ?_
      refine WL.step (v := (Value.int .i64 ↑i_)) rfl (Step.move rfl) ?_
      obtain ⟨x13, hx13⟩ := elem_of_lt (xs := xs) (i := i_) (by omega)
      refine WL.step (v := (Value.pointer (some ⟨(sBlk v), sOff v + i_ * 1, none⟩))) rfl (Step.indexAddr (i := i_) (Try.un121).run Try.el2.sized rfl rfl (by omega) hb4 (by omega)) ?_
      refine WL.step (v := (Value.int .i64 x13)) rfl (Step.loadE (k := 0) Try.sc2 (flat_ec (M.rep 0 rfl) hx13 intE_len) (by decide) rfl rfl) ?_
      refine WL.step (v := (Value.int .i64 (max (m_ : Int) (x13 : Int)))) rfl (Step.maxI rfl rfl) ?_
      refine WL.step (v := (Value.int .i64 (max (m_ : Int) (x13 : Int)))) rfl (Step.assign rfl) ?_
      refine WL.nil ?_
      refine W.region rfl ?_
      refine WL.step (v := (Value.int .i64 ↑i_)) rfl (Step.move rfl) ?_
      refine WL.step (v := (Value.int .i64 (↑i_ + 1))) rfl (Step.add rfl rfl (wrap_i64 (by omega))) ?_
      refine WL.step (v := (Value.int .i64 (↑i_ + 1))) rfl (Step.assign rfl) ?_
      refine WL.nil ?_
      exact ⟨_, (by omega), i_ + 1, max (m_ : Int) (x13 : Int), ⟨(by omega), (by omega), (by rw [maxI_snoc (by omega) hx13, ← hi11]), rfl⟩, ⟨rfl, rfl, rfl, rfl, rfl, rfl⟩, M⟩
    ·
      have h12p := of_decide_eq_false h12
      refine W.exit ?_
      refine thn_exit ?_
      refine thn_exit ?_
      refine inBlk_hit ?_
      refine W.seq' ?_
      refine W.region rfl ?_
      refine WL.step (v := (Value.int .i64 m_)) rfl (Step.move rfl) ?_
      refine WL.step (v := (Value.int .i64 m_)) rfl (Step.assign rfl) ?_
      refine WL.nil ?_
      refine W.ret ?_
      refine ⟨.inl rfl, (Value.int .i64 m_), ?_, ?_⟩
      · exact ⟨rfl, (Res.r1 (show RV _ _ _ (.tmp 2) (Value.int .i64 m_) from by exact rfl))⟩
      refine ⟨?_, M.close [] rfl (by decide) trivial⟩
      rw [hi11, show i_ = xs.length by omega, List.take_length]

theorem agg_all {G : Nat → Prop} {w : World} (v : Value) (xs : List Int)  (hb : xs.length ≤ 1000000) (hin : ∀ x, x ∈ xs → in64 x) (M : Mem G (fun _ => False) w [] [SlAt 1 v xs.length (xs.flatMap intE)] w) : Rets Try.prog 70 #[v] w fun r w' => r = (Value.tuple #[(Value.agg #[(Value.int .i64 (((allV xs).1).count)), (Value.int .i64 (((allV xs).1).sum)), (Value.int .i64 (((allV xs).1).min)), (Value.int .i64 (((allV xs).1).max))]), (Value.int .i64 ((allV xs).2))]) ∧ Mem G (fun _ => False) w [] [] w' := by
  refine Rets.enter 27 _ Try.func70 rfl Try.ntmps70 Try.results70 (by simp) ?_
  have hle1 := SlAt.le' (M.rep 0 rfl)
  have sl2 : IsSl v := SlAt.isSl (Mem.rep M 0 rfl)
  refine W.seq' ?_
  refine W.region rfl ?_
  refine WL.alloc (c := #[(Value.int .i64 0), (Value.int .i64 0), (Value.int .i64 0), (Value.int .i64 0)]) M rfl Try.el32.zero rfl (fun b3 w4 hb3 M => ?_)
  refine WL.step (v := (Value.int .i64 0)) rfl (Step.assign rfl) ?_
  refine WL.nil ?_
  refine W.seq' ?_
  refine W.seq' ?_
  refine W.region rfl ?_
  refine WL.step (v := v) rfl (Step.move rfl) ?_
  refine WL.step (v := (Value.int .i64 ↑xs.length)) rfl (Step.lenSl Try.un121 rfl (M.rep 0 rfl)) ?_
  refine WL.step (v := (Value.bool ((↑xs.length : Int) == (0 : Int)))) rfl (Step.pure (by kernel_rfl)) ?_
  refine WL.nil ?_
  refine W.cond (t := (↑xs.length : Int) == (0 : Int)) rfl (fun h5 => ?_) (fun h5 => ?_)
  ·
    have h5p : (↑xs.length : Int) = (0 : Int) := by simpa using h5
    refine W.seq' ?_
    refine W.region rfl ?_
    refine WL.step (v := (Value.agg #[(Value.int .i64 0), (Value.int .i64 0), (Value.int .i64 0), (Value.int .i64 0)])) rfl (Step.pure (by kernel_rfl)) ?_
    refine WL.store (v := (Value.agg #[(Value.int .i64 0), (Value.int .i64 0), (Value.int .i64 0), (Value.int .i64 0)])) (cs := [(Value.int .i64 0), (Value.int .i64 0), (Value.int .i64 0), (Value.int .i64 0)]) (c' := #[(Value.int .i64 0), (Value.int .i64 0), (Value.int .i64 0), (Value.int .i64 0)]) M 0 rfl rfl Try.el32.sized rfl rfl rfl rfl (Nat.le_of_ble_eq_true rfl) (cel_cons rfl (cel_cons rfl (cel_cons rfl (cel_cons rfl cel_nil)))) rfl rfl (fun w6 M => ?_)
    refine WL.step (v := (Value.int .i64 0)) rfl (Step.assign rfl) ?_
    refine WL.nil ?_
    refine W.ret ?_
    refine ⟨.inl rfl, (Value.tuple #[(Value.agg #[(Value.int .i64 0), (Value.int .i64 0), (Value.int .i64 0), (Value.int .i64 0)]), (Value.int .i64 0)]), ?_, ?_⟩
    · exact ⟨rfl, (Res.r2 (RV.cellN Try.ag32 rfl (M.blk 0 rfl) rfl) (show RV _ _ _ (.tmp 3) (Value.int .i64 0) from by exact rfl))⟩
    refine ⟨?_, M.close [] rfl (by decide) trivial⟩
    simp only [allV]
    rw [if_pos (by omega)]; rfl
  ·
    have h5p : ¬ (↑xs.length : Int) = (0 : Int) := by simpa using h5
    refine W.skip ?_
    refine W.seq' ?_
    refine W.region rfl ?_
    refine WL.step (v := v) rfl (Step.move rfl) ?_
    refine WL.callX rfl (num_sum v xs (by first | omega | assumption | decide | (simp only [List.length_nil, List.length_cons, List.length_take, List.length_drop]; omega)) (by first | assumption | decide) (M.enterW0 ⟨(M.wideR0 0 rfl), trivial⟩)) (CallsF.func Try.en116 rfl) ?_
    rintro _ w7 ⟨rfl, m⟩
    replace M := M.leaveW0 m
    clear m
    replace M : Mem _ _ _ [blk b3 (.cells #[(Value.int .i64 0), (Value.int .i64 0), (Value.int .i64 0), (Value.int .i64 0)] 32)] [SlAt 1 v xs.length (xs.flatMap intE)] _ := M
    refine WL.step (v := (Value.tuple #[(Value.int .i64 ((sumV xs).1)), (Value.int .i64 ((sumV xs).2))])) rfl (Step.move rfl) ?_
    refine WL.step (v := (Value.int .i64 ((sumV xs).1))) rfl (Step.pure (by kernel_rfl)) ?_
    refine WL.step (v := (Value.int .i64 ((sumV xs).2))) rfl (Step.pure (by kernel_rfl)) ?_
    refine WL.step (v := (Value.int .i64 ((sumV xs).1))) rfl (Step.assign rfl) ?_
    refine WL.step (v := (Value.int .i64 ((sumV xs).2))) rfl (Step.assign rfl) ?_
    refine WL.nil ?_
    refine W.seq' ?_
    refine W.seq' ?_
    refine W.region rfl ?_
    refine WL.step (v := (Value.int .i64 ((sumV xs).2))) rfl (Step.move rfl) ?_
    refine WL.step (v := (Value.bool (((sumV xs).2 : Int) != (0 : Int)))) rfl (Step.pure (by kernel_rfl)) ?_
    refine WL.nil ?_
    refine W.cond (t := ((sumV xs).2 : Int) != (0 : Int)) rfl (fun h8 => ?_) (fun h8 => ?_)
    ·
      have h8p : ¬ ((sumV xs).2 : Int) = (0 : Int) := by simpa using h8
      refine W.seq' ?_
      refine W.region rfl ?_
      refine WL.step (v := (Value.agg #[(Value.int .i64 0), (Value.int .i64 0), (Value.int .i64 0), (Value.int .i64 0)])) rfl (Step.pure (by kernel_rfl)) ?_
      refine WL.step (v := (Value.int .i64 ((sumV xs).2))) rfl (Step.move rfl) ?_
      refine WL.store (v := (Value.agg #[(Value.int .i64 0), (Value.int .i64 0), (Value.int .i64 0), (Value.int .i64 0)])) (cs := [(Value.int .i64 0), (Value.int .i64 0), (Value.int .i64 0), (Value.int .i64 0)]) (c' := #[(Value.int .i64 0), (Value.int .i64 0), (Value.int .i64 0), (Value.int .i64 0)]) M 0 rfl rfl Try.el32.sized rfl rfl rfl rfl (Nat.le_of_ble_eq_true rfl) (cel_cons rfl (cel_cons rfl (cel_cons rfl (cel_cons rfl cel_nil)))) rfl rfl (fun w9 M => ?_)
      refine WL.step (v := (Value.int .i64 ((sumV xs).2))) rfl (Step.assign rfl) ?_
      refine WL.nil ?_
      refine W.ret ?_
      refine ⟨.inl rfl, (Value.tuple #[(Value.agg #[(Value.int .i64 0), (Value.int .i64 0), (Value.int .i64 0), (Value.int .i64 0)]), (Value.int .i64 ((sumV xs).2))]), ?_, ?_⟩
      · exact ⟨rfl, (Res.r2 (RV.cellN Try.ag32 rfl (M.blk 0 rfl) rfl) (show RV _ _ _ (.tmp 3) (Value.int .i64 ((sumV xs).2)) from by exact rfl))⟩
      refine ⟨?_, M.close [] rfl (by decide) trivial⟩
      simp only [allV]
      rw [if_neg (by omega)]
      cases hfs : fits (sumI xs)
      · simp [aggZ, sumV, hfs]
      · exact absurd h8p (by simp [sumV, hfs])
    ·
      have h8p : ((sumV xs).2 : Int) = (0 : Int) := by simpa using h8
      refine W.skip ?_
      refine W.seq' ?_
      refine W.region rfl ?_
      refine WL.step (v := v) rfl (Step.move rfl) ?_
      refine WL.step (v := (Value.int .i64 ↑xs.length)) rfl (Step.lenSl Try.un121 rfl (M.rep 0 rfl)) ?_
      refine WL.step (v := (Value.int .i64 ((sumV xs).1))) rfl (Step.move rfl) ?_
      refine WL.step (v := v) rfl (Step.move rfl) ?_
      refine WL.callX rfl (slices_min v xs (by omega) (M.enterW0 ⟨(M.wideR0 0 rfl), trivial⟩)) (CallsF.func Try.en117 rfl) ?_
      rintro _ w10 ⟨rfl, m⟩
      replace M := M.leaveW0 m
      clear m
      replace M : Mem _ _ _ [blk b3 (.cells #[(Value.int .i64 0), (Value.int .i64 0), (Value.int .i64 0), (Value.int .i64 0)] 32)] [SlAt 1 v xs.length (xs.flatMap intE)] _ := M
      refine WL.step (v := v) rfl (Step.move rfl) ?_
      refine WL.callX rfl (slices_max v xs (by omega) (M.enterW0 ⟨(M.wideR0 0 rfl), trivial⟩)) (CallsF.func Try.en118 rfl) ?_
      rintro _ w11 ⟨rfl, m⟩
      replace M := M.leaveW0 m
      clear m
      replace M : Mem _ _ _ [blk b3 (.cells #[(Value.int .i64 0), (Value.int .i64 0), (Value.int .i64 0), (Value.int .i64 0)] 32)] [SlAt 1 v xs.length (xs.flatMap intE)] _ := M
      refine WL.step (v := (Value.agg #[(Value.int .i64 ↑xs.length), (Value.int .i64 ((sumV xs).1)), (Value.int .i64 (minI xs)), (Value.int .i64 (maxI xs))])) rfl (Step.pure (by kernel_rfl)) ?_
      refine WL.store (v := (Value.agg #[(Value.int .i64 ↑xs.length), (Value.int .i64 ((sumV xs).1)), (Value.int .i64 (minI xs)), (Value.int .i64 (maxI xs))])) (cs := [(Value.int .i64 ↑xs.length), (Value.int .i64 ((sumV xs).1)), (Value.int .i64 (minI xs)), (Value.int .i64 (maxI xs))]) (c' := #[(Value.int .i64 ↑xs.length), (Value.int .i64 ((sumV xs).1)), (Value.int .i64 (minI xs)), (Value.int .i64 (maxI xs))]) M 0 rfl rfl Try.el32.sized rfl rfl rfl rfl (Nat.le_of_ble_eq_true rfl) (cel_cons rfl (cel_cons rfl (cel_cons rfl (cel_cons rfl cel_nil)))) rfl rfl (fun w12 M => ?_)
      refine WL.step (v := (Value.int .i64 0)) rfl (Step.assign rfl) ?_
      refine WL.nil ?_
      refine W.ret ?_
      refine ⟨.inl rfl, (Value.tuple #[(Value.agg #[(Value.int .i64 ↑xs.length), (Value.int .i64 ((sumV xs).1)), (Value.int .i64 (minI xs)), (Value.int .i64 (maxI xs))]), (Value.int .i64 0)]), ?_, ?_⟩
      · exact ⟨rfl, (Res.r2 (RV.cellN Try.ag32 rfl (M.blk 0 rfl) rfl) (show RV _ _ _ (.tmp 3) (Value.int .i64 0) from by exact rfl))⟩
      refine ⟨?_, M.close [] rfl (by decide) trivial⟩
      simp only [allV]
      rw [if_neg (by omega)]
      cases hfs : fits (sumI xs)
      · exact absurd h8p (by simp [sumV, hfs])
      · simp [sumV, hfs]
end Go.Proofs
