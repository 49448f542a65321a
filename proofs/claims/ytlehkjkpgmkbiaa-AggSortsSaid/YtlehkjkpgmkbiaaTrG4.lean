/- Walks. -/
import Derived.Test.YtlehkjkpgmkbiaaTrG3
import Derived.Test.YtlehkjkpgmkbiaaTrAggR
import Derived.Test.YtlehkjkpgmkbiaaTrSort
set_option maxRecDepth 100000
set_option linter.all false
namespace Go.Proofs
open Go Tp
theorem Try.un195 : Und Try.prog 195 (.slice 3) := by unfold Und; kernel_rfl
theorem Try.ag113 : Aggr Try.prog 113 3 := ⟨fun _ => by kernel_rfl, fun _ => by kernel_rfl⟩
theorem Try.ag118 : Aggr Try.prog 118 3 := ⟨fun _ => by kernel_rfl, fun _ => by kernel_rfl⟩
theorem Try.el45 : Elem Try.prog 45 (Value.agg #[(Value.int .i64 0), (Value.int .i64 0), (Value.int .i64 0), (Value.int .i64 0)]) 4 32 := Elem.mk (by kernel_rfl)
theorem Try.en64 : Enters Try.prog 64 := fun _ _ => by kernel_rfl
theorem Try.en65 : Enters Try.prog 65 := fun _ _ => by kernel_rfl
theorem Try.en67 : Enters Try.prog 67 := fun _ _ => by kernel_rfl
theorem Try.en111 : Enters Try.prog 111 := fun _ _ => by kernel_rfl
theorem Try.en112 : Enters Try.prog 112 := fun _ _ => by kernel_rfl
theorem Try.en113 : Enters Try.prog 113 := fun _ _ => by kernel_rfl
theorem Try.en114 : Enters Try.prog 114 := fun _ _ => by kernel_rfl
theorem Try.en132 : Enters Try.prog 132 := fun _ _ => by kernel_rfl
theorem Try.en133 : Enters Try.prog 133 := fun _ _ => by kernel_rfl
theorem Try.sc9 : Scal Try.prog 9 := fun _ => by kernel_rfl
theorem Try.sc116 : Scal Try.prog 116 := fun _ => by kernel_rfl

theorem ref5_order {G : Nat → Prop} {w : World} (less : Bool) (more : Bool)   (M : Mem G (fun _ => False) w [] [] w) : Rets Try.prog 114 #[(Value.bool less), (Value.bool more)] w fun r w' => r = (Value.int .i64 (orderI less more)) ∧ Mem G (fun _ => False) w [] [] w' := by
  refine Rets.enter 7 _ Try.func114 rfl Try.ntmps114 Try.results114 (by simp) ?_
  refine W.seq' ?_
  refine W.region rfl ?_
  refine WL.step (v := (Value.int .i64 0)) rfl (Step.assign rfl) ?_
  refine WL.nil ?_
  refine W.seq' ?_
  refine W.seq' ?_
  refine W.region rfl ?_
  refine WL.step (v := (Value.bool less)) rfl (Step.move rfl) ?_
  refine WL.nil ?_
  refine W.cond (t := less) rfl (fun h1 => ?_) (fun h1 => ?_)
  ·
    refine W.seq' ?_
    refine W.region rfl ?_
    refine WL.step (v := (Value.int .i64 (-1))) rfl (Step.assign rfl) ?_
    refine WL.nil ?_
    refine W.ret ?_
    refine ⟨.inl rfl, (Value.int .i64 (-1)), ?_, ?_⟩
    · exact ⟨rfl, (Res.r1 (show RV _ _ _ (.tmp 4) (Value.int .i64 (-1)) from by exact rfl))⟩
    refine ⟨?_, M.close [] rfl (by decide) trivial⟩
    simp [orderI, h1]
  ·
    refine W.skip ?_
    refine W.seq' ?_
    refine W.seq' ?_
    refine W.region rfl ?_
    refine WL.step (v := (Value.bool more)) rfl (Step.move rfl) ?_
    refine WL.nil ?_
    refine W.cond (t := more) rfl (fun h2 => ?_) (fun h2 => ?_)
    ·
      refine W.seq' ?_
      refine W.region rfl ?_
      refine WL.step (v := (Value.int .i64 1)) rfl (Step.assign rfl) ?_
      refine WL.nil ?_
      refine W.ret ?_
      refine ⟨.inl rfl, (Value.int .i64 1), ?_, ?_⟩
      · exact ⟨rfl, (Res.r1 (show RV _ _ _ (.tmp 4) (Value.int .i64 1) from by exact rfl))⟩
      refine ⟨?_, M.close [] rfl (by decide) trivial⟩
      simp [orderI, h1, h2]
    ·
      refine W.skip ?_
      refine W.seq' ?_
      refine W.region rfl ?_
      refine WL.step (v := (Value.int .i64 0)) rfl (Step.assign rfl) ?_
      refine WL.nil ?_
      refine W.ret ?_
      refine ⟨.inl rfl, (Value.int .i64 0), ?_, ?_⟩
      · exact ⟨rfl, (Res.r1 (show RV _ _ _ (.tmp 4) (Value.int .i64 0) from by exact rfl))⟩
      refine ⟨?_, M.close [] rfl (by decide) trivial⟩
      simp [orderI, h1, h2]

theorem ref5_prim {G : Nat → Prop} {w : World} (a : Pane5) (b : Pane5)   (M : Mem G (fun _ => False) w [] [] w) : Rets Try.prog 65 #[(Value.agg #[(Value.string a.key), (Value.int .i64 a.start), (Value.int .i64 a.fin)]), (Value.agg #[(Value.string b.key), (Value.int .i64 b.start), (Value.int .i64 b.fin)])] w fun r w' => r = (Value.int .i64 (primV a b)) ∧ Mem G (fun _ => False) w [] [] w' := by
  refine Rets.enter 38 _ Try.func65 rfl Try.ntmps65 Try.results65 (by simp) ?_
  refine W.seq' ?_
  refine W.region rfl ?_
  refine WL.box (v := (Value.agg #[(Value.string a.key), (Value.int .i64 a.start), (Value.int .i64 a.fin)])) (c := #[(Value.string a.key), (Value.int .i64 a.start), (Value.int .i64 a.fin)]) M rfl rfl rfl (fun b1 w2 hb1 M => ?_)
  refine WL.box (v := (Value.agg #[(Value.string b.key), (Value.int .i64 b.start), (Value.int .i64 b.fin)])) (c := #[(Value.string b.key), (Value.int .i64 b.start), (Value.int .i64 b.fin)]) M rfl rfl rfl (fun b3 w4 hb3 M => ?_)
  refine WL.step (v := (Value.int .i64 0)) rfl (Step.assign rfl) ?_
  refine WL.nil ?_
  refine W.seq' ?_
  refine W.seq' ?_
  refine W.region rfl ?_
  refine WL.step (v := (Value.pointer (some ⟨b1, 0, none⟩))) rfl (Step.pure (by kernel_rfl)) ?_
  refine WL.step (v := (Value.string a.key)) rfl (Step.load1 Try.sc9 rfl ((M.cell 1 rfl 0).trans rfl)) ?_
  refine WL.step (v := (Value.pointer (some ⟨b3, 0, none⟩))) rfl (Step.pure (by kernel_rfl)) ?_
  refine WL.step (v := (Value.string b.key)) rfl (Step.load1 Try.sc9 rfl ((M.cell 0 rfl 0).trans rfl)) ?_
  refine WL.step (v := (Value.bool (!(a.key.toList == b.key.toList)))) rfl (Step.pure (by kernel_rfl)) ?_
  refine WL.nil ?_
  refine W.cond (t := !(a.key.toList == b.key.toList)) rfl (fun h5 => ?_) (fun h5 => ?_)
  ·
    refine W.seq' ?_
    refine W.region rfl ?_
    refine WL.step (v := (Value.pointer (some ⟨b1, 0, none⟩))) rfl (Step.pure (by kernel_rfl)) ?_
    refine WL.step (v := (Value.string a.key)) rfl (Step.load1 Try.sc9 rfl ((M.cell 1 rfl 0).trans rfl)) ?_
    refine WL.step (v := (Value.pointer (some ⟨b3, 0, none⟩))) rfl (Step.pure (by kernel_rfl)) ?_
    refine WL.step (v := (Value.string b.key)) rfl (Step.load1 Try.sc9 rfl ((M.cell 0 rfl 0).trans rfl)) ?_
    refine WL.step (v := (Value.bool (sLt a.key b.key))) rfl (Step.pure (by kernel_rfl)) ?_
    refine WL.callX rfl (ref5_order (sLt a.key b.key) true (M.enterW0 trivial)) (CallsF.func Try.en114 rfl) ?_
    rintro _ w6 ⟨rfl, m⟩
    replace M := M.leaveW0 m
    clear m
    replace M : Mem _ _ _ [blk b3 (.cells #[(Value.string b.key), (Value.int .i64 b.start), (Value.int .i64 b.fin)] 118), blk b1 (.cells #[(Value.string a.key), (Value.int .i64 a.start), (Value.int .i64 a.fin)] 118)] [] _ := M
    refine WL.step (v := (Value.int .i64 (orderI (sLt a.key b.key) true))) rfl (Step.assign rfl) ?_
    refine WL.nil ?_
    refine W.ret ?_
    refine ⟨.inl rfl, (Value.int .i64 (orderI (sLt a.key b.key) true)), ?_, ?_⟩
    · exact ⟨rfl, (Res.r1 (show RV _ _ _ (.tmp 4) (Value.int .i64 (orderI (sLt a.key b.key) true)) from by exact rfl))⟩
    refine ⟨?_, M.close [] rfl (by decide) trivial⟩
    refine congrArg (Value.int .i64) ?_
    exact primV_key h5
  ·
    refine W.skip ?_
    refine W.seq' ?_
    refine W.seq' ?_
    refine W.region rfl ?_
    refine WL.step (v := (Value.pointer (some ⟨b1, 2, none⟩))) rfl (Step.pure (by kernel_rfl)) ?_
    refine WL.step (v := (Value.int .i64 a.fin)) rfl (Step.load1 Try.sc2 rfl ((M.cell 1 rfl 2).trans rfl)) ?_
    refine WL.step (v := (Value.pointer (some ⟨b3, 2, none⟩))) rfl (Step.pure (by kernel_rfl)) ?_
    refine WL.step (v := (Value.int .i64 b.fin)) rfl (Step.load1 Try.sc2 rfl ((M.cell 0 rfl 2).trans rfl)) ?_
    refine WL.step (v := (Value.bool ((a.fin : Int) != (b.fin : Int)))) rfl (Step.pure (by kernel_rfl)) ?_
    refine WL.nil ?_
    refine W.cond (t := (a.fin : Int) != (b.fin : Int)) rfl (fun h7 => ?_) (fun h7 => ?_)
    ·
      have h7p : ¬ (a.fin : Int) = (b.fin : Int) := by simpa using h7
      refine W.seq' ?_
      refine W.region rfl ?_
      refine WL.step (v := (Value.pointer (some ⟨b1, 2, none⟩))) rfl (Step.pure (by kernel_rfl)) ?_
      refine WL.step (v := (Value.int .i64 a.fin)) rfl (Step.load1 Try.sc2 rfl ((M.cell 1 rfl 2).trans rfl)) ?_
      refine WL.step (v := (Value.pointer (some ⟨b3, 2, none⟩))) rfl (Step.pure (by kernel_rfl)) ?_
      refine WL.step (v := (Value.int .i64 b.fin)) rfl (Step.load1 Try.sc2 rfl ((M.cell 0 rfl 2).trans rfl)) ?_
      refine WL.step (v := (Value.bool (decide ((a.fin : Int) < (b.fin : Int))))) rfl (Step.pure (by kernel_rfl)) ?_
      refine WL.callX rfl (ref5_order (decide ((a.fin : Int) < (b.fin : Int))) true (M.enterW0 trivial)) (CallsF.func Try.en114 rfl) ?_
      rintro _ w8 ⟨rfl, m⟩
      replace M := M.leaveW0 m
      clear m
      replace M : Mem _ _ _ [blk b3 (.cells #[(Value.string b.key), (Value.int .i64 b.start), (Value.int .i64 b.fin)] 118), blk b1 (.cells #[(Value.string a.key), (Value.int .i64 a.start), (Value.int .i64 a.fin)] 118)] [] _ := M
      refine WL.step (v := (Value.int .i64 (orderI (decide ((a.fin : Int) < (b.fin : Int))) true))) rfl (Step.assign rfl) ?_
      refine WL.nil ?_
      refine W.ret ?_
      refine ⟨.inl rfl, (Value.int .i64 (orderI (decide ((a.fin : Int) < (b.fin : Int))) true)), ?_, ?_⟩
      · exact ⟨rfl, (Res.r1 (show RV _ _ _ (.tmp 4) (Value.int .i64 (orderI (decide ((a.fin : Int) < (b.fin : Int))) true)) from by exact rfl))⟩
      refine ⟨?_, M.close [] rfl (by decide) trivial⟩
      refine congrArg (Value.int .i64) ?_
      exact primV_fin h5 h7p
    ·
      have h7p : (a.fin : Int) = (b.fin : Int) := by simpa using h7
      refine W.skip ?_
      refine W.seq' ?_
      refine W.region rfl ?_
      refine WL.step (v := (Value.pointer (some ⟨b1, 1, none⟩))) rfl (Step.pure (by kernel_rfl)) ?_
      refine WL.step (v := (Value.int .i64 a.start)) rfl (Step.load1 Try.sc2 rfl ((M.cell 1 rfl 1).trans rfl)) ?_
      refine WL.step (v := (Value.pointer (some ⟨b3, 1, none⟩))) rfl (Step.pure (by kernel_rfl)) ?_
      refine WL.step (v := (Value.int .i64 b.start)) rfl (Step.load1 Try.sc2 rfl ((M.cell 0 rfl 1).trans rfl)) ?_
      refine WL.step (v := (Value.bool (decide ((a.start : Int) < (b.start : Int))))) rfl (Step.pure (by kernel_rfl)) ?_
      refine WL.step (v := (Value.pointer (some ⟨b1, 1, none⟩))) rfl (Step.pure (by kernel_rfl)) ?_
      refine WL.step (v := (Value.int .i64 a.start)) rfl (Step.load1 Try.sc2 rfl ((M.cell 1 rfl 1).trans rfl)) ?_
      refine WL.step (v := (Value.pointer (some ⟨b3, 1, none⟩))) rfl (Step.pure (by kernel_rfl)) ?_
      refine WL.step (v := (Value.int .i64 b.start)) rfl (Step.load1 Try.sc2 rfl ((M.cell 0 rfl 1).trans rfl)) ?_
      refine WL.step (v := (Value.bool (decide ((a.start : Int) > (b.start : Int))))) rfl (Step.pure (by kernel_rfl)) ?_
      refine WL.callX rfl (ref5_order (decide ((a.start : Int) < (b.start : Int))) (decide ((a.start : Int) > (b.start : Int))) (M.enterW0 trivial)) (CallsF.func Try.en114 rfl) ?_
      rintro _ w9 ⟨rfl, m⟩
      replace M := M.leaveW0 m
      clear m
      replace M : Mem _ _ _ [blk b3 (.cells #[(Value.string b.key), (Value.int .i64 b.start), (Value.int .i64 b.fin)] 118), blk b1 (.cells #[(Value.string a.key), (Value.int .i64 a.start), (Value.int .i64 a.fin)] 118)] [] _ := M
      refine WL.step (v := (Value.int .i64 (orderI (decide ((a.start : Int) < (b.start : Int))) (decide ((a.start : Int) > (b.start : Int)))))) rfl (Step.assign rfl) ?_
      refine WL.nil ?_
      refine W.ret ?_
      refine ⟨.inl rfl, (Value.int .i64 (orderI (decide ((a.start : Int) < (b.start : Int))) (decide ((a.start : Int) > (b.start : Int))))), ?_, ?_⟩
      · exact ⟨rfl, (Res.r1 (show RV _ _ _ (.tmp 4) (Value.int .i64 (orderI (decide ((a.start : Int) < (b.start : Int))) (decide ((a.start : Int) > (b.start : Int))))) from by exact rfl))⟩
      refine ⟨?_, M.close [] rfl (by decide) trivial⟩
      refine congrArg (Value.int .i64) ?_
      exact primV_start h5 h7p

theorem ref5_seco {G : Nat → Prop} {w : World} (a : Pane5) (b : Pane5)   (M : Mem G (fun _ => False) w [] [] w) : Rets Try.prog 68 #[(Value.agg #[(Value.string a.key), (Value.int .i64 a.start), (Value.int .i64 a.fin)]), (Value.agg #[(Value.string b.key), (Value.int .i64 b.start), (Value.int .i64 b.fin)])] w fun r w' => r = (Value.int .i64 (secoV a b)) ∧ Mem G (fun _ => False) w [] [] w' := by
  refine Rets.enter 19 _ Try.func68 rfl Try.ntmps68 Try.results68 (by simp) ?_
  refine W.seq' ?_
  refine W.region rfl ?_
  refine WL.box (v := (Value.agg #[(Value.string a.key), (Value.int .i64 a.start), (Value.int .i64 a.fin)])) (c := #[(Value.string a.key), (Value.int .i64 a.start), (Value.int .i64 a.fin)]) M rfl rfl rfl (fun b1 w2 hb1 M => ?_)
  refine WL.box (v := (Value.agg #[(Value.string b.key), (Value.int .i64 b.start), (Value.int .i64 b.fin)])) (c := #[(Value.string b.key), (Value.int .i64 b.start), (Value.int .i64 b.fin)]) M rfl rfl rfl (fun b3 w4 hb3 M => ?_)
  refine WL.step (v := (Value.int .i64 0)) rfl (Step.assign rfl) ?_
  refine WL.nil ?_
  refine W.seq' ?_
  refine W.seq' ?_
  refine W.region rfl ?_
  refine WL.step (v := (Value.pointer (some ⟨b1, 2, none⟩))) rfl (Step.pure (by kernel_rfl)) ?_
  refine WL.step (v := (Value.int .i64 a.fin)) rfl (Step.load1 Try.sc2 rfl ((M.cell 1 rfl 2).trans rfl)) ?_
  refine WL.step (v := (Value.pointer (some ⟨b3, 2, none⟩))) rfl (Step.pure (by kernel_rfl)) ?_
  refine WL.step (v := (Value.int .i64 b.fin)) rfl (Step.load1 Try.sc2 rfl ((M.cell 0 rfl 2).trans rfl)) ?_
  refine WL.step (v := (Value.bool ((a.fin : Int) != (b.fin : Int)))) rfl (Step.pure (by kernel_rfl)) ?_
  refine WL.nil ?_
  refine W.cond (t := (a.fin : Int) != (b.fin : Int)) rfl (fun h5 => ?_) (fun h5 => ?_)
  ·
    have h5p : ¬ (a.fin : Int) = (b.fin : Int) := by simpa using h5
    refine W.seq' ?_
    refine W.region rfl ?_
    refine WL.step (v := (Value.pointer (some ⟨b1, 2, none⟩))) rfl (Step.pure (by kernel_rfl)) ?_
    refine WL.step (v := (Value.int .i64 a.fin)) rfl (Step.load1 Try.sc2 rfl ((M.cell 1 rfl 2).trans rfl)) ?_
    refine WL.step (v := (Value.pointer (some ⟨b3, 2, none⟩))) rfl (Step.pure (by kernel_rfl)) ?_
    refine WL.step (v := (Value.int .i64 b.fin)) rfl (Step.load1 Try.sc2 rfl ((M.cell 0 rfl 2).trans rfl)) ?_
    refine WL.step (v := (Value.bool (decide ((a.fin : Int) < (b.fin : Int))))) rfl (Step.pure (by kernel_rfl)) ?_
    refine WL.callX rfl (ref5_order (decide ((a.fin : Int) < (b.fin : Int))) true (M.enterW0 trivial)) (CallsF.func Try.en114 rfl) ?_
    rintro _ w6 ⟨rfl, m⟩
    replace M := M.leaveW0 m
    clear m
    replace M : Mem _ _ _ [blk b3 (.cells #[(Value.string b.key), (Value.int .i64 b.start), (Value.int .i64 b.fin)] 118), blk b1 (.cells #[(Value.string a.key), (Value.int .i64 a.start), (Value.int .i64 a.fin)] 118)] [] _ := M
    refine WL.step (v := (Value.int .i64 (orderI (decide ((a.fin : Int) < (b.fin : Int))) true))) rfl (Step.assign rfl) ?_
    refine WL.nil ?_
    refine W.ret ?_
    refine ⟨.inl rfl, (Value.int .i64 (orderI (decide ((a.fin : Int) < (b.fin : Int))) true)), ?_, ?_⟩
    · exact ⟨rfl, (Res.r1 (show RV _ _ _ (.tmp 4) (Value.int .i64 (orderI (decide ((a.fin : Int) < (b.fin : Int))) true)) from by exact rfl))⟩
    refine ⟨?_, M.close [] rfl (by decide) trivial⟩
    exact congrArg (Value.int .i64) (secoV_fin h5p)
  ·
    have h5p : (a.fin : Int) = (b.fin : Int) := by simpa using h5
    refine W.skip ?_
    refine W.seq' ?_
    refine W.region rfl ?_
    refine WL.step (v := (Value.agg #[(Value.string a.key), (Value.int .i64 a.start), (Value.int .i64 a.fin)])) rfl (Step.loadN Try.ag118 rfl (M.blk 1 rfl) (Nat.le_of_ble_eq_true rfl) rfl) ?_
    refine WL.step (v := (Value.agg #[(Value.string b.key), (Value.int .i64 b.start), (Value.int .i64 b.fin)])) rfl (Step.loadN Try.ag118 rfl (M.blk 0 rfl) (Nat.le_of_ble_eq_true rfl) rfl) ?_
    refine WL.callX rfl (ref5_prim a b (M.enterW0 trivial)) (CallsF.func Try.en65 rfl) ?_
    rintro _ w7 ⟨rfl, m⟩
    replace M := M.leaveW0 m
    clear m
    replace M : Mem _ _ _ [blk b3 (.cells #[(Value.string b.key), (Value.int .i64 b.start), (Value.int .i64 b.fin)] 118), blk b1 (.cells #[(Value.string a.key), (Value.int .i64 a.start), (Value.int .i64 a.fin)] 118)] [] _ := M
    refine WL.step (v := (Value.int .i64 (primV a b))) rfl (Step.assign rfl) ?_
    refine WL.nil ?_
    refine W.ret ?_
    refine ⟨.inl rfl, (Value.int .i64 (primV a b)), ?_, ?_⟩
    · exact ⟨rfl, (Res.r1 (show RV _ _ _ (.tmp 4) (Value.int .i64 (primV a b)) from by exact rfl))⟩
    refine ⟨?_, M.close [] rfl (by decide) trivial⟩
    exact congrArg (Value.int .i64) (secoV_eq h5p)

theorem nan_str {G : Nat → Prop} {w : World} (x : ByteArray)   (M : Mem G (fun _ => False) w [] [] w) : Rets Try.prog 132 #[(Value.string x)] w fun r w' => r = (Value.bool false) ∧ Mem G (fun _ => False) w [] [] w' := by
  refine Rets.enter 6 _ Try.func132 rfl Try.ntmps132 Try.results132 (by simp) ?_
  refine W.seq' ?_
  refine W.region rfl ?_
  refine WL.step (v := (Value.bool false)) rfl (Step.assign rfl) ?_
  refine WL.nil ?_
  refine W.seq' ?_
  refine W.region rfl ?_
  refine WL.step (v := (Value.string x)) rfl (Step.move rfl) ?_
  refine WL.step (v := (Value.string x)) rfl (Step.move rfl) ?_
  refine WL.step (v := (Value.bool (!(x.toList == x.toList)))) rfl (Step.pure (by kernel_rfl)) ?_
  refine WL.step (v := (Value.bool (!(x.toList == x.toList)))) rfl (Step.assign rfl) ?_
  refine WL.nil ?_
  refine W.ret ?_
  refine ⟨.inl rfl, (Value.bool (!(x.toList == x.toList))), ?_, ?_⟩
  · exact ⟨rfl, (Res.r1 (show RV _ _ _ (.tmp 2) (Value.bool (!(x.toList == x.toList))) from by exact rfl))⟩
  refine ⟨?_, M.close [] rfl (by decide) trivial⟩
  simp

theorem nan_i64 {G : Nat → Prop} {w : World} (x : Int)   (M : Mem G (fun _ => False) w [] [] w) : Rets Try.prog 133 #[(Value.int .i64 x)] w fun r w' => r = (Value.bool false) ∧ Mem G (fun _ => False) w [] [] w' := by
  refine Rets.enter 6 _ Try.func133 rfl Try.ntmps133 Try.results133 (by simp) ?_
  refine W.seq' ?_
  refine W.region rfl ?_
  refine WL.step (v := (Value.bool false)) rfl (Step.assign rfl) ?_
  refine WL.nil ?_
  refine W.seq' ?_
  refine W.region rfl ?_
  refine WL.step (v := (Value.int .i64 x)) rfl (Step.move rfl) ?_
  refine WL.step (v := (Value.int .i64 x)) rfl (Step.move rfl) ?_
  refine WL.step (v := (Value.bool false)) rfl (Step.cast (congrArg Value.bool (show ((x : Int) != (x : Int)) = false by simp)) (Step.pure (by kernel_rfl))) ?_
  refine WL.step (v := (Value.bool false)) rfl (Step.assign rfl) ?_
  refine WL.nil ?_
  refine W.ret ?_
  refine ⟨.inl rfl, (Value.bool false), ?_, ?_⟩
  · exact ⟨rfl, (Res.r1 (show RV _ _ _ (.tmp 2) (Value.bool false) from by exact rfl))⟩
  refine ⟨?_, M.close [] rfl (by decide) trivial⟩
  rfl

theorem comp_str {G : Nat → Prop} {w : World} (x : ByteArray) (y : ByteArray)   (M : Mem G (fun _ => False) w [] [] w) : Rets Try.prog 112 #[(Value.string x), (Value.string y)] w fun r w' => r = (Value.int .i64 (cmpS x y)) ∧ Mem G (fun _ => False) w [] [] w' := by
  refine Rets.enter 20 _ Try.func112 rfl Try.ntmps112 Try.results112 (by simp) ?_
  refine W.seq' ?_
  refine W.region rfl ?_
  refine WL.step (v := (Value.int .i64 0)) rfl (Step.assign rfl) ?_
  refine WL.nil ?_
  refine W.seq' ?_
  refine W.region rfl ?_
  refine WL.step (v := (Value.string x)) rfl (Step.move rfl) ?_
  refine WL.callX rfl (nan_str x (M.enterW0 trivial)) (CallsF.func Try.en132 rfl) ?_
  rintro _ w1 ⟨rfl, m⟩
  replace M := M.leaveW0 m
  clear m
  replace M : Mem _ _ _ [] [] _ := M
  refine WL.step (v := (Value.bool false)) rfl (Step.assign rfl) ?_
  refine WL.nil ?_
  refine W.seq' ?_
  refine W.region rfl ?_
  refine WL.step (v := (Value.string y)) rfl (Step.move rfl) ?_
  refine WL.callX rfl (nan_str y (M.enterW0 trivial)) (CallsF.func Try.en132 rfl) ?_
  rintro _ w2 ⟨rfl, m⟩
  replace M := M.leaveW0 m
  clear m
  replace M : Mem _ _ _ [] [] _ := M
  refine WL.step (v := (Value.bool false)) rfl (Step.assign rfl) ?_
  refine WL.nil ?_
  refine W.seq' ?_
  refine W.seq' ?_
  refine W.region rfl ?_
  refine WL.step (v := (Value.bool false)) rfl (Step.move rfl) ?_
  refine WL.nil ?_
  refine W.cond (t := false) rfl (fun h => by cases h) (fun _ => ?_)
  refine W.skip ?_
  refine W.seq' ?_
  refine W.seq' ?_
  refine W.region rfl ?_
  refine WL.step (v := (Value.bool false)) rfl (Step.move rfl) ?_
  refine WL.nil ?_
  refine W.cond (t := false) rfl (fun h => by cases h) (fun _ => ?_)
  refine W.skip ?_
  refine W.seq' ?_
  refine W.seq' ?_
  refine W.region rfl ?_
  refine WL.step (v := (Value.string x)) rfl (Step.move rfl) ?_
  refine WL.step (v := (Value.string y)) rfl (Step.move rfl) ?_
  refine WL.step (v := (Value.bool (sLt x y))) rfl (Step.pure (by kernel_rfl)) ?_
  refine WL.nil ?_
  refine W.cond (t := sLt x y) rfl (fun h3 => ?_) (fun h3 => ?_)
  ·
    refine W.seq' ?_
    refine W.region rfl ?_
    refine WL.step (v := (Value.int .i64 (-1))) rfl (Step.assign rfl) ?_
    refine WL.nil ?_
    refine W.ret ?_
    refine ⟨.inl rfl, (Value.int .i64 (-1)), ?_, ?_⟩
    · exact ⟨rfl, (Res.r1 (show RV _ _ _ (.tmp 4) (Value.int .i64 (-1)) from by exact rfl))⟩
    refine ⟨?_, M.close [] rfl (by decide) trivial⟩
    first | (simp [cmpS, h3]; done) | simp_all [cmpS, sEq_dec]
  ·
    refine W.skip ?_
    refine W.seq' ?_
    refine W.seq' ?_
    refine W.region rfl ?_
    refine WL.step (v := (Value.string x)) rfl (Step.move rfl) ?_
    refine WL.step (v := (Value.string y)) rfl (Step.move rfl) ?_
    refine WL.step (v := (Value.bool (!(sLt x y || x.toList == y.toList)))) rfl (Step.pure (by kernel_rfl)) ?_
    refine WL.nil ?_
    refine W.cond (t := !(sLt x y || x.toList == y.toList)) rfl (fun h4 => ?_) (fun h4 => ?_)
    ·
      refine W.seq' ?_
      refine W.region rfl ?_
      refine WL.step (v := (Value.int .i64 1)) rfl (Step.assign rfl) ?_
      refine WL.nil ?_
      refine W.ret ?_
      refine ⟨.inl rfl, (Value.int .i64 1), ?_, ?_⟩
      · exact ⟨rfl, (Res.r1 (show RV _ _ _ (.tmp 4) (Value.int .i64 1) from by exact rfl))⟩
      refine ⟨?_, M.close [] rfl (by decide) trivial⟩
      first | (simp [cmpS, h3, h4]; done) | simp_all [cmpS, sEq_dec]
    ·
      refine W.skip ?_
      refine W.seq' ?_
      refine W.region rfl ?_
      refine WL.step (v := (Value.int .i64 0)) rfl (Step.assign rfl) ?_
      refine WL.nil ?_
      refine W.ret ?_
      refine ⟨.inl rfl, (Value.int .i64 0), ?_, ?_⟩
      · exact ⟨rfl, (Res.r1 (show RV _ _ _ (.tmp 4) (Value.int .i64 0) from by exact rfl))⟩
      refine ⟨?_, M.close [] rfl (by decide) trivial⟩
      first | (simp [cmpS, h3, h4]; done) | simp_all [cmpS, sEq_dec]

theorem comp_i64 {G : Nat → Prop} {w : World} (x : Int) (y : Int)   (M : Mem G (fun _ => False) w [] [] w) : Rets Try.prog 113 #[(Value.int .i64 x), (Value.int .i64 y)] w fun r w' => r = (Value.int .i64 (cmpI x y)) ∧ Mem G (fun _ => False) w [] [] w' := by
  refine Rets.enter 20 _ Try.func113 rfl Try.ntmps113 Try.results113 (by simp) ?_
  refine W.seq' ?_
  refine W.region rfl ?_
  refine WL.step (v := (Value.int .i64 0)) rfl (Step.assign rfl) ?_
  refine WL.nil ?_
  refine W.seq' ?_
  refine W.region rfl ?_
  refine WL.step (v := (Value.int .i64 x)) rfl (Step.move rfl) ?_
  refine WL.callX rfl (nan_i64 x (M.enterW0 trivial)) (CallsF.func Try.en133 rfl) ?_
  rintro _ w1 ⟨rfl, m⟩
  replace M := M.leaveW0 m
  clear m
  replace M : Mem _ _ _ [] [] _ := M
  refine WL.step (v := (Value.bool false)) rfl (Step.assign rfl) ?_
  refine WL.nil ?_
  refine W.seq' ?_
  refine W.region rfl ?_
  refine WL.step (v := (Value.int .i64 y)) rfl (Step.move rfl) ?_
  refine WL.callX rfl (nan_i64 y (M.enterW0 trivial)) (CallsF.func Try.en133 rfl) ?_
  rintro _ w2 ⟨rfl, m⟩
  replace M := M.leaveW0 m
  clear m
  replace M : Mem _ _ _ [] [] _ := M
  refine WL.step (v := (Value.bool false)) rfl (Step.assign rfl) ?_
  refine WL.nil ?_
  refine W.seq' ?_
  refine W.seq' ?_
  refine W.region rfl ?_
  refine WL.step (v := (Value.bool false)) rfl (Step.move rfl) ?_
  refine WL.nil ?_
  refine W.cond (t := false) rfl (fun h => by cases h) (fun _ => ?_)
  refine W.skip ?_
  refine W.seq' ?_
  refine W.seq' ?_
  refine W.region rfl ?_
  refine WL.step (v := (Value.bool false)) rfl (Step.move rfl) ?_
  refine WL.nil ?_
  refine W.cond (t := false) rfl (fun h => by cases h) (fun _ => ?_)
  refine W.skip ?_
  refine W.seq' ?_
  refine W.seq' ?_
  refine W.region rfl ?_
  refine WL.step (v := (Value.int .i64 x)) rfl (Step.move rfl) ?_
  refine WL.step (v := (Value.int .i64 y)) rfl (Step.move rfl) ?_
  refine WL.step (v := (Value.bool (decide ((x : Int) < (y : Int))))) rfl (Step.pure (by kernel_rfl)) ?_
  refine WL.nil ?_
  refine W.cond (t := decide ((x : Int) < (y : Int))) rfl (fun h3 => ?_) (fun h3 => ?_)
  ·
    have h3p := of_decide_eq_true h3
    refine W.seq' ?_
    refine W.region rfl ?_
    refine WL.step (v := (Value.int .i64 (-1))) rfl (Step.assign rfl) ?_
    refine WL.nil ?_
    refine W.ret ?_
    refine ⟨.inl rfl, (Value.int .i64 (-1)), ?_, ?_⟩
    · exact ⟨rfl, (Res.r1 (show RV _ _ _ (.tmp 4) (Value.int .i64 (-1)) from by exact rfl))⟩
    refine ⟨?_, M.close [] rfl (by decide) trivial⟩
    simp [cmpI, h3p]; try omega
  ·
    have h3p := of_decide_eq_false h3
    refine W.skip ?_
    refine W.seq' ?_
    refine W.seq' ?_
    refine W.region rfl ?_
    refine WL.step (v := (Value.int .i64 x)) rfl (Step.move rfl) ?_
    refine WL.step (v := (Value.int .i64 y)) rfl (Step.move rfl) ?_
    refine WL.step (v := (Value.bool (decide ((x : Int) > (y : Int))))) rfl (Step.pure (by kernel_rfl)) ?_
    refine WL.nil ?_
    refine W.cond (t := decide ((x : Int) > (y : Int))) rfl (fun h4 => ?_) (fun h4 => ?_)
    ·
      have h4p := of_decide_eq_true h4
      refine W.seq' ?_
      refine W.region rfl ?_
      refine WL.step (v := (Value.int .i64 1)) rfl (Step.assign rfl) ?_
      refine WL.nil ?_
      refine W.ret ?_
      refine ⟨.inl rfl, (Value.int .i64 1), ?_, ?_⟩
      · exact ⟨rfl, (Res.r1 (show RV _ _ _ (.tmp 4) (Value.int .i64 1) from by exact rfl))⟩
      refine ⟨?_, M.close [] rfl (by decide) trivial⟩
      simp [cmpI, h3p, h4p]; try omega
    ·
      have h4p := of_decide_eq_false h4
      refine W.skip ?_
      refine W.seq' ?_
      refine W.region rfl ?_
      refine WL.step (v := (Value.int .i64 0)) rfl (Step.assign rfl) ?_
      refine WL.nil ?_
      refine W.ret ?_
      refine ⟨.inl rfl, (Value.int .i64 0), ?_, ?_⟩
      · exact ⟨rfl, (Res.r1 (show RV _ _ _ (.tmp 4) (Value.int .i64 0) from by exact rfl))⟩
      refine ⟨?_, M.close [] rfl (by decide) trivial⟩
      simp [cmpI, h3p, h4p]; try omega

theorem or_int {G : Nat → Prop} {w : World} (v : Value) (l : List Int)   (M : Mem G (fun _ => False) w [] [SlAt 1 v l.length (l.flatMap intE)] w) : Rets Try.prog 111 #[v] w fun r w' => r = (Value.int .i64 (orL l)) ∧ Mem G (fun _ => False) w [] [] w' := by
  refine Rets.enter 18 _ Try.func111 rfl Try.ntmps111 Try.results111 (by simp) ?_
  have hle1 := SlAt.le' (M.rep 0 rfl)
  have sl2 : IsSl v := SlAt.isSl (Mem.rep M 0 rfl)
  refine W.seq' ?_
  refine W.region rfl ?_
  refine WL.step (v := (Value.int .i64 0)) rfl (Step.assign rfl) ?_
  refine WL.nil ?_
  refine W.seq' ?_
  refine W.region rfl ?_
  refine WL.step (v := (Value.int .i64 0)) rfl (Step.assign rfl) ?_
  refine WL.nil ?_
  refine W.seq' ?_
  refine W.seq' ?_
  refine W.region rfl ?_
  refine WL.step (v := v) rfl (Step.move rfl) ?_
  refine WL.step (v := (Value.int .i64 ↑l.length)) rfl (Step.lenSl Try.un195 rfl (M.rep 0 rfl)) ?_
  refine WL.step (v := (Value.int .i64 0)) rfl (Step.move rfl) ?_
  refine WL.nil ?_
  refine W.block ?_
  refine W.loop (fun kk ρ w' => ∃ (i_ : Nat), ((i_ ≤ l.length) ∧ (∀ j u, j < i_ → l[j]? = some u → u = 0) ∧ kk = l.length - i_) ∧ ρ.has [(3, (Value.int .i64 0)), (6, v), (7, (Value.int .i64 ↑l.length)), (8, (Value.int .i64 ↑i_))] ∧ Mem G (fun _ => False) w [] [SlAt 1 v l.length (l.flatMap intE)]  w') _ ⟨0, ⟨(Nat.zero_le _), (fun _ _ h => absurd h (Nat.not_lt_zero _)), rfl⟩, ⟨rfl, rfl, rfl, rfl, rfl, rfl⟩, M⟩ ?_
  rintro _ ρ4 w3 ⟨i_, ⟨hi5, hi6, rfl⟩, hρ, M⟩
  obtain ⟨ρ4, rfl⟩ := hρ.know
  clear hρ
  refine W.seq' ?_
  refine W.region rfl ?_
  refine WL.step (v := (Value.bool (decide ((↑i_ : Int) < (↑l.length : Int))))) rfl (Step.pure (by kernel_rfl)) ?_
  refine WL.nil ?_
  refine W.seq' ?_
  refine W.cond (t := decide ((↑i_ : Int) < (↑l.length : Int))) rfl (fun h7 => ?_) (fun h7 => ?_)
  ·
    have h7p := of_decide_eq_true h7
    refine W.skip ?_
    refine W.seq' ?_
    refine W.block ?_
    refine W.seq' ?_
    refine W.region rfl ?_
    obtain ⟨cap9, hb8⟩ := SlAt.base (M.rep 0 rfl) (by omega)
    obtain ⟨x10, hx10⟩ := elem_of_lt (xs := l) (i := i_) (by omega)
    refine WL.step (v := (Value.pointer (some ⟨(sBlk v), sOff v + i_ * 1, none⟩))) rfl (Step.indexAddr (i := i_) (Try.un195).run Try.el3.sized rfl rfl (by omega) hb8 (by omega)) ?_
    refine WL.step (v := (Value.int .i64 x10)) rfl (Step.loadE (k := 0) Try.sc3 (flat_ec (M.rep 0 rfl) hx10 intE_len) (by decide) rfl rfl) ?_
    refine WL.step (v := (Value.int .i64 x10)) rfl (Step.assign rfl) ?_
    refine WL.nil ?_
    refine W.seq' ?_
    refine W.region rfl ?_
    refine WL.step (v := (Value.int .i64 x10)) rfl (Step.move rfl) ?_
    refine WL.step (v := (Value.int .i64 0)) rfl (Step.move rfl) ?_
    refine WL.step (v := (Value.bool ((x10 : Int) != (0 : Int)))) rfl (Step.pure (by kernel_rfl)) ?_
    refine WL.nil ?_
    refine W.cond (t := (x10 : Int) != (0 : Int)) rfl (fun h11 => ?_) (fun h11 => ?_)
    ·
      have h11p : ¬ (x10 : Int) = (0 : Int) := by simpa using h11
      refine W.seq' ?_
      refine W.region rfl ?_
      refine WL.step (v := (Value.int .i64 x10)) rfl (Step.move rfl) ?_
      refine WL.step (v := (Value.int .i64 x10)) rfl (Step.assign rfl) ?_
      refine WL.nil ?_
      refine W.ret ?_
      refine ⟨.inl rfl, (Value.int .i64 x10), ?_, ?_⟩
      · exact ⟨rfl, (Res.r1 (show RV _ _ _ (.tmp 2) (Value.int .i64 x10) from by exact rfl))⟩
      refine ⟨?_, M.close [] rfl (by decide) trivial⟩
      refine congrArg (Value.int .i64) ?_
      exact (orL_hit hx10 h11p hi6).symm
    ·
      have h11p : (x10 : Int) = (0 : Int) := by simpa using h11
      refine W.skip ?_
      refine W.region rfl ?_
      refine WL.step (v := (Value.int .i64 (↑i_ + 1))) rfl (Step.add rfl rfl (wrap_i64 (by omega))) ?_
      refine WL.step (v := (Value.int .i64 (↑i_ + 1))) rfl (Step.move rfl) ?_
      refine WL.nil ?_
      exact ⟨_, (by omega), i_ + 1, ⟨(by omega), (orL_step hi6 hx10 h11p), rfl⟩, ⟨rfl, rfl, rfl, rfl, rfl, rfl⟩, M⟩
  ·
    have h7p := of_decide_eq_false h7
    refine W.exit ?_
    refine thn_exit ?_
    refine thn_exit ?_
    refine inBlk_hit ?_
    refine W.seq' ?_
    refine W.region rfl ?_
    refine WL.step (v := (Value.int .i64 0)) rfl (Step.move rfl) ?_
    refine WL.step (v := (Value.int .i64 0)) rfl (Step.assign rfl) ?_
    refine WL.nil ?_
    refine W.ret ?_
    refine ⟨.inl rfl, (Value.int .i64 0), ?_, ?_⟩
    · exact ⟨rfl, (Res.r1 (show RV _ _ _ (.tmp 2) (Value.int .i64 0) from by exact rfl))⟩
    refine ⟨?_, M.close [] rfl (by decide) trivial⟩
    refine congrArg (Value.int .i64) ?_
    exact (orL_none hi6 (by omega)).symm

theorem agg_prim {G : Nat → Prop} {w : World} (a : Pane5) (b : Pane5)   (M : Mem G (fun _ => False) w [] [] w) : Rets Try.prog 64 #[(Value.agg #[(Value.string a.key), (Value.int .i64 a.start), (Value.int .i64 a.fin)]), (Value.agg #[(Value.string b.key), (Value.int .i64 b.start), (Value.int .i64 b.fin)])] w fun r w' => r = (Value.int .i64 (primV a b)) ∧ Mem G (fun _ => False) w [] [] w' := by
  refine Rets.enter 22 _ Try.func64 rfl Try.ntmps64 Try.results64 (by simp) ?_
  refine W.seq' ?_
  refine W.region rfl ?_
  refine WL.box (v := (Value.agg #[(Value.string a.key), (Value.int .i64 a.start), (Value.int .i64 a.fin)])) (c := #[(Value.string a.key), (Value.int .i64 a.start), (Value.int .i64 a.fin)]) M rfl rfl rfl (fun b1 w2 hb1 M => ?_)
  refine WL.box (v := (Value.agg #[(Value.string b.key), (Value.int .i64 b.start), (Value.int .i64 b.fin)])) (c := #[(Value.string b.key), (Value.int .i64 b.start), (Value.int .i64 b.fin)]) M rfl rfl rfl (fun b3 w4 hb3 M => ?_)
  refine WL.step (v := (Value.int .i64 0)) rfl (Step.assign rfl) ?_
  refine WL.nil ?_
  refine W.seq' ?_
  refine W.drawn M [0, 1, 2, 3, 4, 5, 6, 7, 8, 9, 10, 11, 12, 13, 14, 15, 16, 17] [4, 9, 14, 16] [15] [blk b3 (.cells #[(Value.string b.key), (Value.int .i64 b.start), (Value.int .i64 b.fin)] 113), blk b1 (.cells #[(Value.string a.key), (Value.int .i64 a.start), (Value.int .i64 a.fin)] 113)] [] (List.Sublist.cons_cons _ (List.Sublist.cons_cons _ List.Sublist.slnil)) (fun _ h => h) Try.mixed (by kernel_rfl) ?_
  refine TW.pure (v := (Value.pointer (some ⟨b1, 0, none⟩))) rfl (by decide) (by decide) rfl (fun w => (Step.pure (by kernel_rfl))) ?_
  refine TW.read (v := (Value.string a.key)) rfl (by decide) (by decide) rfl (fun A w M => (Step.load1 Try.sc9 rfl ((M.cell 2 rfl 0).trans rfl))) ?_
  refine TW.pure (v := (Value.pointer (some ⟨b3, 0, none⟩))) rfl (by decide) (by decide) rfl (fun w => (Step.pure (by kernel_rfl))) ?_
  refine TW.read (v := (Value.string b.key)) rfl (by decide) (by decide) rfl (fun A w M => (Step.load1 Try.sc9 rfl ((M.cell 1 rfl 0).trans rfl))) ?_
  refine TW.callX (ι := Unit) (fun jx v_ => v_ = (Value.int .i64 (cmpS a.key b.key))) (fun jx => [blk b3 (.cells #[(Value.string b.key), (Value.int .i64 b.start), (Value.int .i64 b.fin)] 113), blk b1 (.cells #[(Value.string a.key), (Value.int .i64 a.start), (Value.int .i64 a.fin)] 113)]) (fun jx => []) rfl (by decide) rfl (fun jx => (List.Sublist.cons_cons _ (List.Sublist.cons_cons _ List.Sublist.slnil))) (fun jx r h => h) (fun A w M => Rets.mono (comp_str a.key b.key (M.enterW0 trivial)) (fun v_ w_ ⟨e_, m⟩ => ⟨(), e_, (M.leaveW0 m).sel (L' := [fl A, blk b3 (.cells #[(Value.string b.key), (Value.int .i64 b.start), (Value.int .i64 b.fin)] 113), blk b1 (.cells #[(Value.string a.key), (Value.int .i64 a.start), (Value.int .i64 a.fin)] 113)]) [0, 1, 2] rfl (by decide), fun b hb => M.keptW0 m (fl A) (List.mem_cons_self ..) b hb⟩)) (fun w => CallsF.func Try.en112 rfl) (fun jx v hp hin => ?_)
  replace hp := hp.symm; subst hp
  clear hin
  change TW _ _ _ _ _ _ _ _ (MemA _ _ _ [blk b3 (.cells #[(Value.string b.key), (Value.int .i64 b.start), (Value.int .i64 b.fin)] 113), blk b1 (.cells #[(Value.string a.key), (Value.int .i64 a.start), (Value.int .i64 a.fin)] 113)] [])
  refine TW.pure (v := (Value.pointer (some ⟨b1, 2, none⟩))) rfl (by decide) (by decide) rfl (fun w => (Step.pure (by kernel_rfl))) ?_
  refine TW.read (v := (Value.int .i64 a.fin)) rfl (by decide) (by decide) rfl (fun A w M => (Step.load1 Try.sc2 rfl ((M.cell 2 rfl 2).trans rfl))) ?_
  refine TW.pure (v := (Value.pointer (some ⟨b3, 2, none⟩))) rfl (by decide) (by decide) rfl (fun w => (Step.pure (by kernel_rfl))) ?_
  refine TW.read (v := (Value.int .i64 b.fin)) rfl (by decide) (by decide) rfl (fun A w M => (Step.load1 Try.sc2 rfl ((M.cell 1 rfl 2).trans rfl))) ?_
  refine TW.callX (ι := Unit) (fun jx v_ => v_ = (Value.int .i64 (cmpI a.fin b.fin))) (fun jx => [blk b3 (.cells #[(Value.string b.key), (Value.int .i64 b.start), (Value.int .i64 b.fin)] 113), blk b1 (.cells #[(Value.string a.key), (Value.int .i64 a.start), (Value.int .i64 a.fin)] 113)]) (fun jx => []) rfl (by decide) rfl (fun jx => (List.Sublist.cons_cons _ (List.Sublist.cons_cons _ List.Sublist.slnil))) (fun jx r h => h) (fun A w M => Rets.mono (comp_i64 a.fin b.fin (M.enterW0 trivial)) (fun v_ w_ ⟨e_, m⟩ => ⟨(), e_, (M.leaveW0 m).sel (L' := [fl A, blk b3 (.cells #[(Value.string b.key), (Value.int .i64 b.start), (Value.int .i64 b.fin)] 113), blk b1 (.cells #[(Value.string a.key), (Value.int .i64 a.start), (Value.int .i64 a.fin)] 113)]) [0, 1, 2] rfl (by decide), fun b hb => M.keptW0 m (fl A) (List.mem_cons_self ..) b hb⟩)) (fun w => CallsF.func Try.en113 rfl) (fun jx v hp hin => ?_)
  replace hp := hp.symm; subst hp
  clear hin
  change TW _ _ _ _ _ _ _ _ (MemA _ _ _ [blk b3 (.cells #[(Value.string b.key), (Value.int .i64 b.start), (Value.int .i64 b.fin)] 113), blk b1 (.cells #[(Value.string a.key), (Value.int .i64 a.start), (Value.int .i64 a.fin)] 113)] [])
  refine TW.pure (v := (Value.pointer (some ⟨b1, 1, none⟩))) rfl (by decide) (by decide) rfl (fun w => (Step.pure (by kernel_rfl))) ?_
  refine TW.read (v := (Value.int .i64 a.start)) rfl (by decide) (by decide) rfl (fun A w M => (Step.load1 Try.sc2 rfl ((M.cell 2 rfl 1).trans rfl))) ?_
  refine TW.pure (v := (Value.pointer (some ⟨b3, 1, none⟩))) rfl (by decide) (by decide) rfl (fun w => (Step.pure (by kernel_rfl))) ?_
  refine TW.read (v := (Value.int .i64 b.start)) rfl (by decide) (by decide) rfl (fun A w M => (Step.load1 Try.sc2 rfl ((M.cell 1 rfl 1).trans rfl))) ?_
  refine TW.callX (ι := Unit) (fun jx v_ => v_ = (Value.int .i64 (cmpI a.start b.start))) (fun jx => [blk b3 (.cells #[(Value.string b.key), (Value.int .i64 b.start), (Value.int .i64 b.fin)] 113), blk b1 (.cells #[(Value.string a.key), (Value.int .i64 a.start), (Value.int .i64 a.fin)] 113)]) (fun jx => []) rfl (by decide) rfl (fun jx => (List.Sublist.cons_cons _ (List.Sublist.cons_cons _ List.Sublist.slnil))) (fun jx r h => h) (fun A w M => Rets.mono (comp_i64 a.start b.start (M.enterW0 trivial)) (fun v_ w_ ⟨e_, m⟩ => ⟨(), e_, (M.leaveW0 m).sel (L' := [fl A, blk b3 (.cells #[(Value.string b.key), (Value.int .i64 b.start), (Value.int .i64 b.fin)] 113), blk b1 (.cells #[(Value.string a.key), (Value.int .i64 a.start), (Value.int .i64 a.fin)] 113)]) [0, 1, 2] rfl (by decide), fun b hb => M.keptW0 m (fl A) (List.mem_cons_self ..) b hb⟩)) (fun w => CallsF.func Try.en113 rfl) (fun jx v hp hin => ?_)
  replace hp := hp.symm; subst hp
  clear hin
  change TW _ _ _ _ _ _ _ _ (MemA _ _ _ [blk b3 (.cells #[(Value.string b.key), (Value.int .i64 b.start), (Value.int .i64 b.fin)] 113), blk b1 (.cells #[(Value.string a.key), (Value.int .i64 a.start), (Value.int .i64 a.fin)] 113)] [])
  refine TW.new (obj := .cells #[(Value.int .i64 (cmpS a.key b.key)), (Value.int .i64 (cmpI a.fin b.fin)), (Value.int .i64 (cmpI a.start b.start))] 3) (fun b => .slice (some ⟨b, 0, none⟩) 3 3) rfl (by decide) (by decide) rfl (fun w => Step.make (by kernel_rfl)) (fun b9 => ?_)
  refine TW.callX (ι := Unit) (fun jx v_ => v_ = (Value.int .i64 (orL ([(cmpS a.key b.key), (cmpI a.fin b.fin), (cmpI a.start b.start)] : List Int)))) (fun jx => [blk b9 (.cells #[(Value.int .i64 (cmpS a.key b.key)), (Value.int .i64 (cmpI a.fin b.fin)), (Value.int .i64 (cmpI a.start b.start))] 3), blk b3 (.cells #[(Value.string b.key), (Value.int .i64 b.start), (Value.int .i64 b.fin)] 113), blk b1 (.cells #[(Value.string a.key), (Value.int .i64 a.start), (Value.int .i64 a.fin)] 113)]) (fun jx => []) rfl (by decide) rfl (fun jx => (List.Sublist.cons _ (List.Sublist.cons_cons _ (List.Sublist.cons_cons _ List.Sublist.slnil)))) (fun jx r h => h) (fun A w M => Rets.mono (or_int (Value.slice (some ⟨b9, 0, none⟩) 3 3) ([(cmpS a.key b.key), (cmpI a.fin b.fin), (cmpI a.start b.start)] : List Int) (M.enterW0 ⟨((M.wideC0 1 rfl).imp fun _ h => SlAt.of_blk (n := 3) (size := 1) h rfl (by decide)), trivial⟩)) (fun v_ w_ ⟨e_, m⟩ => ⟨(), e_, (M.leaveW0 m).sel (L' := [fl A, blk b9 (.cells #[(Value.int .i64 (cmpS a.key b.key)), (Value.int .i64 (cmpI a.fin b.fin)), (Value.int .i64 (cmpI a.start b.start))] 3), blk b3 (.cells #[(Value.string b.key), (Value.int .i64 b.start), (Value.int .i64 b.fin)] 113), blk b1 (.cells #[(Value.string a.key), (Value.int .i64 a.start), (Value.int .i64 a.fin)] 113)]) [0, 1, 2, 3] rfl (by decide), fun b hb => M.keptW0 m (fl A) (List.mem_cons_self ..) b hb⟩)) (fun w => CallsF.func Try.en111 rfl) (fun jx v hp hin => ?_)
  replace hp := hp.symm; subst hp
  clear hin
  change TW _ _ _ _ _ _ _ _ (MemA _ _ _ [blk b9 (.cells #[(Value.int .i64 (cmpS a.key b.key)), (Value.int .i64 (cmpI a.fin b.fin)), (Value.int .i64 (cmpI a.start b.start))] 3), blk b3 (.cells #[(Value.string b.key), (Value.int .i64 b.start), (Value.int .i64 b.fin)] 113), blk b1 (.cells #[(Value.string a.key), (Value.int .i64 a.start), (Value.int .i64 a.fin)] 113)] [])
  refine TW.pure (v := (Value.int .i64 (orL ([(cmpS a.key b.key), (cmpI a.fin b.fin), (cmpI a.start b.start)] : List Int)))) rfl (by decide) (by decide) rfl (fun w => (Step.assign rfl)) ?_
  refine TW.done (fun w10 M => ?_)
  refine W.ret ?_
  refine ⟨.inl rfl, (Value.int .i64 (orL ([(cmpS a.key b.key), (cmpI a.fin b.fin), (cmpI a.start b.start)] : List Int))), ?_, ?_⟩
  · exact ⟨rfl, (Res.r1 (show RV _ _ _ (.tmp 4) (Value.int .i64 (orL ([(cmpS a.key b.key), (cmpI a.fin b.fin), (cmpI a.start b.start)] : List Int))) from by exact rfl))⟩
  refine ⟨?_, M.close [] rfl (by decide) trivial⟩
  rfl

theorem agg_seco {G : Nat → Prop} {w : World} (a : Pane5) (b : Pane5)   (M : Mem G (fun _ => False) w [] [] w) : Rets Try.prog 67 #[(Value.agg #[(Value.string a.key), (Value.int .i64 a.start), (Value.int .i64 a.fin)]), (Value.agg #[(Value.string b.key), (Value.int .i64 b.start), (Value.int .i64 b.fin)])] w fun r w' => r = (Value.int .i64 (secoV a b)) ∧ Mem G (fun _ => False) w [] [] w' := by
  refine Rets.enter 22 _ Try.func67 rfl Try.ntmps67 Try.results67 (by simp) ?_
  refine W.seq' ?_
  refine W.region rfl ?_
  refine WL.box (v := (Value.agg #[(Value.string a.key), (Value.int .i64 a.start), (Value.int .i64 a.fin)])) (c := #[(Value.string a.key), (Value.int .i64 a.start), (Value.int .i64 a.fin)]) M rfl rfl rfl (fun b1 w2 hb1 M => ?_)
  refine WL.box (v := (Value.agg #[(Value.string b.key), (Value.int .i64 b.start), (Value.int .i64 b.fin)])) (c := #[(Value.string b.key), (Value.int .i64 b.start), (Value.int .i64 b.fin)]) M rfl rfl rfl (fun b3 w4 hb3 M => ?_)
  refine WL.step (v := (Value.int .i64 0)) rfl (Step.assign rfl) ?_
  refine WL.nil ?_
  refine W.seq' ?_
  refine W.drawn M [0, 1, 2, 3, 4, 5, 6, 7, 8, 9, 10, 11, 12, 13, 14, 15, 16, 17] [4, 9, 14, 16] [15] [blk b3 (.cells #[(Value.string b.key), (Value.int .i64 b.start), (Value.int .i64 b.fin)] 113), blk b1 (.cells #[(Value.string a.key), (Value.int .i64 a.start), (Value.int .i64 a.fin)] 113)] [] (List.Sublist.cons_cons _ (List.Sublist.cons_cons _ List.Sublist.slnil)) (fun _ h => h) Try.mixed (by kernel_rfl) ?_
  refine TW.pure (v := (Value.pointer (some ⟨b1, 2, none⟩))) rfl (by decide) (by decide) rfl (fun w => (Step.pure (by kernel_rfl))) ?_
  refine TW.read (v := (Value.int .i64 a.fin)) rfl (by decide) (by decide) rfl (fun A w M => (Step.load1 Try.sc2 rfl ((M.cell 2 rfl 2).trans rfl))) ?_
  refine TW.pure (v := (Value.pointer (some ⟨b3, 2, none⟩))) rfl (by decide) (by decide) rfl (fun w => (Step.pure (by kernel_rfl))) ?_
  refine TW.read (v := (Value.int .i64 b.fin)) rfl (by decide) (by decide) rfl (fun A w M => (Step.load1 Try.sc2 rfl ((M.cell 1 rfl 2).trans rfl))) ?_
  refine TW.callX (ι := Unit) (fun jx v_ => v_ = (Value.int .i64 (cmpI a.fin b.fin))) (fun jx => [blk b3 (.cells #[(Value.string b.key), (Value.int .i64 b.start), (Value.int .i64 b.fin)] 113), blk b1 (.cells #[(Value.string a.key), (Value.int .i64 a.start), (Value.int .i64 a.fin)] 113)]) (fun jx => []) rfl (by decide) rfl (fun jx => (List.Sublist.cons_cons _ (List.Sublist.cons_cons _ List.Sublist.slnil))) (fun jx r h => h) (fun A w M => Rets.mono (comp_i64 a.fin b.fin (M.enterW0 trivial)) (fun v_ w_ ⟨e_, m⟩ => ⟨(), e_, (M.leaveW0 m).sel (L' := [fl A, blk b3 (.cells #[(Value.string b.key), (Value.int .i64 b.start), (Value.int .i64 b.fin)] 113), blk b1 (.cells #[(Value.string a.key), (Value.int .i64 a.start), (Value.int .i64 a.fin)] 113)]) [0, 1, 2] rfl (by decide), fun b hb => M.keptW0 m (fl A) (List.mem_cons_self ..) b hb⟩)) (fun w => CallsF.func Try.en113 rfl) (fun jx v hp hin => ?_)
  replace hp := hp.symm; subst hp
  clear hin
  change TW _ _ _ _ _ _ _ _ (MemA _ _ _ [blk b3 (.cells #[(Value.string b.key), (Value.int .i64 b.start), (Value.int .i64 b.fin)] 113), blk b1 (.cells #[(Value.string a.key), (Value.int .i64 a.start), (Value.int .i64 a.fin)] 113)] [])
  refine TW.pure (v := (Value.pointer (some ⟨b1, 0, none⟩))) rfl (by decide) (by decide) rfl (fun w => (Step.pure (by kernel_rfl))) ?_
  refine TW.read (v := (Value.string a.key)) rfl (by decide) (by decide) rfl (fun A w M => (Step.load1 Try.sc9 rfl ((M.cell 2 rfl 0).trans rfl))) ?_
  refine TW.pure (v := (Value.pointer (some ⟨b3, 0, none⟩))) rfl (by decide) (by decide) rfl (fun w => (Step.pure (by kernel_rfl))) ?_
  refine TW.read (v := (Value.string b.key)) rfl (by decide) (by decide) rfl (fun A w M => (Step.load1 Try.sc9 rfl ((M.cell 1 rfl 0).trans rfl))) ?_
  refine TW.callX (ι := Unit) (fun jx v_ => v_ = (Value.int .i64 (cmpS a.key b.key))) (fun jx => [blk b3 (.cells #[(Value.string b.key), (Value.int .i64 b.start), (Value.int .i64 b.fin)] 113), blk b1 (.cells #[(Value.string a.key), (Value.int .i64 a.start), (Value.int .i64 a.fin)] 113)]) (fun jx => []) rfl (by decide) rfl (fun jx => (List.Sublist.cons_cons _ (List.Sublist.cons_cons _ List.Sublist.slnil))) (fun jx r h => h) (fun A w M => Rets.mono (comp_str a.key b.key (M.enterW0 trivial)) (fun v_ w_ ⟨e_, m⟩ => ⟨(), e_, (M.leaveW0 m).sel (L' := [fl A, blk b3 (.cells #[(Value.string b.key), (Value.int .i64 b.start), (Value.int .i64 b.fin)] 113), blk b1 (.cells #[(Value.string a.key), (Value.int .i64 a.start), (Value.int .i64 a.fin)] 113)]) [0, 1, 2] rfl (by decide), fun b hb => M.keptW0 m (fl A) (List.mem_cons_self ..) b hb⟩)) (fun w => CallsF.func Try.en112 rfl) (fun jx v hp hin => ?_)
  replace hp := hp.symm; subst hp
  clear hin
  change TW _ _ _ _ _ _ _ _ (MemA _ _ _ [blk b3 (.cells #[(Value.string b.key), (Value.int .i64 b.start), (Value.int .i64 b.fin)] 113), blk b1 (.cells #[(Value.string a.key), (Value.int .i64 a.start), (Value.int .i64 a.fin)] 113)] [])
  refine TW.pure (v := (Value.pointer (some ⟨b1, 1, none⟩))) rfl (by decide) (by decide) rfl (fun w => (Step.pure (by kernel_rfl))) ?_
  refine TW.read (v := (Value.int .i64 a.start)) rfl (by decide) (by decide) rfl (fun A w M => (Step.load1 Try.sc2 rfl ((M.cell 2 rfl 1).trans rfl))) ?_
  refine TW.pure (v := (Value.pointer (some ⟨b3, 1, none⟩))) rfl (by decide) (by decide) rfl (fun w => (Step.pure (by kernel_rfl))) ?_
  refine TW.read (v := (Value.int .i64 b.start)) rfl (by decide) (by decide) rfl (fun A w M => (Step.load1 Try.sc2 rfl ((M.cell 1 rfl 1).trans rfl))) ?_
  refine TW.callX (ι := Unit) (fun jx v_ => v_ = (Value.int .i64 (cmpI a.start b.start))) (fun jx => [blk b3 (.cells #[(Value.string b.key), (Value.int .i64 b.start), (Value.int .i64 b.fin)] 113), blk b1 (.cells #[(Value.string a.key), (Value.int .i64 a.start), (Value.int .i64 a.fin)] 113)]) (fun jx => []) rfl (by decide) rfl (fun jx => (List.Sublist.cons_cons _ (List.Sublist.cons_cons _ List.Sublist.slnil))) (fun jx r h => h) (fun A w M => Rets.mono (comp_i64 a.start b.start (M.enterW0 trivial)) (fun v_ w_ ⟨e_, m⟩ => ⟨(), e_, (M.leaveW0 m).sel (L' := [fl A, blk b3 (.cells #[(Value.string b.key), (Value.int .i64 b.start), (Value.int .i64 b.fin)] 113), blk b1 (.cells #[(Value.string a.key), (Value.int .i64 a.start), (Value.int .i64 a.fin)] 113)]) [0, 1, 2] rfl (by decide), fun b hb => M.keptW0 m (fl A) (List.mem_cons_self ..) b hb⟩)) (fun w => CallsF.func Try.en113 rfl) (fun jx v hp hin => ?_)
  replace hp := hp.symm; subst hp
  clear hin
  change TW _ _ _ _ _ _ _ _ (MemA _ _ _ [blk b3 (.cells #[(Value.string b.key), (Value.int .i64 b.start), (Value.int .i64 b.fin)] 113), blk b1 (.cells #[(Value.string a.key), (Value.int .i64 a.start), (Value.int .i64 a.fin)] 113)] [])
  refine TW.new (obj := .cells #[(Value.int .i64 (cmpI a.fin b.fin)), (Value.int .i64 (cmpS a.key b.key)), (Value.int .i64 (cmpI a.start b.start))] 3) (fun b => .slice (some ⟨b, 0, none⟩) 3 3) rfl (by decide) (by decide) rfl (fun w => Step.make (by kernel_rfl)) (fun b9 => ?_)
  refine TW.callX (ι := Unit) (fun jx v_ => v_ = (Value.int .i64 (orL ([(cmpI a.fin b.fin), (cmpS a.key b.key), (cmpI a.start b.start)] : List Int)))) (fun jx => [blk b9 (.cells #[(Value.int .i64 (cmpI a.fin b.fin)), (Value.int .i64 (cmpS a.key b.key)), (Value.int .i64 (cmpI a.start b.start))] 3), blk b3 (.cells #[(Value.string b.key), (Value.int .i64 b.start), (Value.int .i64 b.fin)] 113), blk b1 (.cells #[(Value.string a.key), (Value.int .i64 a.start), (Value.int .i64 a.fin)] 113)]) (fun jx => []) rfl (by decide) rfl (fun jx => (List.Sublist.cons _ (List.Sublist.cons_cons _ (List.Sublist.cons_cons _ List.Sublist.slnil)))) (fun jx r h => h) (fun A w M => Rets.mono (or_int (Value.slice (some ⟨b9, 0, none⟩) 3 3) ([(cmpI a.fin b.fin), (cmpS a.key b.key), (cmpI a.start b.start)] : List Int) (M.enterW0 ⟨((M.wideC0 1 rfl).imp fun _ h => SlAt.of_blk (n := 3) (size := 1) h rfl (by decide)), trivial⟩)) (fun v_ w_ ⟨e_, m⟩ => ⟨(), e_, (M.leaveW0 m).sel (L' := [fl A, blk b9 (.cells #[(Value.int .i64 (cmpI a.fin b.fin)), (Value.int .i64 (cmpS a.key b.key)), (Value.int .i64 (cmpI a.start b.start))] 3), blk b3 (.cells #[(Value.string b.key), (Value.int .i64 b.start), (Value.int .i64 b.fin)] 113), blk b1 (.cells #[(Value.string a.key), (Value.int .i64 a.start), (Value.int .i64 a.fin)] 113)]) [0, 1, 2, 3] rfl (by decide), fun b hb => M.keptW0 m (fl A) (List.mem_cons_self ..) b hb⟩)) (fun w => CallsF.func Try.en111 rfl) (fun jx v hp hin => ?_)
  replace hp := hp.symm; subst hp
  clear hin
  change TW _ _ _ _ _ _ _ _ (MemA _ _ _ [blk b9 (.cells #[(Value.int .i64 (cmpI a.fin b.fin)), (Value.int .i64 (cmpS a.key b.key)), (Value.int .i64 (cmpI a.start b.start))] 3), blk b3 (.cells #[(Value.string b.key), (Value.int .i64 b.start), (Value.int .i64 b.fin)] 113), blk b1 (.cells #[(Value.string a.key), (Value.int .i64 a.start), (Value.int .i64 a.fin)] 113)] [])
  refine TW.pure (v := (Value.int .i64 (orL ([(cmpI a.fin b.fin), (cmpS a.key b.key), (cmpI a.start b.start)] : List Int)))) rfl (by decide) (by decide) rfl (fun w => (Step.assign rfl)) ?_
  refine TW.done (fun w10 M => ?_)
  refine W.ret ?_
  refine ⟨.inl rfl, (Value.int .i64 (orL ([(cmpI a.fin b.fin), (cmpS a.key b.key), (cmpI a.start b.start)] : List Int))), ?_, ?_⟩
  · exact ⟨rfl, (Res.r1 (show RV _ _ _ (.tmp 4) (Value.int .i64 (orL ([(cmpI a.fin b.fin), (cmpS a.key b.key), (cmpI a.start b.start)] : List Int))) from by exact rfl))⟩
  refine ⟨?_, M.close [] rfl (by decide) trivial⟩
  rfl

theorem cmp_false {G : Nat → Prop} {w : World} (a : Row5) (b : Row5)   (M : Mem G (fun _ => False) w [] [] w) : Rets Try.prog 110 #[(Value.agg #[(Value.func (.func 64) #[] #[])]), (Value.agg #[(Value.string a.pane.key), (Value.int .i64 a.pane.start), (Value.int .i64 a.pane.fin), (Value.int .i64 a.agg.count), (Value.int .i64 a.agg.sum), (Value.int .i64 a.agg.min), (Value.int .i64 a.agg.max)]), (Value.agg #[(Value.string b.pane.key), (Value.int .i64 b.pane.start), (Value.int .i64 b.pane.fin), (Value.int .i64 b.agg.count), (Value.int .i64 b.agg.sum), (Value.int .i64 b.agg.min), (Value.int .i64 b.agg.max)])] w fun r w' => r = (Value.int .i64 (cmpRow false a b)) ∧ Mem G (fun _ => False) w [] [] w' := by
  refine Rets.enter 14 _ Try.func110 rfl Try.ntmps110 Try.results110 (by simp) ?_
  refine W.seq' ?_
  refine W.region rfl ?_
  refine WL.box (v := (Value.agg #[(Value.func (.func 64) #[] #[])])) (c := #[(Value.func (.func 64) #[] #[])]) M rfl rfl rfl (fun b1 w2 hb1 M => ?_)
  refine WL.box (v := (Value.agg #[(Value.string a.pane.key), (Value.int .i64 a.pane.start), (Value.int .i64 a.pane.fin), (Value.int .i64 a.agg.count), (Value.int .i64 a.agg.sum), (Value.int .i64 a.agg.min), (Value.int .i64 a.agg.max)])) (c := #[(Value.string a.pane.key), (Value.int .i64 a.pane.start), (Value.int .i64 a.pane.fin), (Value.int .i64 a.agg.count), (Value.int .i64 a.agg.sum), (Value.int .i64 a.agg.min), (Value.int .i64 a.agg.max)]) M rfl rfl rfl (fun b3 w4 hb3 M => ?_)
  refine WL.box (v := (Value.agg #[(Value.string b.pane.key), (Value.int .i64 b.pane.start), (Value.int .i64 b.pane.fin), (Value.int .i64 b.agg.count), (Value.int .i64 b.agg.sum), (Value.int .i64 b.agg.min), (Value.int .i64 b.agg.max)])) (c := #[(Value.string b.pane.key), (Value.int .i64 b.pane.start), (Value.int .i64 b.pane.fin), (Value.int .i64 b.agg.count), (Value.int .i64 b.agg.sum), (Value.int .i64 b.agg.min), (Value.int .i64 b.agg.max)]) M rfl rfl rfl (fun b5 w6 hb5 M => ?_)
  refine WL.step (v := (Value.int .i64 0)) rfl (Step.assign rfl) ?_
  refine WL.nil ?_
  refine W.seq' ?_
  refine W.region rfl ?_
  refine WL.step (v := (Value.pointer (some ⟨b1, 0, none⟩))) rfl (Step.pure (by kernel_rfl)) ?_
  refine WL.step (v := (Value.func (.func 64) #[] #[])) rfl (Step.load1 Try.sc116 rfl ((M.cell 2 rfl 0).trans rfl)) ?_
  refine WL.step (v := (Value.pointer (some ⟨b3, 0, none⟩))) rfl (Step.pure (by kernel_rfl)) ?_
  refine WL.step (v := (Value.agg #[(Value.string a.pane.key), (Value.int .i64 a.pane.start), (Value.int .i64 a.pane.fin)])) rfl (Step.loadN Try.ag113 rfl (M.blk 1 rfl) (Nat.le_of_ble_eq_true rfl) rfl) ?_
  refine WL.step (v := (Value.pointer (some ⟨b5, 0, none⟩))) rfl (Step.pure (by kernel_rfl)) ?_
  refine WL.step (v := (Value.agg #[(Value.string b.pane.key), (Value.int .i64 b.pane.start), (Value.int .i64 b.pane.fin)])) rfl (Step.loadN Try.ag113 rfl (M.blk 0 rfl) (Nat.le_of_ble_eq_true rfl) rfl) ?_
  refine WL.callX rfl (agg_prim a.pane b.pane (M.enterW0 trivial)) (CallsF.value Try.en64 rfl rfl rfl) ?_
  rintro _ w7 ⟨rfl, m⟩
  replace M := M.leaveW0 m
  clear m
  replace M : Mem _ _ _ [blk b5 (.cells #[(Value.string b.pane.key), (Value.int .i64 b.pane.start), (Value.int .i64 b.pane.fin), (Value.int .i64 b.agg.count), (Value.int .i64 b.agg.sum), (Value.int .i64 b.agg.min), (Value.int .i64 b.agg.max)] 115), blk b3 (.cells #[(Value.string a.pane.key), (Value.int .i64 a.pane.start), (Value.int .i64 a.pane.fin), (Value.int .i64 a.agg.count), (Value.int .i64 a.agg.sum), (Value.int .i64 a.agg.min), (Value.int .i64 a.agg.max)] 115), blk b1 (.cells #[(Value.func (.func 64) #[] #[])] 171)] [] _ := M
  refine WL.step (v := (Value.int .i64 (primV a.pane b.pane))) rfl (Step.assign rfl) ?_
  refine WL.nil ?_
  refine W.ret ?_
  refine ⟨.inl rfl, (Value.int .i64 (primV a.pane b.pane)), ?_, ?_⟩
  · exact ⟨rfl, (Res.r1 (show RV _ _ _ (.tmp 6) (Value.int .i64 (primV a.pane b.pane)) from by exact rfl))⟩
  refine ⟨?_, M.close [] rfl (by decide) trivial⟩
  rfl

theorem cmp_true {G : Nat → Prop} {w : World} (a : Row5) (b : Row5)   (M : Mem G (fun _ => False) w [] [] w) : Rets Try.prog 110 #[(Value.agg #[(Value.func (.func 67) #[] #[])]), (Value.agg #[(Value.string a.pane.key), (Value.int .i64 a.pane.start), (Value.int .i64 a.pane.fin), (Value.int .i64 a.agg.count), (Value.int .i64 a.agg.sum), (Value.int .i64 a.agg.min), (Value.int .i64 a.agg.max)]), (Value.agg #[(Value.string b.pane.key), (Value.int .i64 b.pane.start), (Value.int .i64 b.pane.fin), (Value.int .i64 b.agg.count), (Value.int .i64 b.agg.sum), (Value.int .i64 b.agg.min), (Value.int .i64 b.agg.max)])] w fun r w' => r = (Value.int .i64 (cmpRow true a b)) ∧ Mem G (fun _ => False) w [] [] w' := by
  refine Rets.enter 14 _ Try.func110 rfl Try.ntmps110 Try.results110 (by simp) ?_
  refine W.seq' ?_
  refine W.region rfl ?_
  refine WL.box (v := (Value.agg #[(Value.func (.func 67) #[] #[])])) (c := #[(Value.func (.func 67) #[] #[])]) M rfl rfl rfl (fun b1 w2 hb1 M => ?_)
  refine WL.box (v := (Value.agg #[(Value.string a.pane.key), (Value.int .i64 a.pane.start), (Value.int .i64 a.pane.fin), (Value.int .i64 a.agg.count), (Value.int .i64 a.agg.sum), (Value.int .i64 a.agg.min), (Value.int .i64 a.agg.max)])) (c := #[(Value.string a.pane.key), (Value.int .i64 a.pane.start), (Value.int .i64 a.pane.fin), (Value.int .i64 a.agg.count), (Value.int .i64 a.agg.sum), (Value.int .i64 a.agg.min), (Value.int .i64 a.agg.max)]) M rfl rfl rfl (fun b3 w4 hb3 M => ?_)
  refine WL.box (v := (Value.agg #[(Value.string b.pane.key), (Value.int .i64 b.pane.start), (Value.int .i64 b.pane.fin), (Value.int .i64 b.agg.count), (Value.int .i64 b.agg.sum), (Value.int .i64 b.agg.min), (Value.int .i64 b.agg.max)])) (c := #[(Value.string b.pane.key), (Value.int .i64 b.pane.start), (Value.int .i64 b.pane.fin), (Value.int .i64 b.agg.count), (Value.int .i64 b.agg.sum), (Value.int .i64 b.agg.min), (Value.int .i64 b.agg.max)]) M rfl rfl rfl (fun b5 w6 hb5 M => ?_)
  refine WL.step (v := (Value.int .i64 0)) rfl (Step.assign rfl) ?_
  refine WL.nil ?_
  refine W.seq' ?_
  refine W.region rfl ?_
  refine WL.step (v := (Value.pointer (some ⟨b1, 0, none⟩))) rfl (Step.pure (by kernel_rfl)) ?_
  refine WL.step (v := (Value.func (.func 67) #[] #[])) rfl (Step.load1 Try.sc116 rfl ((M.cell 2 rfl 0).trans rfl)) ?_
  refine WL.step (v := (Value.pointer (some ⟨b3, 0, none⟩))) rfl (Step.pure (by kernel_rfl)) ?_
  refine WL.step (v := (Value.agg #[(Value.string a.pane.key), (Value.int .i64 a.pane.start), (Value.int .i64 a.pane.fin)])) rfl (Step.loadN Try.ag113 rfl (M.blk 1 rfl) (Nat.le_of_ble_eq_true rfl) rfl) ?_
  refine WL.step (v := (Value.pointer (some ⟨b5, 0, none⟩))) rfl (Step.pure (by kernel_rfl)) ?_
  refine WL.step (v := (Value.agg #[(Value.string b.pane.key), (Value.int .i64 b.pane.start), (Value.int .i64 b.pane.fin)])) rfl (Step.loadN Try.ag113 rfl (M.blk 0 rfl) (Nat.le_of_ble_eq_true rfl) rfl) ?_
  refine WL.callX rfl (agg_seco a.pane b.pane (M.enterW0 trivial)) (CallsF.value Try.en67 rfl rfl rfl) ?_
  rintro _ w7 ⟨rfl, m⟩
  replace M := M.leaveW0 m
  clear m
  replace M : Mem _ _ _ [blk b5 (.cells #[(Value.string b.pane.key), (Value.int .i64 b.pane.start), (Value.int .i64 b.pane.fin), (Value.int .i64 b.agg.count), (Value.int .i64 b.agg.sum), (Value.int .i64 b.agg.min), (Value.int .i64 b.agg.max)] 115), blk b3 (.cells #[(Value.string a.pane.key), (Value.int .i64 a.pane.start), (Value.int .i64 a.pane.fin), (Value.int .i64 a.agg.count), (Value.int .i64 a.agg.sum), (Value.int .i64 a.agg.min), (Value.int .i64 a.agg.max)] 115), blk b1 (.cells #[(Value.func (.func 67) #[] #[])] 171)] [] _ := M
  refine WL.step (v := (Value.int .i64 (secoV a.pane b.pane))) rfl (Step.assign rfl) ?_
  refine WL.nil ?_
  refine W.ret ?_
  refine ⟨.inl rfl, (Value.int .i64 (secoV a.pane b.pane)), ?_, ?_⟩
  · exact ⟨rfl, (Res.r1 (show RV _ _ _ (.tmp 6) (Value.int .i64 (secoV a.pane b.pane)) from by exact rfl))⟩
  refine ⟨?_, M.close [] rfl (by decide) trivial⟩
  rfl
end Go.Proofs
