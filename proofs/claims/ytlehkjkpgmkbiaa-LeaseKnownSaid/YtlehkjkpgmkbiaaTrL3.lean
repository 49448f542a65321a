/- Walks. -/
import Derived.Test.YtlehkjkpgmkbiaaTrL2
set_option maxRecDepth 100000
set_option linter.all false
namespace Go.Proofs
open Go Tp
theorem Try.en45 : Enters Try.prog 45 := fun _ _ => by kernel_rfl
theorem Try.en97 : Enters Try.prog 97 := fun _ _ => by kernel_rfl
theorem Try.en98 : Enters Try.prog 98 := fun _ _ => by kernel_rfl
theorem Try.en106 : Enters Try.prog 106 := fun _ _ => by kernel_rfl
theorem Try.en127 : Enters Try.prog 127 := fun _ _ => by kernel_rfl
theorem Try.sc3 : Scal Try.prog 3 := fun _ => by kernel_rfl
theorem Try.sc4 : Scal Try.prog 4 := fun _ => by kernel_rfl
theorem Try.sc100 : Scal Try.prog 100 := fun _ => by kernel_rfl

theorem le_find1 {G : Nat → Prop} {w : World} (x : Lease) (pi : Nat) (i : Int) (po : Nat) (o : Int) (pc : Nat) (c : Bool)   (M : Mem G (fun _ => False) w [] [(fun w => w.heap[pi]? = some (.cells #[(Value.int .u64 i)] 23)), (fun w => w.heap[po]? = some (.cells #[(Value.int .i64 o)] 3)), (fun w => w.heap[pc]? = some (.cells #[(Value.bool c)] 4))] w) : Rets Try.prog 127 #[(Value.agg #[(Value.int .u64 x.id), (Value.int .i64 x.owner), (Value.int .u64 x.epoch), (Value.int .u64 x.till), (Value.bool x.cursor)]), (Value.pointer (some ⟨pi, 0, none⟩)), (Value.pointer (some ⟨po, 0, none⟩)), (Value.pointer (some ⟨pc, 0, none⟩))] w fun r w' => r = (Value.bool (isL o i c x)) ∧ Mem G (fun _ => False) w [] [] w' := by
  refine Rets.enter 22 _ Try.func127 rfl Try.ntmps127 Try.results127 (by simp) ?_
  refine W.seq' ?_
  refine W.region rfl ?_
  refine WL.box (v := (Value.agg #[(Value.int .u64 x.id), (Value.int .i64 x.owner), (Value.int .u64 x.epoch), (Value.int .u64 x.till), (Value.bool x.cursor)])) (c := #[(Value.int .u64 x.id), (Value.int .i64 x.owner), (Value.int .u64 x.epoch), (Value.int .u64 x.till), (Value.bool x.cursor)]) M rfl rfl rfl (fun b1 w2 hb1 M => ?_)
  refine WL.step (v := (Value.bool false)) rfl (Step.assign rfl) ?_
  refine WL.nil ?_
  refine W.seq' ?_
  refine W.region rfl ?_
  refine WL.step (v := (Value.pointer (some ⟨b1, 0, none⟩))) rfl (Step.pure (by kernel_rfl)) ?_
  refine WL.step (v := (Value.int .u64 x.id)) rfl (Step.load1 Try.sc23 rfl ((M.cell 0 rfl 0).trans rfl)) ?_
  refine WL.step (v := (Value.int .u64 i)) rfl (Step.load1 Try.sc23 rfl ((cell_blk (M.rep 0 rfl) 0).trans rfl)) ?_
  refine WL.step (v := (Value.bool ((x.id : Int) == (i : Int)))) rfl (Step.pure (by kernel_rfl)) ?_
  refine WL.step (v := (Value.bool ((x.id : Int) == (i : Int)))) rfl (Step.move rfl) ?_
  rcases Bool.eq_false_or_eq_true ((x.id : Int) == (i : Int)) with h3 | h3
  ·
    have h3p : (x.id : Int) = (i : Int) := by simpa using h3
    rw [h3]
    refine WL.step (v := (Value.pointer (some ⟨b1, 1, none⟩))) rfl (Step.pure (by kernel_rfl)) ?_
    refine WL.step (v := (Value.int .i64 x.owner)) rfl (Step.load1 Try.sc3 rfl ((M.cell 0 rfl 1).trans rfl)) ?_
    refine WL.step (v := (Value.int .i64 o)) rfl (Step.load1 Try.sc3 rfl ((cell_blk (M.rep 1 rfl) 0).trans rfl)) ?_
    refine WL.step (v := (Value.bool ((x.owner : Int) == (o : Int)))) rfl (Step.pure (by kernel_rfl)) ?_
    refine WL.step (v := (Value.bool ((x.owner : Int) == (o : Int)))) rfl (Step.pick (t := true) rfl rfl) ?_
    refine WL.step (v := (Value.bool ((x.owner : Int) == (o : Int)))) rfl (Step.move rfl) ?_
    rcases Bool.eq_false_or_eq_true ((x.owner : Int) == (o : Int)) with h4 | h4
    ·
      have h4p : (x.owner : Int) = (o : Int) := by simpa using h4
      rw [h4]
      refine WL.step (v := (Value.pointer (some ⟨b1, 4, none⟩))) rfl (Step.pure (by kernel_rfl)) ?_
      refine WL.step (v := (Value.bool x.cursor)) rfl (Step.load1 Try.sc4 rfl ((M.cell 0 rfl 4).trans rfl)) ?_
      refine WL.step (v := (Value.bool c)) rfl (Step.load1 Try.sc4 rfl ((cell_blk (M.rep 2 rfl) 0).trans rfl)) ?_
      refine WL.step (v := (Value.bool (x.cursor == c))) rfl (Step.pure (by kernel_rfl)) ?_
      refine WL.step (v := (Value.bool (x.cursor == c))) rfl (Step.pick (t := true) rfl rfl) ?_
      refine WL.step (v := (Value.bool (x.cursor == c))) rfl (Step.assign rfl) ?_
      refine WL.nil ?_
      refine W.ret ?_
      refine ⟨.inl rfl, (Value.bool (x.cursor == c)), ?_, ?_⟩
      · exact ⟨rfl, (Res.r1 (show RV _ _ _ (.tmp 5) (Value.bool (x.cursor == c)) from by exact rfl))⟩
      refine ⟨?_, M.close [] rfl (by decide) trivial⟩
      refine congrArg Value.bool ?_
      first | rfl | (simp [isL, h3p, h4p]; done) | (simp [isL, h3p, h4p]; omega) | (rw [Bool.eq_iff_iff]; simp [isL, h3p, h4p]; done) | (rw [Bool.eq_iff_iff]; simp [isL, h3p, h4p]; omega) | grind [isL]
    ·
      have h4p : ¬ (x.owner : Int) = (o : Int) := by simpa using h4
      rw [h4]
      refine WL.pass rfl ?_
      refine WL.pass rfl ?_
      refine WL.pass rfl ?_
      refine WL.pass rfl ?_
      refine WL.step (v := (Value.bool false)) rfl (Step.pick (t := false) rfl rfl) ?_
      refine WL.step (v := (Value.bool false)) rfl (Step.assign rfl) ?_
      refine WL.nil ?_
      refine W.ret ?_
      refine ⟨.inl rfl, (Value.bool false), ?_, ?_⟩
      · exact ⟨rfl, (Res.r1 (show RV _ _ _ (.tmp 5) (Value.bool false) from by exact rfl))⟩
      refine ⟨?_, M.close [] rfl (by decide) trivial⟩
      refine congrArg Value.bool ?_
      first | rfl | (simp [isL, h3p, h4p]; done) | (simp [isL, h3p, h4p]; omega) | (rw [Bool.eq_iff_iff]; simp [isL, h3p, h4p]; done) | (rw [Bool.eq_iff_iff]; simp [isL, h3p, h4p]; omega) | grind [isL]
  ·
    have h3p : ¬ (x.id : Int) = (i : Int) := by simpa using h3
    rw [h3]
    refine WL.pass rfl ?_
    refine WL.pass rfl ?_
    refine WL.pass rfl ?_
    refine WL.pass rfl ?_
    refine WL.step (v := (Value.bool false)) rfl (Step.pick (t := false) rfl rfl) ?_
    refine WL.step (v := (Value.bool false)) rfl (Step.move rfl) ?_
    refine WL.pass rfl ?_
    refine WL.pass rfl ?_
    refine WL.pass rfl ?_
    refine WL.pass rfl ?_
    refine WL.step (v := (Value.bool false)) rfl (Step.pick (t := false) rfl rfl) ?_
    refine WL.step (v := (Value.bool false)) rfl (Step.assign rfl) ?_
    refine WL.nil ?_
    refine W.ret ?_
    refine ⟨.inl rfl, (Value.bool false), ?_, ?_⟩
    · exact ⟨rfl, (Res.r1 (show RV _ _ _ (.tmp 5) (Value.bool false) from by exact rfl))⟩
    refine ⟨?_, M.close [] rfl (by decide) trivial⟩
    refine congrArg Value.bool ?_
    first | rfl | (simp [isL, h3p]; done) | (simp [isL, h3p]; omega) | (rw [Bool.eq_iff_iff]; simp [isL, h3p]; done) | (rw [Bool.eq_iff_iff]; simp [isL, h3p]; omega) | grind [isL]

theorem le_find {G : Nat → Prop} {w : World} (lb : Nat) (v : Value) (xs : List Lease) (most : Int) (last : Int) (o : Int) (i : Int) (c : Bool)  (hc : hasL xs o i c = true) (M : Mem G (fun _ => False) w [] [(fun w => w.heap[lb]? = some (.cells #[v, (Value.int .i64 most), (Value.int .u64 last)] 147)), SlAt 5 v xs.length (xs.flatMap leaseE)] w) : Rets Try.prog 97 #[(Value.pointer (some ⟨lb, 0, none⟩)), (Value.int .i64 o), (Value.int .u64 i), (Value.bool c)] w fun r w' => r = (Value.tuple #[(Value.int .i64 (↑(atL xs o i c))), (Value.int .i64 0)]) ∧ Mem G (fun _ => False) w [] [] w' := by
  refine Rets.enter 25 _ Try.func97 rfl Try.ntmps97 Try.results97 (by simp) ?_
  have hle1 := SlAt.le' (M.rep 1 rfl)
  have sl2 : IsSl v := SlAt.isSl (Mem.rep M 1 rfl)
  refine W.seq' ?_
  refine W.region rfl ?_
  refine WL.box (v := (Value.int .i64 o)) (c := #[(Value.int .i64 o)]) M rfl rfl rfl (fun b3 w4 hb3 M => ?_)
  refine WL.box (v := (Value.int .u64 i)) (c := #[(Value.int .u64 i)]) M rfl rfl rfl (fun b5 w6 hb5 M => ?_)
  refine WL.box (v := (Value.bool c)) (c := #[(Value.bool c)]) M rfl rfl rfl (fun b7 w8 hb7 M => ?_)
  refine WL.step (v := (Value.int .i64 0)) rfl (Step.assign rfl) ?_
  refine WL.step (v := (Value.int .i64 0)) rfl (Step.assign rfl) ?_
  refine WL.nil ?_
  refine W.seq' ?_
  refine W.seq' ?_
  refine W.region rfl ?_
  refine WL.step (v := (Value.pointer (some ⟨lb, 0, none⟩))) rfl (Step.move rfl) ?_
  refine WL.step (v := (Value.bool false)) rfl (Step.pure (by kernel_rfl)) ?_
  refine WL.nil ?_
  refine W.cond (t := false) rfl (fun h => by cases h) (fun _ => ?_)
  refine W.skip ?_
  refine W.seq' ?_
  refine W.region rfl ?_
  refine WL.step (v := (Value.pointer (some ⟨lb, 0, none⟩))) rfl (Step.move rfl) ?_
  refine WL.step (v := (Value.pointer (some ⟨lb, 0, none⟩))) rfl (Step.pure (by kernel_rfl)) ?_
  refine WL.step (v := (Value.pointer (some ⟨lb, 0, none⟩))) rfl (Step.pure (by kernel_rfl)) ?_
  refine WL.step (v := v) rfl (Step.load1 Try.sc100 rfl ((cell_blk (M.rep 0 rfl) 0).trans rfl)) ?_
  refine WL.step (v := (Value.func (.func 127) #[] #[(Value.pointer (some ⟨b5, 0, none⟩)), (Value.pointer (some ⟨b3, 0, none⟩)), (Value.pointer (some ⟨b7, 0, none⟩))])) rfl (Step.pure (by kernel_rfl)) ?_
  refine WL.callX rfl (indexb_lease v xs (Value.func (.func 127) #[] #[(Value.pointer (some ⟨b5, 0, none⟩)), (Value.pointer (some ⟨b3, 0, none⟩)), (Value.pointer (some ⟨b7, 0, none⟩))]) (isL o i c) (M.enterW0 ⟨M.wideR0 1 rfl, (((M.wideC0 1 rfl).and ((M.wideC0 2 rfl).and (M.wideC0 0 rfl))).self.imp fun w h x hx => (RetsV.of_rets (mid := [leaseV x]) (args := [leaseV x, (Value.pointer (some ⟨b5, 0, none⟩)), (Value.pointer (some ⟨b3, 0, none⟩)), (Value.pointer (some ⟨b7, 0, none⟩))]) Try.en127 rfl (le_find1 x b5 i b3 o b7 c (Mem.law0 ⟨h.imp fun _ h => h.1, h.imp fun _ h => h.2.1, h.imp fun _ h => h.2.2, trivial⟩))).mono fun r w' ⟨e, m⟩ => ⟨e, m.mod⟩), trivial⟩)) (CallsF.func Try.en126 rfl) ?_
  rintro _ w9 ⟨rfl, m⟩
  replace M := M.leaveW0 m
  rw [(ixF_some (hasL_some hc)).1]
  refine WL.step (v := (Value.int .i64 (↑(atL xs o i c)))) rfl (Step.assign rfl) ?_
  refine WL.nil ?_
  refine W.seq' ?_
  refine W.block ?_
  refine W.seq' ?_
  refine W.region rfl ?_
  refine WL.step (v := (Value.int .i64 (↑(atL xs o i c)))) rfl (Step.move rfl) ?_
  refine WL.step (v := (Value.bool (decide ((↑(atL xs o i c) : Int) ≥ (0 : Int))))) rfl (Step.pure (by kernel_rfl)) ?_
  refine WL.step (v := (Value.bool (decide ((↑(atL xs o i c) : Int) ≥ (0 : Int))))) rfl (Step.assign rfl) ?_
  refine WL.nil ?_
  refine W.cond (t := decide ((↑(atL xs o i c) : Int) ≥ (0 : Int))) rfl (fun h10 => ?_) (fun h10 => ?_)
  ·
    have h10p := of_decide_eq_true h10
    refine W.seq' ?_
    refine W.region rfl ?_
    refine WL.step (v := (Value.int .i64 (↑(atL xs o i c)))) rfl (Step.move rfl) ?_
    refine WL.step (v := (Value.int .i64 (↑(atL xs o i c)))) rfl (Step.assign rfl) ?_
    refine WL.step (v := (Value.int .i64 0)) rfl (Step.assign rfl) ?_
    refine WL.nil ?_
    refine W.ret ?_
    refine ⟨.inl rfl, (Value.tuple #[(Value.int .i64 (↑(atL xs o i c))), (Value.int .i64 0)]), ?_, ?_⟩
    · exact ⟨rfl, (Res.r2 (show RV _ _ _ (.tmp 8) (Value.int .i64 (↑(atL xs o i c))) from by exact rfl) (show RV _ _ _ (.tmp 9) (Value.int .i64 0) from by exact rfl))⟩
    refine ⟨?_, M.close [] rfl (by decide) trivial⟩
    rfl
  ·
    have h10p := of_decide_eq_false h10
    omega

theorem le_findno {G : Nat → Prop} {w : World} (lb : Nat) (v : Value) (xs : List Lease) (most : Int) (last : Int) (o : Int) (i : Int) (c : Bool)  (hc : hasL xs o i c = false) (M : Mem G (fun _ => False) w [] [(fun w => w.heap[lb]? = some (.cells #[v, (Value.int .i64 most), (Value.int .u64 last)] 147)), SlAt 5 v xs.length (xs.flatMap leaseE)] w) : Rets Try.prog 97 #[(Value.pointer (some ⟨lb, 0, none⟩)), (Value.int .i64 o), (Value.int .u64 i), (Value.bool c)] w fun r w' => r = (Value.tuple #[(Value.int .i64 0), (Value.int .i64 (noE c))]) ∧ Mem G (fun _ => False) w [] [] w' := by
  refine Rets.enter 25 _ Try.func97 rfl Try.ntmps97 Try.results97 (by simp) ?_
  have hle1 := SlAt.le' (M.rep 1 rfl)
  have sl2 : IsSl v := SlAt.isSl (Mem.rep M 1 rfl)
  refine W.seq' ?_
  refine W.region rfl ?_
  refine WL.box (v := (Value.int .i64 o)) (c := #[(Value.int .i64 o)]) M rfl rfl rfl (fun b3 w4 hb3 M => ?_)
  refine WL.box (v := (Value.int .u64 i)) (c := #[(Value.int .u64 i)]) M rfl rfl rfl (fun b5 w6 hb5 M => ?_)
  refine WL.box (v := (Value.bool c)) (c := #[(Value.bool c)]) M rfl rfl rfl (fun b7 w8 hb7 M => ?_)
  refine WL.step (v := (Value.int .i64 0)) rfl (Step.assign rfl) ?_
  refine WL.step (v := (Value.int .i64 0)) rfl (Step.assign rfl) ?_
  refine WL.nil ?_
  refine W.seq' ?_
  refine W.seq' ?_
  refine W.region rfl ?_
  refine WL.step (v := (Value.pointer (some ⟨lb, 0, none⟩))) rfl (Step.move rfl) ?_
  refine WL.step (v := (Value.bool false)) rfl (Step.pure (by kernel_rfl)) ?_
  refine WL.nil ?_
  refine W.cond (t := false) rfl (fun h => by cases h) (fun _ => ?_)
  refine W.skip ?_
  refine W.seq' ?_
  refine W.region rfl ?_
  refine WL.step (v := (Value.pointer (some ⟨lb, 0, none⟩))) rfl (Step.move rfl) ?_
  refine WL.step (v := (Value.pointer (some ⟨lb, 0, none⟩))) rfl (Step.pure (by kernel_rfl)) ?_
  refine WL.step (v := (Value.pointer (some ⟨lb, 0, none⟩))) rfl (Step.pure (by kernel_rfl)) ?_
  refine WL.step (v := v) rfl (Step.load1 Try.sc100 rfl ((cell_blk (M.rep 0 rfl) 0).trans rfl)) ?_
  refine WL.step (v := (Value.func (.func 127) #[] #[(Value.pointer (some ⟨b5, 0, none⟩)), (Value.pointer (some ⟨b3, 0, none⟩)), (Value.pointer (some ⟨b7, 0, none⟩))])) rfl (Step.pure (by kernel_rfl)) ?_
  refine WL.callX rfl (indexb_lease v xs (Value.func (.func 127) #[] #[(Value.pointer (some ⟨b5, 0, none⟩)), (Value.pointer (some ⟨b3, 0, none⟩)), (Value.pointer (some ⟨b7, 0, none⟩))]) (isL o i c) (M.enterW0 ⟨M.wideR0 1 rfl, (((M.wideC0 1 rfl).and ((M.wideC0 2 rfl).and (M.wideC0 0 rfl))).self.imp fun w h x hx => (RetsV.of_rets (mid := [leaseV x]) (args := [leaseV x, (Value.pointer (some ⟨b5, 0, none⟩)), (Value.pointer (some ⟨b3, 0, none⟩)), (Value.pointer (some ⟨b7, 0, none⟩))]) Try.en127 rfl (le_find1 x b5 i b3 o b7 c (Mem.law0 ⟨h.imp fun _ h => h.1, h.imp fun _ h => h.2.1, h.imp fun _ h => h.2.2, trivial⟩))).mono fun r w' ⟨e, m⟩ => ⟨e, m.mod⟩), trivial⟩)) (CallsF.func Try.en126 rfl) ?_
  rintro _ w9 ⟨rfl, m⟩
  replace M := M.leaveW0 m
  rw [(ixF_none (hasL_none hc)).1]
  refine WL.step (v := (Value.int .i64 (-1))) rfl (Step.assign rfl) ?_
  refine WL.nil ?_
  refine W.seq' ?_
  refine W.block ?_
  refine W.seq' ?_
  refine W.region rfl ?_
  refine WL.step (v := (Value.int .i64 (-1))) rfl (Step.move rfl) ?_
  refine WL.step (v := (Value.bool false)) rfl (Step.pure (by kernel_rfl)) ?_
  refine WL.step (v := (Value.bool false)) rfl (Step.assign rfl) ?_
  refine WL.nil ?_
  refine W.cond (t := false) rfl (fun h => by cases h) (fun _ => ?_)
  refine W.seq' ?_
  refine W.region rfl ?_
  refine WL.step (v := (Value.bool c)) rfl (Step.load1 Try.sc4 rfl ((M.cell 0 rfl 0).trans rfl)) ?_
  refine WL.step (v := (Value.bool c)) rfl (Step.assign rfl) ?_
  refine WL.nil ?_
  refine W.cond (t := c) rfl (fun h10 => ?_) (fun h10 => ?_)
  ·
    refine W.seq' ?_
    refine W.region rfl ?_
    refine WL.step (v := (Value.int .i64 0)) rfl (Step.assign rfl) ?_
    refine WL.step (v := (Value.int .i64 260)) rfl (Step.assign rfl) ?_
    refine WL.nil ?_
    refine W.ret ?_
    refine ⟨.inl rfl, (Value.tuple #[(Value.int .i64 0), (Value.int .i64 260)]), ?_, ?_⟩
    · exact ⟨rfl, (Res.r2 (show RV _ _ _ (.tmp 8) (Value.int .i64 0) from by exact rfl) (show RV _ _ _ (.tmp 9) (Value.int .i64 260) from by exact rfl))⟩
    refine ⟨?_, M.close [] rfl (by decide) trivial⟩
    simp [noE, *]
  ·
    refine W.skip ?_
    refine W.seq' ?_
    refine W.region rfl ?_
    refine WL.step (v := (Value.int .i64 0)) rfl (Step.assign rfl) ?_
    refine WL.step (v := (Value.int .i64 220)) rfl (Step.assign rfl) ?_
    refine WL.nil ?_
    refine W.ret ?_
    refine ⟨.inl rfl, (Value.tuple #[(Value.int .i64 0), (Value.int .i64 220)]), ?_, ?_⟩
    · exact ⟨rfl, (Res.r2 (show RV _ _ _ (.tmp 8) (Value.int .i64 0) from by exact rfl) (show RV _ _ _ (.tmp 9) (Value.int .i64 220) from by exact rfl))⟩
    refine ⟨?_, M.close [] rfl (by decide) trivial⟩
    simp [noE, *]

theorem le_get {G : Nat → Prop} {w : World} (lb : Nat) (v : Value) (xs : List Lease) (most : Int) (last : Int) (o : Int) (i : Int) (c : Bool)   (M : Mem G (fun _ => False) w [] [(fun w => w.heap[lb]? = some (.cells #[v, (Value.int .i64 most), (Value.int .u64 last)] 147)), SlAt 5 v xs.length (xs.flatMap leaseE)] w) : Rets Try.prog 49 #[(Value.pointer (some ⟨lb, 0, none⟩)), (Value.int .i64 o), (Value.int .u64 i), (Value.bool c)] w fun r w' => r = (Value.tuple #[(Value.agg #[(Value.int .u64 (((getV xs o i c).1).id)), (Value.int .i64 (((getV xs o i c).1).owner)), (Value.int .u64 (((getV xs o i c).1).epoch)), (Value.int .u64 (((getV xs o i c).1).till)), (Value.bool (((getV xs o i c).1).cursor))]), (Value.int .i64 ((getV xs o i c).2))]) ∧ Mem G (fun _ => False) w [] [] w' := by
  refine Rets.enter 31 _ Try.func49 rfl Try.ntmps49 Try.results49 (by simp) ?_
  have hle1 := SlAt.le' (M.rep 1 rfl)
  have sl2 : IsSl v := SlAt.isSl (Mem.rep M 1 rfl)
  refine W.seq' ?_
  refine W.region rfl ?_
  refine WL.alloc (c := #[(Value.int .u64 0), (Value.int .i64 0), (Value.int .u64 0), (Value.int .u64 0), (Value.bool false)]) M rfl Try.el85.zero rfl (fun b3 w4 hb3 M => ?_)
  refine WL.step (v := (Value.int .i64 0)) rfl (Step.assign rfl) ?_
  refine WL.nil ?_
  refine W.seq' ?_
  refine W.region rfl ?_
  refine WL.step (v := (Value.pointer (some ⟨lb, 0, none⟩))) rfl (Step.move rfl) ?_
  refine WL.step (v := (Value.int .i64 o)) rfl (Step.move rfl) ?_
  refine WL.step (v := (Value.int .u64 i)) rfl (Step.move rfl) ?_
  refine WL.step (v := (Value.bool c)) rfl (Step.move rfl) ?_
  rcases Bool.eq_false_or_eq_true (hasL xs o i c) with h5 | h5
  ·
    refine WL.callX rfl (le_find lb v xs most last o i c h5 (M.enterW0 ⟨(M.wideR0 0 rfl), (M.wideR0 1 rfl), trivial⟩)) (CallsF.func Try.en97 rfl) ?_
    rintro _ w6 ⟨rfl, m⟩
    replace M := M.leaveW0 m
    clear m
    replace M : Mem _ _ _ [blk b3 (.cells #[(Value.int .u64 0), (Value.int .i64 0), (Value.int .u64 0), (Value.int .u64 0), (Value.bool false)] 85)] [(fun w => w.heap[lb]? = some (.cells #[v, (Value.int .i64 most), (Value.int .u64 last)] 147)), SlAt 5 v xs.length (xs.flatMap leaseE)] _ := M
    have hlt_ := atL_lt (show hasL xs o i c = true by assumption)
    refine WL.step (v := (Value.tuple #[(Value.int .i64 (↑(atL xs o i c))), (Value.int .i64 0)])) rfl (Step.move rfl) ?_
    refine WL.step (v := (Value.int .i64 (↑(atL xs o i c)))) rfl (Step.pure (by kernel_rfl)) ?_
    refine WL.step (v := (Value.int .i64 0)) rfl (Step.pure (by kernel_rfl)) ?_
    refine WL.step (v := (Value.int .i64 (↑(atL xs o i c)))) rfl (Step.assign rfl) ?_
    refine WL.step (v := (Value.int .i64 0)) rfl (Step.assign rfl) ?_
    refine WL.nil ?_
    refine W.seq' ?_
    refine W.seq' ?_
    refine W.region rfl ?_
    refine WL.step (v := (Value.int .i64 0)) rfl (Step.move rfl) ?_
    refine WL.step (v := (Value.bool false)) rfl (Step.pure (by kernel_rfl)) ?_
    refine WL.nil ?_
    refine W.cond (t := false) rfl (fun h => by cases h) (fun _ => ?_)
    refine W.skip ?_
    refine W.seq' ?_
    refine W.region rfl ?_
    refine WL.step (v := (Value.pointer (some ⟨lb, 0, none⟩))) rfl (Step.move rfl) ?_
    refine WL.step (v := (Value.pointer (some ⟨lb, 0, none⟩))) rfl (Step.pure (by kernel_rfl)) ?_
    refine WL.step (v := (Value.pointer (some ⟨lb, 0, none⟩))) rfl (Step.pure (by kernel_rfl)) ?_
    refine WL.step (v := v) rfl (Step.load1 Try.sc100 rfl ((cell_blk (M.rep 0 rfl) 0).trans rfl)) ?_
    refine WL.step (v := (Value.int .i64 (↑(atL xs o i c)))) rfl (Step.move rfl) ?_
    obtain ⟨cap8, hb7⟩ := SlAt.base (M.rep 1 rfl) (by omega)
    obtain ⟨x9, hx9⟩ := elem_of_lt (xs := xs) (i := atL xs o i c) (by omega)
    have hthe_ := theL_eq hx9
    refine WL.step (v := (Value.pointer (some ⟨(sBlk v), sOff v + (atL xs o i c) * 5, none⟩))) rfl (Step.indexAddr (i := atL xs o i c) (Try.un100).run Try.el85.sized rfl rfl (by omega) hb7 (by omega)) ?_
    refine WL.step (v := (Value.agg #[(Value.int .u64 x9.id), (Value.int .i64 x9.owner), (Value.int .u64 x9.epoch), (Value.int .u64 x9.till), (Value.bool x9.cursor)])) rfl (Step.loadEN (k := 0) (cs' := [(Value.int .u64 x9.id), (Value.int .i64 x9.owner), (Value.int .u64 x9.epoch), (Value.int .u64 x9.till), (Value.bool x9.cursor)]) Try.ag85 (flat_ec (M.rep 1 rfl) hx9 leaseE_len) (by decide) rfl rfl rfl) ?_
    refine WL.store (v := (Value.agg #[(Value.int .u64 x9.id), (Value.int .i64 x9.owner), (Value.int .u64 x9.epoch), (Value.int .u64 x9.till), (Value.bool x9.cursor)])) (cs := [(Value.int .u64 x9.id), (Value.int .i64 x9.owner), (Value.int .u64 x9.epoch), (Value.int .u64 x9.till), (Value.bool x9.cursor)]) (c' := #[(Value.int .u64 x9.id), (Value.int .i64 x9.owner), (Value.int .u64 x9.epoch), (Value.int .u64 x9.till), (Value.bool x9.cursor)]) M 0 rfl rfl Try.el85.sized rfl rfl rfl rfl (Nat.le_of_ble_eq_true rfl) (cel_cons rfl (cel_cons rfl (cel_cons rfl (cel_cons rfl (cel_cons rfl cel_nil))))) rfl rfl (fun w10 M => ?_)
    refine WL.step (v := (Value.int .i64 0)) rfl (Step.assign rfl) ?_
    refine WL.nil ?_
    refine W.ret ?_
    refine ⟨.inl rfl, (Value.tuple #[(Value.agg #[(Value.int .u64 x9.id), (Value.int .i64 x9.owner), (Value.int .u64 x9.epoch), (Value.int .u64 x9.till), (Value.bool x9.cursor)]), (Value.int .i64 0)]), ?_, ?_⟩
    · exact ⟨rfl, (Res.r2 (RV.cellN Try.ag85 rfl (M.blk 0 rfl) rfl) (show RV _ _ _ (.tmp 9) (Value.int .i64 0) from by exact rfl))⟩
    refine ⟨?_, M.close [] rfl (by decide) trivial⟩
    simp [getV, leaseZ, h5, hthe_]
  ·
    refine WL.callX rfl (le_findno lb v xs most last o i c h5 (M.enterW0 ⟨(M.wideR0 0 rfl), (M.wideR0 1 rfl), trivial⟩)) (CallsF.func Try.en97 rfl) ?_
    rintro _ w11 ⟨rfl, m⟩
    replace M := M.leaveW0 m
    clear m
    replace M : Mem _ _ _ [blk b3 (.cells #[(Value.int .u64 0), (Value.int .i64 0), (Value.int .u64 0), (Value.int .u64 0), (Value.bool false)] 85)] [(fun w => w.heap[lb]? = some (.cells #[v, (Value.int .i64 most), (Value.int .u64 last)] 147)), SlAt 5 v xs.length (xs.flatMap leaseE)] _ := M
    refine WL.step (v := (Value.tuple #[(Value.int .i64 0), (Value.int .i64 (noE c))])) rfl (Step.move rfl) ?_
    refine WL.step (v := (Value.int .i64 0)) rfl (Step.pure (by kernel_rfl)) ?_
    refine WL.step (v := (Value.int .i64 (noE c))) rfl (Step.pure (by kernel_rfl)) ?_
    refine WL.step (v := (Value.int .i64 0)) rfl (Step.assign rfl) ?_
    refine WL.step (v := (Value.int .i64 (noE c))) rfl (Step.assign rfl) ?_
    refine WL.nil ?_
    refine W.seq' ?_
    refine W.seq' ?_
    refine W.region rfl ?_
    refine WL.step (v := (Value.int .i64 (noE c))) rfl (Step.move rfl) ?_
    refine WL.step (v := (Value.bool true)) rfl (Step.cast (congrArg Value.bool (show ((noE c : Int) != (0 : Int)) = true by unfold noE; split <;> rfl)) (Step.pure (by kernel_rfl))) ?_
    refine WL.nil ?_
    refine W.cond (t := true) rfl (fun _ => ?_) (fun h => by cases h)
    refine W.seq' ?_
    refine W.region rfl ?_
    refine WL.step (v := (Value.agg #[(Value.int .u64 0), (Value.int .i64 0), (Value.int .u64 0), (Value.int .u64 0), (Value.bool false)])) rfl (Step.pure (by kernel_rfl)) ?_
    refine WL.step (v := (Value.int .i64 (noE c))) rfl (Step.move rfl) ?_
    refine WL.store (v := (Value.agg #[(Value.int .u64 0), (Value.int .i64 0), (Value.int .u64 0), (Value.int .u64 0), (Value.bool false)])) (cs := [(Value.int .u64 0), (Value.int .i64 0), (Value.int .u64 0), (Value.int .u64 0), (Value.bool false)]) (c' := #[(Value.int .u64 0), (Value.int .i64 0), (Value.int .u64 0), (Value.int .u64 0), (Value.bool false)]) M 0 rfl rfl Try.el85.sized rfl rfl rfl rfl (Nat.le_of_ble_eq_true rfl) (cel_cons rfl (cel_cons rfl (cel_cons rfl (cel_cons rfl (cel_cons rfl cel_nil))))) rfl rfl (fun w12 M => ?_)
    refine WL.step (v := (Value.int .i64 (noE c))) rfl (Step.assign rfl) ?_
    refine WL.nil ?_
    refine W.ret ?_
    refine ⟨.inl rfl, (Value.tuple #[(Value.agg #[(Value.int .u64 0), (Value.int .i64 0), (Value.int .u64 0), (Value.int .u64 0), (Value.bool false)]), (Value.int .i64 (noE c))]), ?_, ?_⟩
    · exact ⟨rfl, (Res.r2 (RV.cellN Try.ag85 rfl (M.blk 0 rfl) rfl) (show RV _ _ _ (.tmp 9) (Value.int .i64 (noE c)) from by exact rfl))⟩
    refine ⟨?_, M.close [] rfl (by decide) trivial⟩
    simp [getV, leaseZ, h5]

theorem le_len {G : Nat → Prop} {w : World} (lb : Nat) (v : Value) (xs : List Lease) (most : Int) (last : Int)   (M : Mem G (fun _ => False) w [] [(fun w => w.heap[lb]? = some (.cells #[v, (Value.int .i64 most), (Value.int .u64 last)] 147)), SlAt 5 v xs.length (xs.flatMap leaseE)] w) : Rets Try.prog 45 #[(Value.pointer (some ⟨lb, 0, none⟩))] w fun r w' => r = (Value.int .i64 ↑xs.length) ∧ Mem G (fun _ => False) w [] [] w' := by
  refine Rets.enter 10 _ Try.func45 rfl Try.ntmps45 Try.results45 (by simp) ?_
  have hle1 := SlAt.le' (M.rep 1 rfl)
  have sl2 : IsSl v := SlAt.isSl (Mem.rep M 1 rfl)
  refine W.seq' ?_
  refine W.region rfl ?_
  refine WL.step (v := (Value.int .i64 0)) rfl (Step.assign rfl) ?_
  refine WL.nil ?_
  refine W.seq' ?_
  refine W.seq' ?_
  refine W.region rfl ?_
  refine WL.step (v := (Value.pointer (some ⟨lb, 0, none⟩))) rfl (Step.move rfl) ?_
  refine WL.step (v := (Value.bool false)) rfl (Step.pure (by kernel_rfl)) ?_
  refine WL.nil ?_
  refine W.cond (t := false) rfl (fun h => by cases h) (fun _ => ?_)
  refine W.skip ?_
  refine W.seq' ?_
  refine W.region rfl ?_
  refine WL.step (v := (Value.pointer (some ⟨lb, 0, none⟩))) rfl (Step.move rfl) ?_
  refine WL.step (v := (Value.pointer (some ⟨lb, 0, none⟩))) rfl (Step.pure (by kernel_rfl)) ?_
  refine WL.step (v := (Value.pointer (some ⟨lb, 0, none⟩))) rfl (Step.pure (by kernel_rfl)) ?_
  refine WL.step (v := v) rfl (Step.load1 Try.sc100 rfl ((cell_blk (M.rep 0 rfl) 0).trans rfl)) ?_
  refine WL.step (v := (Value.int .i64 ↑xs.length)) rfl (Step.lenSl Try.un100 rfl (M.rep 1 rfl)) ?_
  refine WL.step (v := (Value.int .i64 ↑xs.length)) rfl (Step.assign rfl) ?_
  refine WL.nil ?_
  refine W.ret ?_
  refine ⟨.inl rfl, (Value.int .i64 ↑xs.length), ?_, ?_⟩
  · exact ⟨rfl, (Res.r1 (show RV _ _ _ (.tmp 2) (Value.int .i64 ↑xs.length) from by exact rfl))⟩
  refine ⟨?_, M.close [] rfl (by decide) trivial⟩
  rfl

theorem le_live {G : Nat → Prop} {w : World} (lb : Nat) (v : Value) (xs : List Lease) (most : Int) (last : Int)  (hb : xs.length ≤ 1000000) (M : Mem G (fun _ => False) w [] [(fun w => w.heap[lb]? = some (.cells #[v, (Value.int .i64 most), (Value.int .u64 last)] 147)), SlAt 5 v xs.length (xs.flatMap leaseE)] w) : Rets Try.prog 57 #[(Value.pointer (some ⟨lb, 0, none⟩))] w fun r w' => ∃ (v' : Value), r = v' ∧ Mem G (fun _ => False) w [own 85 5 v' xs.length (xs.flatMap leaseE)] [] w' := by
  refine Rets.enter 10 _ Try.func57 rfl Try.ntmps57 Try.results57 (by simp) ?_
  have hle1 := SlAt.le' (M.rep 1 rfl)
  have sl2 : IsSl v := SlAt.isSl (Mem.rep M 1 rfl)
  refine W.seq' ?_
  refine W.region rfl ?_
  refine WL.step (v := (Value.slice none 0 0)) rfl (Step.assign rfl) ?_
  refine WL.nil ?_
  refine W.seq' ?_
  refine W.seq' ?_
  refine W.region rfl ?_
  refine WL.step (v := (Value.pointer (some ⟨lb, 0, none⟩))) rfl (Step.move rfl) ?_
  refine WL.step (v := (Value.bool false)) rfl (Step.pure (by kernel_rfl)) ?_
  refine WL.nil ?_
  refine W.cond (t := false) rfl (fun h => by cases h) (fun _ => ?_)
  refine W.skip ?_
  refine W.seq' ?_
  refine W.region rfl ?_
  refine WL.step (v := (Value.pointer (some ⟨lb, 0, none⟩))) rfl (Step.move rfl) ?_
  refine WL.step (v := (Value.pointer (some ⟨lb, 0, none⟩))) rfl (Step.pure (by kernel_rfl)) ?_
  refine WL.step (v := (Value.pointer (some ⟨lb, 0, none⟩))) rfl (Step.pure (by kernel_rfl)) ?_
  refine WL.step (v := v) rfl (Step.load1 Try.sc100 rfl ((cell_blk (M.rep 0 rfl) 0).trans rfl)) ?_
  refine WL.callX rfl (clone_lease v xs (by omega) (M.enterW0 ⟨(M.wideR0 1 rfl), trivial⟩)) (CallsF.func Try.en106 rfl) ?_
  rintro v3 w4 ⟨_, rfl, m⟩
  replace M := M.leaveW0 m
  clear m
  replace M : Mem _ _ _ [own 85 5 v3 xs.length (xs.flatMap leaseE)] [(fun w => w.heap[lb]? = some (.cells #[v, (Value.int .i64 most), (Value.int .u64 last)] 147)), SlAt 5 v xs.length (xs.flatMap leaseE)] _ := M
  have sl5 : IsSl v3 := SlAt.isSl (own_slAt (Mem.chunk M 0 rfl).inv)
  have hle6 := SlAt.le' (own_slAt (Mem.chunk M 0 rfl).inv)
  refine WL.step (v := v3) rfl (Step.assign rfl) ?_
  refine WL.nil ?_
  refine W.ret ?_
  refine ⟨.inl rfl, v3, ?_, ?_⟩
  · exact ⟨rfl, (Res.r1 (show RV _ _ _ (.tmp 2) v3 from by exact rfl))⟩
  refine ⟨v3, ?_, M.close [0] rfl (by decide) trivial⟩
  rfl

theorem le_least {G : Nat → Prop} {w : World} (lb : Nat) (v : Value) (xs : List Lease) (most : Int) (last : Int)   (M : Mem G (fun _ => False) w [] [(fun w => w.heap[lb]? = some (.cells #[v, (Value.int .i64 most), (Value.int .u64 last)] 147)), SlAt 5 v xs.length (xs.flatMap leaseE)] w) : Rets Try.prog 50 #[(Value.pointer (some ⟨lb, 0, none⟩))] w fun r w' => r = (Value.tuple #[(Value.int .u64 ((leastV xs).1)), (Value.bool ((leastV xs).2))]) ∧ Mem G (fun _ => False) w [] [] w' := by
  refine Rets.enter 13 _ Try.func50 rfl Try.ntmps50 Try.results50 (by simp) ?_
  have hle1 := SlAt.le' (M.rep 1 rfl)
  have sl2 : IsSl v := SlAt.isSl (Mem.rep M 1 rfl)
  refine W.seq' ?_
  refine W.region rfl ?_
  refine WL.step (v := (Value.int .u64 0)) rfl (Step.assign rfl) ?_
  refine WL.step (v := (Value.bool false)) rfl (Step.assign rfl) ?_
  refine WL.nil ?_
  refine W.seq' ?_
  refine W.seq' ?_
  refine W.region rfl ?_
  refine WL.step (v := (Value.pointer (some ⟨lb, 0, none⟩))) rfl (Step.move rfl) ?_
  refine WL.callX rfl (le_len lb v xs most last (M.enterW0 ⟨(M.wideR0 0 rfl), (M.wideR0 1 rfl), trivial⟩)) (CallsF.func Try.en45 rfl) ?_
  rintro _ w3 ⟨rfl, m⟩
  replace M := M.leaveW0 m
  clear m
  replace M : Mem _ _ _ [] [(fun w => w.heap[lb]? = some (.cells #[v, (Value.int .i64 most), (Value.int .u64 last)] 147)), SlAt 5 v xs.length (xs.flatMap leaseE)] _ := M
  refine WL.step (v := (Value.bool ((↑xs.length : Int) == (0 : Int)))) rfl (Step.pure (by kernel_rfl)) ?_
  refine WL.nil ?_
  refine W.cond (t := (↑xs.length : Int) == (0 : Int)) rfl (fun h4 => ?_) (fun h4 => ?_)
  ·
    have h4p : (↑xs.length : Int) = (0 : Int) := by simpa using h4
    refine W.seq' ?_
    refine W.region rfl ?_
    refine WL.step (v := (Value.int .u64 0)) rfl (Step.assign rfl) ?_
    refine WL.step (v := (Value.bool false)) rfl (Step.assign rfl) ?_
    refine WL.nil ?_
    refine W.ret ?_
    refine ⟨.inl rfl, (Value.tuple #[(Value.int .u64 0), (Value.bool false)]), ?_, ?_⟩
    · exact ⟨rfl, (Res.r2 (show RV _ _ _ (.tmp 2) (Value.int .u64 0) from by exact rfl) (show RV _ _ _ (.tmp 3) (Value.bool false) from by exact rfl))⟩
    refine ⟨?_, M.close [] rfl (by decide) trivial⟩
    simp only [leastV, if_pos (show  xs.length = 0 by omega)]
  ·
    have h4p : ¬ (↑xs.length : Int) = (0 : Int) := by simpa using h4
    refine W.skip ?_
    refine W.seq' ?_
    refine W.region rfl ?_
    refine WL.step (v := (Value.pointer (some ⟨lb, 0, none⟩))) rfl (Step.move rfl) ?_
    refine WL.step (v := (Value.pointer (some ⟨lb, 0, none⟩))) rfl (Step.pure (by kernel_rfl)) ?_
    refine WL.step (v := (Value.pointer (some ⟨lb, 0, none⟩))) rfl (Step.pure (by kernel_rfl)) ?_
    refine WL.step (v := v) rfl (Step.load1 Try.sc100 rfl ((cell_blk (M.rep 0 rfl) 0).trans rfl)) ?_
    refine WL.callX rfl (min_lease v xs (by omega) (M.enterW0 ⟨(M.wideR0 1 rfl), trivial⟩)) (CallsF.func Try.en98 rfl) ?_
    rintro _ w5 ⟨rfl, m⟩
    replace M := M.leaveW0 m
    clear m
    replace M : Mem _ _ _ [] [(fun w => w.heap[lb]? = some (.cells #[v, (Value.int .i64 most), (Value.int .u64 last)] 147)), SlAt 5 v xs.length (xs.flatMap leaseE)] _ := M
    refine WL.step (v := (Value.int .u64 ((minL xs).epoch))) rfl (Step.pure (by kernel_rfl)) ?_
    refine WL.step (v := (Value.int .u64 ((minL xs).epoch))) rfl (Step.assign rfl) ?_
    refine WL.step (v := (Value.bool true)) rfl (Step.assign rfl) ?_
    refine WL.nil ?_
    refine W.ret ?_
    refine ⟨.inl rfl, (Value.tuple #[(Value.int .u64 ((minL xs).epoch)), (Value.bool true)]), ?_, ?_⟩
    · exact ⟨rfl, (Res.r2 (show RV _ _ _ (.tmp 2) (Value.int .u64 ((minL xs).epoch)) from by exact rfl) (show RV _ _ _ (.tmp 3) (Value.bool true) from by exact rfl))⟩
    refine ⟨?_, M.close [] rfl (by decide) trivial⟩
    simp only [leastV, if_neg (show ¬ xs.length = 0 by omega)]

theorem le_new {G : Nat → Prop} {w : World} (most : Int)   (M : Mem G (fun _ => False) w [] [] w) : Rets Try.prog 42 #[(Value.int .i64 most)] w fun r w' => ∃ (lb' : Nat), r = (Value.pointer (some ⟨lb', 0, none⟩)) ∧ Mem G (fun _ => False) w [blk lb' (.cells #[(Value.slice none 0 0), (Value.int .i64 (max (0 : Int) (most : Int))), (Value.int .u64 0)] 147)] [] w' := by
  refine Rets.enter 7 _ Try.func42 rfl Try.ntmps42 Try.results42 (by simp) ?_
  refine W.seq' ?_
  refine W.region rfl ?_
  refine WL.step (v := (Value.pointer none)) rfl (Step.assign rfl) ?_
  refine WL.nil ?_
  refine W.seq' ?_
  refine W.region rfl ?_
  refine WL.step (v := (Value.int .i64 most)) rfl (Step.move rfl) ?_
  refine WL.step (v := (Value.int .i64 (max (0 : Int) (most : Int)))) rfl (Step.maxI rfl rfl) ?_
  refine WL.step (v := (Value.agg #[(Value.slice none 0 0), (Value.int .i64 (max (0 : Int) (most : Int))), (Value.int .u64 0)])) rfl (Step.pure (by kernel_rfl)) ?_
  refine WL.box (v := (Value.agg #[(Value.slice none 0 0), (Value.int .i64 (max (0 : Int) (most : Int))), (Value.int .u64 0)])) (c := #[(Value.slice none 0 0), (Value.int .i64 (max (0 : Int) (most : Int))), (Value.int .u64 0)]) M rfl rfl rfl (fun b1 w2 hb1 M => ?_)
  refine WL.step (v := (Value.pointer (some ⟨b1, 0, none⟩))) rfl (Step.assign rfl) ?_
  refine WL.nil ?_
  refine W.ret ?_
  refine ⟨.inl rfl, (Value.pointer (some ⟨b1, 0, none⟩)), ?_, ?_⟩
  · exact ⟨rfl, (Res.r1 (show RV _ _ _ (.tmp 2) (Value.pointer (some ⟨b1, 0, none⟩)) from by exact rfl))⟩
  refine ⟨b1, ?_, M.close [0] rfl (by decide) trivial⟩
  rfl
end Go.Proofs
