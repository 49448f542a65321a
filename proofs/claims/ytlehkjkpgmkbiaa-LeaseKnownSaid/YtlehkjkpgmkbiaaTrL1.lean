/- Walks. -/
import Derived.Test.YtlehkjkpgmkbiaaTrLeaseM
import Derived.Test.YtlehkjkpgmkbiaaChecked
set_option maxRecDepth 100000
set_option linter.all false
namespace Go.Proofs
open Go Tp
theorem Try.un100 : Und Try.prog 100 (.slice 85) := by unfold Und; kernel_rfl
theorem Try.ag85 : Aggr Try.prog 85 5 := ⟨fun _ => by kernel_rfl, fun _ => by kernel_rfl⟩
theorem Try.el85 : Elem Try.prog 85 (Value.agg #[(Value.int .u64 0), (Value.int .i64 0), (Value.int .u64 0), (Value.int .u64 0), (Value.bool false)]) 5 40 := Elem.mk (by kernel_rfl)
theorem Try.en99 : Enters Try.prog 99 := fun _ _ => by kernel_rfl
theorem Try.en100 : Enters Try.prog 100 := fun _ _ => by kernel_rfl
theorem Try.en128 : Enters Try.prog 128 := fun _ _ => by kernel_rfl
theorem Try.sc23 : Scal Try.prog 23 := fun _ => by kernel_rfl
theorem Try.mixed : Try.prog.follows .mixedOrders = true := by kernel_rfl

theorem isnan_uint64 {G : Nat → Prop} {w : World} (x : Int)   (M : Mem G (fun _ => False) w [] [] w) : Rets Try.prog 128 #[(Value.int .u64 x)] w fun r w' => r = (Value.bool false) ∧ Mem G (fun _ => False) w [] [] w' := by
  refine Rets.enter 6 _ Try.func128 rfl Try.ntmps128 Try.results128 (by simp) ?_
  refine W.seq' ?_
  refine W.region rfl ?_
  refine WL.step (v := (Value.bool false)) rfl (Step.assign rfl) ?_
  refine WL.nil ?_
  refine W.seq' ?_
  refine W.region rfl ?_
  refine WL.step (v := (Value.int .u64 x)) rfl (Step.move rfl) ?_
  refine WL.step (v := (Value.int .u64 x)) rfl (Step.move rfl) ?_
  refine WL.step (v := (Value.bool false)) rfl (Step.cast (congrArg Value.bool (show ((x : Int) != (x : Int)) = false by simp)) (Step.pure (by kernel_rfl))) ?_
  refine WL.step (v := (Value.bool false)) rfl (Step.assign rfl) ?_
  refine WL.nil ?_
  refine W.ret ?_
  refine ⟨.inl rfl, (Value.bool false), ?_, ?_⟩
  · exact ⟨rfl, (Res.r1 (show RV _ _ _ (.tmp 2) (Value.bool false) from by exact rfl))⟩
  refine ⟨?_, M.close [] rfl (by decide) trivial⟩
  rfl

theorem cmp_uint64 {G : Nat → Prop} {w : World} (x : Int) (y : Int)   (M : Mem G (fun _ => False) w [] [] w) : Rets Try.prog 100 #[(Value.int .u64 x), (Value.int .u64 y)] w fun r w' => r = (Value.int .i64 (cmpI x y)) ∧ Mem G (fun _ => False) w [] [] w' := by
  refine Rets.enter 20 _ Try.func100 rfl Try.ntmps100 Try.results100 (by simp) ?_
  refine W.seq' ?_
  refine W.region rfl ?_
  refine WL.step (v := (Value.int .i64 0)) rfl (Step.assign rfl) ?_
  refine WL.nil ?_
  refine W.seq' ?_
  refine W.region rfl ?_
  refine WL.step (v := (Value.int .u64 x)) rfl (Step.move rfl) ?_
  refine WL.callX rfl (isnan_uint64 x (M.enterW0 trivial)) (CallsF.func Try.en128 rfl) ?_
  rintro _ w1 ⟨rfl, m⟩
  replace M := M.leaveW0 m
  clear m
  replace M : Mem _ _ _ [] [] _ := M
  refine WL.step (v := (Value.bool false)) rfl (Step.assign rfl) ?_
  refine WL.nil ?_
  refine W.seq' ?_
  refine W.region rfl ?_
  refine WL.step (v := (Value.int .u64 y)) rfl (Step.move rfl) ?_
  refine WL.callX rfl (isnan_uint64 y (M.enterW0 trivial)) (CallsF.func Try.en128 rfl) ?_
  rintro _ w2 ⟨rfl, m⟩
  replace M := M.leaveW0 m
  clear m
  replace M : Mem _ _ _ [] [] _ := M
  refine WL.step (v := (Value.bool false)) rfl (Step.assign rfl) ?_
  refine WL.nil ?_
  refine W.seq' ?_
  refine W.seq' ?_
  refine W.region rfl ?_
  refine WL.step (v := (Value.bool false)) rfl (Step.move rfl) ?_
  refine WL.nil ?_
  refine W.cond (t := false) rfl (fun h => by cases h) (fun _ => ?_)
  refine W.skip ?_
  refine W.seq' ?_
  refine W.seq' ?_
  refine W.region rfl ?_
  refine WL.step (v := (Value.bool false)) rfl (Step.move rfl) ?_
  refine WL.nil ?_
  refine W.cond (t := false) rfl (fun h => by cases h) (fun _ => ?_)
  refine W.skip ?_
  refine W.seq' ?_
  refine W.seq' ?_
  refine W.region rfl ?_
  refine WL.step (v := (Value.int .u64 x)) rfl (Step.move rfl) ?_
  refine WL.step (v := (Value.int .u64 y)) rfl (Step.move rfl) ?_
  refine WL.step (v := (Value.bool (decide ((x : Int) < (y : Int))))) rfl (Step.pure (by kernel_rfl)) ?_
  refine WL.nil ?_
  refine W.cond (t := decide ((x : Int) < (y : Int))) rfl (fun h3 => ?_) (fun h3 => ?_)
  ·
    have h3p := of_decide_eq_true h3
    refine W.seq' ?_
    refine W.region rfl ?_
    refine WL.step (v := (Value.int .i64 (-1))) rfl (Step.assign rfl) ?_
    refine WL.nil ?_
    refine W.ret ?_
    refine ⟨.inl rfl, (Value.int .i64 (-1)), ?_, ?_⟩
    · exact ⟨rfl, (Res.r1 (show RV _ _ _ (.tmp 4) (Value.int .i64 (-1)) from by exact rfl))⟩
    refine ⟨?_, M.close [] rfl (by decide) trivial⟩
    refine congrArg (Value.int .i64) (Eq.symm ?_); unfold cmpI; (repeat split) <;> omega
  ·
    have h3p := of_decide_eq_false h3
    refine W.skip ?_
    refine W.seq' ?_
    refine W.seq' ?_
    refine W.region rfl ?_
    refine WL.step (v := (Value.int .u64 x)) rfl (Step.move rfl) ?_
    refine WL.step (v := (Value.int .u64 y)) rfl (Step.move rfl) ?_
    refine WL.step (v := (Value.bool (decide ((x : Int) > (y : Int))))) rfl (Step.pure (by kernel_rfl)) ?_
    refine WL.nil ?_
    refine W.cond (t := decide ((x : Int) > (y : Int))) rfl (fun h4 => ?_) (fun h4 => ?_)
    ·
      have h4p := of_decide_eq_true h4
      refine W.seq' ?_
      refine W.region rfl ?_
      refine WL.step (v := (Value.int .i64 1)) rfl (Step.assign rfl) ?_
      refine WL.nil ?_
      refine W.ret ?_
      refine ⟨.inl rfl, (Value.int .i64 1), ?_, ?_⟩
      · exact ⟨rfl, (Res.r1 (show RV _ _ _ (.tmp 4) (Value.int .i64 1) from by exact rfl))⟩
      refine ⟨?_, M.close [] rfl (by decide) trivial⟩
      refine congrArg (Value.int .i64) (Eq.symm ?_); unfold cmpI; (repeat split) <;> omega
    ·
      have h4p := of_decide_eq_false h4
      refine W.skip ?_
      refine W.seq' ?_
      refine W.region rfl ?_
      refine WL.step (v := (Value.int .i64 0)) rfl (Step.assign rfl) ?_
      refine WL.nil ?_
      refine W.ret ?_
      refine ⟨.inl rfl, (Value.int .i64 0), ?_, ?_⟩
      · exact ⟨rfl, (Res.r1 (show RV _ _ _ (.tmp 4) (Value.int .i64 0) from by exact rfl))⟩
      refine ⟨?_, M.close [] rfl (by decide) trivial⟩
      refine congrArg (Value.int .i64) (Eq.symm ?_); unfold cmpI; (repeat split) <;> omega

theorem le_least1 {G : Nat → Prop} {w : World} (a : Lease) (b : Lease)   (M : Mem G (fun _ => False) w [] [] w) : Rets Try.prog 99 #[(Value.agg #[(Value.int .u64 a.id), (Value.int .i64 a.owner), (Value.int .u64 a.epoch), (Value.int .u64 a.till), (Value.bool a.cursor)]), (Value.agg #[(Value.int .u64 b.id), (Value.int .i64 b.owner), (Value.int .u64 b.epoch), (Value.int .u64 b.till), (Value.bool b.cursor)])] w fun r w' => r = (Value.int .i64 (cmpI a.epoch b.epoch)) ∧ Mem G (fun _ => False) w [] [] w' := by
  refine Rets.enter 10 _ Try.func99 rfl Try.ntmps99 Try.results99 (by simp) ?_
  refine W.seq' ?_
  refine W.region rfl ?_
  refine WL.box (v := (Value.agg #[(Value.int .u64 a.id), (Value.int .i64 a.owner), (Value.int .u64 a.epoch), (Value.int .u64 a.till), (Value.bool a.cursor)])) (c := #[(Value.int .u64 a.id), (Value.int .i64 a.owner), (Value.int .u64 a.epoch), (Value.int .u64 a.till), (Value.bool a.cursor)]) M rfl rfl rfl (fun b1 w2 hb1 M => ?_)
  refine WL.box (v := (Value.agg #[(Value.int .u64 b.id), (Value.int .i64 b.owner), (Value.int .u64 b.epoch), (Value.int .u64 b.till), (Value.bool b.cursor)])) (c := #[(Value.int .u64 b.id), (Value.int .i64 b.owner), (Value.int .u64 b.epoch), (Value.int .u64 b.till), (Value.bool b.cursor)]) M rfl rfl rfl (fun b3 w4 hb3 M => ?_)
  refine WL.step (v := (Value.int .i64 0)) rfl (Step.assign rfl) ?_
  refine WL.nil ?_
  refine W.seq' ?_
  refine W.region rfl ?_
  refine WL.step (v := (Value.pointer (some ⟨b1, 2, none⟩))) rfl (Step.pure (by kernel_rfl)) ?_
  refine WL.step (v := (Value.int .u64 a.epoch)) rfl (Step.load1 Try.sc23 rfl ((M.cell 1 rfl 2).trans rfl)) ?_
  refine WL.step (v := (Value.pointer (some ⟨b3, 2, none⟩))) rfl (Step.pure (by kernel_rfl)) ?_
  refine WL.step (v := (Value.int .u64 b.epoch)) rfl (Step.load1 Try.sc23 rfl ((M.cell 0 rfl 2).trans rfl)) ?_
  refine WL.callX rfl (cmp_uint64 a.epoch b.epoch (M.enterW0 trivial)) (CallsF.func Try.en100 rfl) ?_
  rintro _ w5 ⟨rfl, m⟩
  replace M := M.leaveW0 m
  clear m
  replace M : Mem _ _ _ [blk b3 (.cells #[(Value.int .u64 b.id), (Value.int .i64 b.owner), (Value.int .u64 b.epoch), (Value.int .u64 b.till), (Value.bool b.cursor)] 85), blk b1 (.cells #[(Value.int .u64 a.id), (Value.int .i64 a.owner), (Value.int .u64 a.epoch), (Value.int .u64 a.till), (Value.bool a.cursor)] 85)] [] _ := M
  refine WL.step (v := (Value.int .i64 (cmpI a.epoch b.epoch))) rfl (Step.assign rfl) ?_
  refine WL.nil ?_
  refine W.ret ?_
  refine ⟨.inl rfl, (Value.int .i64 (cmpI a.epoch b.epoch)), ?_, ?_⟩
  · exact ⟨rfl, (Res.r1 (show RV _ _ _ (.tmp 4) (Value.int .i64 (cmpI a.epoch b.epoch)) from by exact rfl))⟩
  refine ⟨?_, M.close [] rfl (by decide) trivial⟩
  rfl

theorem min_lease {G : Nat → Prop} {w : World} (v : Value) (xs : List Lease)  (hne : 0 < xs.length) (M : Mem G (fun _ => False) w [] [SlAt 5 v xs.length (xs.flatMap leaseE)] w) : Rets Try.prog 98 #[v, (Value.func (.func 99) #[] #[])] w fun r w' => r = (Value.agg #[(Value.int .u64 ((minL xs).id)), (Value.int .i64 ((minL xs).owner)), (Value.int .u64 ((minL xs).epoch)), (Value.int .u64 ((minL xs).till)), (Value.bool ((minL xs).cursor))]) ∧ Mem G (fun _ => False) w [] [] w' := by
  refine Rets.enter 33 _ Try.func98 rfl Try.ntmps98 Try.results98 (by simp) ?_
  have hle1 := SlAt.le' (M.rep 0 rfl)
  have sl2 : IsSl v := SlAt.isSl (Mem.rep M 0 rfl)
  refine W.seq' ?_
  refine W.region rfl ?_
  refine WL.alloc (c := #[(Value.int .u64 0), (Value.int .i64 0), (Value.int .u64 0), (Value.int .u64 0), (Value.bool false)]) M rfl Try.el85.zero rfl (fun b3 w4 hb3 M => ?_)
  refine WL.nil ?_
  refine W.seq' ?_
  refine W.seq' ?_
  refine W.region rfl ?_
  refine WL.step (v := v) rfl (Step.move rfl) ?_
  refine WL.step (v := (Value.int .i64 ↑xs.length)) rfl (Step.lenSl Try.un100 rfl (M.rep 0 rfl)) ?_
  refine WL.step (v := (Value.bool (decide ((↑xs.length : Int) < (1 : Int))))) rfl (Step.pure (by kernel_rfl)) ?_
  refine WL.nil ?_
  refine W.cond (t := decide ((↑xs.length : Int) < (1 : Int))) rfl (fun h5 => ?_) (fun h5 => ?_)
  ·
    have h5p := of_decide_eq_true h5
    exact absurd h5 (by simp; omega)
  ·
    have h5p := of_decide_eq_false h5
    refine W.skip ?_
    refine W.seq' ?_
    refine W.region rfl ?_
    refine WL.step (v := v) rfl (Step.move rfl) ?_
    obtain ⟨cap7, hb6⟩ := SlAt.base (M.rep 0 rfl) (by omega)
    obtain ⟨x8, hx8⟩ := elem_of_lt (xs := xs) (i := 0) (by omega)
    refine WL.step (v := (Value.pointer (some ⟨(sBlk v), sOff v + 0 * 5, none⟩))) rfl (Step.indexAddr (i := 0) (Try.un100).run Try.el85.sized rfl rfl rfl hb6 (by omega)) ?_
    refine WL.step (v := (Value.agg #[(Value.int .u64 x8.id), (Value.int .i64 x8.owner), (Value.int .u64 x8.epoch), (Value.int .u64 x8.till), (Value.bool x8.cursor)])) rfl (Step.loadEN (k := 0) (cs' := [(Value.int .u64 x8.id), (Value.int .i64 x8.owner), (Value.int .u64 x8.epoch), (Value.int .u64 x8.till), (Value.bool x8.cursor)]) Try.ag85 (flat_ec (M.rep 0 rfl) hx8 leaseE_len) (by decide) rfl rfl rfl) ?_
    refine WL.alloc (c := #[(Value.int .u64 0), (Value.int .i64 0), (Value.int .u64 0), (Value.int .u64 0), (Value.bool false)]) M rfl Try.el85.zero rfl (fun b9 w10 hb9 M => ?_)
    refine WL.store (v := (Value.agg #[(Value.int .u64 x8.id), (Value.int .i64 x8.owner), (Value.int .u64 x8.epoch), (Value.int .u64 x8.till), (Value.bool x8.cursor)])) (cs := [(Value.int .u64 x8.id), (Value.int .i64 x8.owner), (Value.int .u64 x8.epoch), (Value.int .u64 x8.till), (Value.bool x8.cursor)]) (c' := #[(Value.int .u64 x8.id), (Value.int .i64 x8.owner), (Value.int .u64 x8.epoch), (Value.int .u64 x8.till), (Value.bool x8.cursor)]) M 0 rfl rfl Try.el85.sized rfl rfl rfl rfl (Nat.le_of_ble_eq_true rfl) (cel_cons rfl (cel_cons rfl (cel_cons rfl (cel_cons rfl (cel_cons rfl cel_nil))))) rfl rfl (fun w11 M => ?_)
    refine WL.nil ?_
    refine W.seq' ?_
    refine W.seq' ?_
    refine W.region rfl ?_
    refine WL.step (v := (Value.int .i64 1)) rfl (Step.assign rfl) ?_
    refine WL.nil ?_
    refine W.block ?_
    replace M := M.rechunk 0 (c' := blk b9 (.cells #[(Value.int .u64 ((minL (xs.take 1)).id)), (Value.int .i64 ((minL (xs.take 1)).owner)), (Value.int .u64 ((minL (xs.take 1)).epoch)), (Value.int .u64 ((minL (xs.take 1)).till)), (Value.bool ((minL (xs.take 1)).cursor))] 85)) rfl (by rw [minL_one hx8])
    replace M : Mem _ _ _ [blk b9 (.cells #[(Value.int .u64 ((minL (xs.take 1)).id)), (Value.int .i64 ((minL (xs.take 1)).owner)), (Value.int .u64 ((minL (xs.take 1)).epoch)), (Value.int .u64 ((minL (xs.take 1)).till)), (Value.bool ((minL (xs.take 1)).cursor))] 85), blk b3 (.cells #[(Value.int .u64 0), (Value.int .i64 0), (Value.int .u64 0), (Value.int .u64 0), (Value.bool false)] 85)] [SlAt 5 v xs.length (xs.flatMap leaseE)] _ := M
    refine W.loop (fun kk ρ w' => ∃ (k_ : Nat), ((k_ ≤ xs.length) ∧ (1 ≤ k_) ∧ kk = xs.length - k_) ∧ ρ.has [(0, v), (1, (Value.func (.func 99) #[] #[])), (4, (Value.pointer (some ⟨b3, 0, none⟩))), (5, (Value.pointer (some ⟨b9, 0, none⟩))), (6, (Value.int .i64 ↑k_))] ∧ Mem G (fun _ => False) w [blk b9 (.cells #[(Value.int .u64 ((minL (xs.take k_)).id)), (Value.int .i64 ((minL (xs.take k_)).owner)), (Value.int .u64 ((minL (xs.take k_)).epoch)), (Value.int .u64 ((minL (xs.take k_)).till)), (Value.bool ((minL (xs.take k_)).cursor))] 85), blk b3 (.cells #[(Value.int .u64 0), (Value.int .i64 0), (Value.int .u64 0), (Value.int .u64 0), (Value.bool false)] 85)] [SlAt 5 v xs.length (xs.flatMap leaseE)]  w') _ ⟨1, ⟨(by omega), (Nat.le_refl _), rfl⟩, ⟨rfl, rfl, rfl, rfl, rfl, rfl, rfl⟩, M⟩ ?_
    rintro _ ρ13 w12 ⟨k_, ⟨hi14, hi15, rfl⟩, hρ, M⟩
    obtain ⟨ρ13, rfl⟩ := hρ.know
    clear hρ
    refine W.seq' ?_
    refine W.seq' ?_
    refine W.region rfl ?_
    refine WL.step (v := (Value.int .i64 ↑k_)) rfl (Step.move rfl) ?_
    refine WL.step (v := v) rfl (Step.move rfl) ?_
    refine WL.step (v := (Value.int .i64 ↑xs.length)) rfl (Step.lenSl Try.un100 rfl (M.rep 0 rfl)) ?_
    refine WL.step (v := (Value.bool (decide ((↑k_ : Int) < (↑xs.length : Int))))) rfl (Step.pure (by kernel_rfl)) ?_
    refine WL.nil ?_
    refine W.cond (t := decide ((↑k_ : Int) < (↑xs.length : Int))) rfl (fun h16 => ?_) (fun h16 => ?_)
    ·
      have h16p := of_decide_eq_true h16
      refine W.skip ?_
      refine W.seq' ?_
      refine W.block ?_
      refine W.seq' ?_
      obtain ⟨x17, hx17⟩ := elem_of_lt (xs := xs) (i := k_) (by omega)
      refine W.drawn M [0, 1, 2, 3, 4, 5, 6, 7] [6] [] [blk b9 (.cells #[(Value.int .u64 ((minL (xs.take k_)).id)), (Value.int .i64 ((minL (xs.take k_)).owner)), (Value.int .u64 ((minL (xs.take k_)).epoch)), (Value.int .u64 ((minL (xs.take k_)).till)), (Value.bool ((minL (xs.take k_)).cursor))] 85), blk b3 (.cells #[(Value.int .u64 0), (Value.int .i64 0), (Value.int .u64 0), (Value.int .u64 0), (Value.bool false)] 85)] [SlAt 5 v xs.length (xs.flatMap leaseE)] (List.Sublist.cons_cons _ (List.Sublist.cons_cons _ List.Sublist.slnil)) (fun _ h => h) Try.mixed (by kernel_rfl) ?_
      refine TW.pure (v := (Value.func (.func 99) #[] #[])) rfl (by decide) (by decide) rfl (fun w => (Step.move rfl)) ?_
      refine TW.pure (v := v) rfl (by decide) (by decide) rfl (fun w => (Step.move rfl)) ?_
      refine TW.pure (v := (Value.int .i64 ↑k_)) rfl (by decide) (by decide) rfl (fun w => (Step.move rfl)) ?_
      refine TW.pure (v := (Value.pointer (some ⟨(sBlk v), sOff v + k_ * 5, none⟩))) rfl (by decide) (by decide) rfl (fun w => (Step.indexAddr (i := k_) (Try.un100).run Try.el85.sized rfl rfl (by omega) hb6 (by omega))) ?_
      refine TW.read (v := (Value.agg #[(Value.int .u64 x17.id), (Value.int .i64 x17.owner), (Value.int .u64 x17.epoch), (Value.int .u64 x17.till), (Value.bool x17.cursor)])) rfl (by decide) (by decide) rfl (fun A w M => (Step.loadEN (k := 0) (cs' := [(Value.int .u64 x17.id), (Value.int .i64 x17.owner), (Value.int .u64 x17.epoch), (Value.int .u64 x17.till), (Value.bool x17.cursor)]) Try.ag85 (flat_ec (M.rep 0 rfl) hx17 leaseE_len) (by decide) rfl rfl rfl)) ?_
      refine TW.read (v := (Value.agg #[(Value.int .u64 ((minL (xs.take k_)).id)), (Value.int .i64 ((minL (xs.take k_)).owner)), (Value.int .u64 ((minL (xs.take k_)).epoch)), (Value.int .u64 ((minL (xs.take k_)).till)), (Value.bool ((minL (xs.take k_)).cursor))])) rfl (by decide) (by decide) rfl (fun A w M => (Step.loadN Try.ag85 rfl (M.blk 1 rfl) (Nat.le_of_ble_eq_true rfl) rfl)) ?_
      refine TW.callX (ι := Unit) (fun jx v_ => v_ = (Value.int .i64 (cmpI x17.epoch (minL (xs.take k_)).epoch))) (fun jx => [blk b9 (.cells #[(Value.int .u64 ((minL (xs.take k_)).id)), (Value.int .i64 ((minL (xs.take k_)).owner)), (Value.int .u64 ((minL (xs.take k_)).epoch)), (Value.int .u64 ((minL (xs.take k_)).till)), (Value.bool ((minL (xs.take k_)).cursor))] 85), blk b3 (.cells #[(Value.int .u64 0), (Value.int .i64 0), (Value.int .u64 0), (Value.int .u64 0), (Value.bool false)] 85)]) (fun jx => [SlAt 5 v xs.length (xs.flatMap leaseE)]) rfl (by decide) rfl (fun jx => (List.Sublist.cons_cons _ (List.Sublist.cons_cons _ List.Sublist.slnil))) (fun jx r h => h) (fun A w M => Rets.mono (le_least1 x17 (minL (xs.take k_)) (M.enterW0 trivial)) (fun v_ w_ ⟨e_, m⟩ => ⟨(), e_, (M.leaveW0 m).sel (L' := [fl A, blk b9 (.cells #[(Value.int .u64 ((minL (xs.take k_)).id)), (Value.int .i64 ((minL (xs.take k_)).owner)), (Value.int .u64 ((minL (xs.take k_)).epoch)), (Value.int .u64 ((minL (xs.take k_)).till)), (Value.bool ((minL (xs.take k_)).cursor))] 85), blk b3 (.cells #[(Value.int .u64 0), (Value.int .i64 0), (Value.int .u64 0), (Value.int .u64 0), (Value.bool false)] 85)]) [0, 1, 2] rfl (by decide), fun b hb => M.keptW0 m (fl A) (List.mem_cons_self ..) b hb⟩)) (fun w => CallsF.value Try.en99 rfl rfl rfl) (fun jx v hp hin => ?_)
      replace hp := hp.symm; subst hp
      clear hin
      change TW _ _ _ _ _ _ _ _ (MemA _ _ _ [blk b9 (.cells #[(Value.int .u64 ((minL (xs.take k_)).id)), (Value.int .i64 ((minL (xs.take k_)).owner)), (Value.int .u64 ((minL (xs.take k_)).epoch)), (Value.int .u64 ((minL (xs.take k_)).till)), (Value.bool ((minL (xs.take k_)).cursor))] 85), blk b3 (.cells #[(Value.int .u64 0), (Value.int .i64 0), (Value.int .u64 0), (Value.int .u64 0), (Value.bool false)] 85)] [SlAt 5 v xs.length (xs.flatMap leaseE)])
      refine TW.pure (v := (Value.bool (decide ((cmpI x17.epoch (minL (xs.take k_)).epoch : Int) < (0 : Int))))) rfl (by decide) (by decide) rfl (fun w => (Step.pure (by kernel_rfl))) ?_
      refine TW.done (fun w18 M => ?_)
      refine W.cond (t := decide ((cmpI x17.epoch (minL (xs.take k_)).epoch : Int) < (0 : Int))) rfl (fun h19 => ?_) (fun h19 => ?_)
      ·
        have h19p := of_decide_eq_true h19
        refine W.region rfl ?_
        refine WL.step (v := v) rfl (Step.move rfl) ?_
        refine WL.step (v := (Value.int .i64 ↑k_)) rfl (Step.move rfl) ?_
        refine WL.step (v := (Value.pointer (some ⟨(sBlk v), sOff v + k_ * 5, none⟩))) rfl (Step.indexAddr (i := k_) (Try.un100).run Try.el85.sized rfl rfl (by omega) hb6 (by omega)) ?_
        refine WL.step (v := (Value.agg #[(Value.int .u64 x17.id), (Value.int .i64 x17.owner), (Value.int .u64 x17.epoch), (Value.int .u64 x17.till), (Value.bool x17.cursor)])) rfl (Step.loadEN (k := 0) (cs' := [(Value.int .u64 x17.id), (Value.int .i64 x17.owner), (Value.int .u64 x17.epoch), (Value.int .u64 x17.till), (Value.bool x17.cursor)]) Try.ag85 (flat_ec (M.rep 0 rfl) hx17 leaseE_len) (by decide) rfl rfl rfl) ?_
        refine WL.store (v := (Value.agg #[(Value.int .u64 x17.id), (Value.int .i64 x17.owner), (Value.int .u64 x17.epoch), (Value.int .u64 x17.till), (Value.bool x17.cursor)])) (cs := [(Value.int .u64 x17.id), (Value.int .i64 x17.owner), (Value.int .u64 x17.epoch), (Value.int .u64 x17.till), (Value.bool x17.cursor)]) (c' := #[(Value.int .u64 x17.id), (Value.int .i64 x17.owner), (Value.int .u64 x17.epoch), (Value.int .u64 x17.till), (Value.bool x17.cursor)]) M 0 rfl rfl Try.el85.sized rfl rfl rfl rfl (Nat.le_of_ble_eq_true rfl) (cel_cons rfl (cel_cons rfl (cel_cons rfl (cel_cons rfl (cel_cons rfl cel_nil))))) rfl rfl (fun w20 M => ?_)
        refine WL.nil ?_
        refine W.region rfl ?_
        refine WL.step (v := (Value.int .i64 ↑k_)) rfl (Step.move rfl) ?_
        refine WL.step (v := (Value.int .i64 (↑k_ + 1))) rfl (Step.add rfl rfl (wrap_i64 (by omega))) ?_
        refine WL.step (v := (Value.int .i64 (↑k_ + 1))) rfl (Step.assign rfl) ?_
        refine WL.nil ?_
        have hs := minL_step (k := k_) (by omega) hx17
        rw [if_pos (cmpI_neg h19)] at hs
        replace M := M.rechunk 0 (c' := blk b9 (.cells #[(Value.int .u64 ((minL (xs.take (k_ + 1))).id)), (Value.int .i64 ((minL (xs.take (k_ + 1))).owner)), (Value.int .u64 ((minL (xs.take (k_ + 1))).epoch)), (Value.int .u64 ((minL (xs.take (k_ + 1))).till)), (Value.bool ((minL (xs.take (k_ + 1))).cursor))] 85)) rfl (by rw [hs])
        replace M : Mem _ _ _ [blk b9 (.cells #[(Value.int .u64 ((minL (xs.take (k_ + 1))).id)), (Value.int .i64 ((minL (xs.take (k_ + 1))).owner)), (Value.int .u64 ((minL (xs.take (k_ + 1))).epoch)), (Value.int .u64 ((minL (xs.take (k_ + 1))).till)), (Value.bool ((minL (xs.take (k_ + 1))).cursor))] 85), blk b3 (.cells #[(Value.int .u64 0), (Value.int .i64 0), (Value.int .u64 0), (Value.int .u64 0), (Value.bool false)] 85)] [SlAt 5 v xs.length (xs.flatMap leaseE)] _ := M
        exact ⟨_, (by omega), k_ + 1, ⟨(by omega), (by omega), rfl⟩, ⟨rfl, rfl, rfl, rfl, rfl, rfl, rfl⟩, M⟩
      ·
        have h19p := of_decide_eq_false h19
        refine W.skip ?_
        refine W.region rfl ?_
        refine WL.step (v := (Value.int .i64 ↑k_)) rfl (Step.move rfl) ?_
        refine WL.step (v := (Value.int .i64 (↑k_ + 1))) rfl (Step.add rfl rfl (wrap_i64 (by omega))) ?_
        refine WL.step (v := (Value.int .i64 (↑k_ + 1))) rfl (Step.assign rfl) ?_
        refine WL.nil ?_
        have hs := minL_step (k := k_) (by omega) hx17
        rw [if_neg (cmpI_pos h19)] at hs
        replace M := M.rechunk 0 (c' := blk b9 (.cells #[(Value.int .u64 ((minL (xs.take (k_ + 1))).id)), (Value.int .i64 ((minL (xs.take (k_ + 1))).owner)), (Value.int .u64 ((minL (xs.take (k_ + 1))).epoch)), (Value.int .u64 ((minL (xs.take (k_ + 1))).till)), (Value.bool ((minL (xs.take (k_ + 1))).cursor))] 85)) rfl (by rw [hs])
        replace M : Mem _ _ _ [blk b9 (.cells #[(Value.int .u64 ((minL (xs.take (k_ + 1))).id)), (Value.int .i64 ((minL (xs.take (k_ + 1))).owner)), (Value.int .u64 ((minL (xs.take (k_ + 1))).epoch)), (Value.int .u64 ((minL (xs.take (k_ + 1))).till)), (Value.bool ((minL (xs.take (k_ + 1))).cursor))] 85), blk b3 (.cells #[(Value.int .u64 0), (Value.int .i64 0), (Value.int .u64 0), (Value.int .u64 0), (Value.bool false)] 85)] [SlAt 5 v xs.length (xs.flatMap leaseE)] _ := M
        exact ⟨_, (by omega), k_ + 1, ⟨(by omega), (by omega), rfl⟩, ⟨rfl, rfl, rfl, rfl, rfl, rfl, rfl⟩, M⟩
    ·
      have h16p := of_decide_eq_false h16
      refine W.exit ?_
      refine thn_exit ?_
      refine thn_exit ?_
      refine inBlk_hit ?_
      refine W.seq' ?_
      refine W.region rfl ?_
      refine WL.step (v := (Value.agg #[(Value.int .u64 ((minL (xs.take k_)).id)), (Value.int .i64 ((minL (xs.take k_)).owner)), (Value.int .u64 ((minL (xs.take k_)).epoch)), (Value.int .u64 ((minL (xs.take k_)).till)), (Value.bool ((minL (xs.take k_)).cursor))])) rfl (Step.loadN Try.ag85 rfl (M.blk 0 rfl) (Nat.le_of_ble_eq_true rfl) rfl) ?_
      refine WL.store (v := (Value.agg #[(Value.int .u64 ((minL (xs.take k_)).id)), (Value.int .i64 ((minL (xs.take k_)).owner)), (Value.int .u64 ((minL (xs.take k_)).epoch)), (Value.int .u64 ((minL (xs.take k_)).till)), (Value.bool ((minL (xs.take k_)).cursor))])) (cs := [(Value.int .u64 ((minL (xs.take k_)).id)), (Value.int .i64 ((minL (xs.take k_)).owner)), (Value.int .u64 ((minL (xs.take k_)).epoch)), (Value.int .u64 ((minL (xs.take k_)).till)), (Value.bool ((minL (xs.take k_)).cursor))]) (c' := #[(Value.int .u64 ((minL (xs.take k_)).id)), (Value.int .i64 ((minL (xs.take k_)).owner)), (Value.int .u64 ((minL (xs.take k_)).epoch)), (Value.int .u64 ((minL (xs.take k_)).till)), (Value.bool ((minL (xs.take k_)).cursor))]) M 1 rfl rfl Try.el85.sized rfl rfl rfl rfl (Nat.le_of_ble_eq_true rfl) (cel_cons rfl (cel_cons rfl (cel_cons rfl (cel_cons rfl (cel_cons rfl cel_nil))))) rfl rfl (fun w21 M => ?_)
      refine WL.nil ?_
      refine W.ret ?_
      refine ⟨.inl rfl, (Value.agg #[(Value.int .u64 ((minL (xs.take k_)).id)), (Value.int .i64 ((minL (xs.take k_)).owner)), (Value.int .u64 ((minL (xs.take k_)).epoch)), (Value.int .u64 ((minL (xs.take k_)).till)), (Value.bool ((minL (xs.take k_)).cursor))]), ?_, ?_⟩
      · exact ⟨rfl, (Res.r1 (RV.cellN Try.ag85 rfl (M.blk 1 rfl) rfl))⟩
      refine ⟨?_, M.close [] rfl (by decide) trivial⟩
      rw [show k_ = xs.length by omega, List.take_length]
end Go.Proofs
