/- Walks. -/
import Derived.Test.YtlehkjkpgmkbiaaTrL6
set_option maxRecDepth 100000
set_option linter.all false
namespace Go.Proofs
open Go Tp
theorem Try.en90 : Enters Try.prog 90 := fun _ _ => by kernel_rfl
theorem Try.en94 : Enters Try.prog 94 := fun _ _ => by kernel_rfl
theorem Try.en125 : Enters Try.prog 125 := fun _ _ => by kernel_rfl

theorem ref_renew {G : Nat → Prop} {w : World} (v : Value) (xs : List Lease) (most : Int) (last : Int) (o : Int) (i : Int) (u : Int) (c : Bool)  (hb : xs.length ≤ 1000000) (hu : idsP xs) (M : Mem G (fun _ => False) w [] [SlAt 5 v xs.length (xs.flatMap leaseE)] w) : Rets Try.prog 91 #[(Value.agg #[v, (Value.int .i64 most), (Value.int .u64 last)]), (Value.int .i64 o), (Value.int .u64 i), (Value.int .u64 u), (Value.bool c)] w fun r w' => ∃ (v' : Value), r = (Value.tuple #[(Value.agg #[v', (Value.int .i64 most), (Value.int .u64 last)]), (Value.agg #[(Value.int .u64 (((renewV xs o i u c).2.1).id)), (Value.int .i64 (((renewV xs o i u c).2.1).owner)), (Value.int .u64 (((renewV xs o i u c).2.1).epoch)), (Value.int .u64 (((renewV xs o i u c).2.1).till)), (Value.bool (((renewV xs o i u c).2.1).cursor))]), (Value.int .i64 ((renewV xs o i u c).2.2))]) ∧ Mem G (fun _ => False) w [] [SlAt 5 v' ((renewV xs o i u c).1).length (((renewV xs o i u c).1).flatMap leaseE)] w' := by
  refine Rets.enter 37 _ Try.func91 rfl Try.ntmps91 Try.results91 (by simp) ?_
  have hle1 := SlAt.le' (M.rep 0 rfl)
  have sl2 : IsSl v := SlAt.isSl (Mem.rep M 0 rfl)
  refine W.seq' ?_
  refine W.region rfl ?_
  refine WL.box (v := (Value.agg #[v, (Value.int .i64 most), (Value.int .u64 last)])) (c := #[v, (Value.int .i64 most), (Value.int .u64 last)]) M rfl rfl rfl (fun b3 w4 hb3 M => ?_)
  refine WL.alloc (c := #[(Value.slice none 0 0), (Value.int .i64 0), (Value.int .u64 0)]) M rfl Try.el80.zero rfl (fun b5 w6 hb5 M => ?_)
  refine WL.alloc (c := #[(Value.int .u64 0), (Value.int .i64 0), (Value.int .u64 0), (Value.int .u64 0), (Value.bool false)]) M rfl Try.el88.zero rfl (fun b7 w8 hb7 M => ?_)
  refine WL.step (v := (Value.int .i64 0)) rfl (Step.assign rfl) ?_
  refine WL.nil ?_
  refine W.seq' ?_
  refine W.region rfl ?_
  refine WL.step (v := (Value.agg #[v, (Value.int .i64 most), (Value.int .u64 last)])) rfl (Step.loadN Try.ag80 rfl (M.blk 2 rfl) (Nat.le_of_ble_eq_true rfl) rfl) ?_
  refine WL.step (v := (Value.int .i64 o)) rfl (Step.move rfl) ?_
  refine WL.step (v := (Value.int .u64 i)) rfl (Step.move rfl) ?_
  refine WL.step (v := (Value.bool c)) rfl (Step.move rfl) ?_
  rcases Bool.eq_false_or_eq_true (hasL xs o i c) with h9 | h9
  ·
    refine WL.callX rfl (ref_getw v xs most last o i c h9 (M.enterW0 ⟨(M.wideR0 0 rfl), trivial⟩)) (CallsF.func Try.en90 rfl) ?_
    rintro _ w10 ⟨rfl, m⟩
    replace M := M.leaveW0 m
    clear m
    replace M : Mem _ _ _ [blk b7 (.cells #[(Value.int .u64 0), (Value.int .i64 0), (Value.int .u64 0), (Value.int .u64 0), (Value.bool false)] 88), blk b5 (.cells #[(Value.slice none 0 0), (Value.int .i64 0), (Value.int .u64 0)] 80), blk b3 (.cells #[v, (Value.int .i64 most), (Value.int .u64 last)] 80)] [SlAt 5 v xs.length (xs.flatMap leaseE)] _ := M
    refine WL.step (v := (Value.tuple #[(Value.agg #[(Value.int .u64 ((theL xs o i c).id)), (Value.int .i64 ((theL xs o i c).owner)), (Value.int .u64 ((theL xs o i c).epoch)), (Value.int .u64 ((theL xs o i c).till)), (Value.bool ((theL xs o i c).cursor))]), (Value.int .i64 0)])) rfl (Step.move rfl) ?_
    refine WL.step (v := (Value.agg #[(Value.int .u64 ((theL xs o i c).id)), (Value.int .i64 ((theL xs o i c).owner)), (Value.int .u64 ((theL xs o i c).epoch)), (Value.int .u64 ((theL xs o i c).till)), (Value.bool ((theL xs o i c).cursor))])) rfl (Step.pure (by kernel_rfl)) ?_
    refine WL.step (v := (Value.int .i64 0)) rfl (Step.pure (by kernel_rfl)) ?_
    refine WL.alloc (c := #[(Value.int .u64 0), (Value.int .i64 0), (Value.int .u64 0), (Value.int .u64 0), (Value.bool false)]) M rfl Try.el88.zero rfl (fun b11 w12 hb11 M => ?_)
    refine WL.store (v := (Value.agg #[(Value.int .u64 ((theL xs o i c).id)), (Value.int .i64 ((theL xs o i c).owner)), (Value.int .u64 ((theL xs o i c).epoch)), (Value.int .u64 ((theL xs o i c).till)), (Value.bool ((theL xs o i c).cursor))])) (cs := [(Value.int .u64 ((theL xs o i c).id)), (Value.int .i64 ((theL xs o i c).owner)), (Value.int .u64 ((theL xs o i c).epoch)), (Value.int .u64 ((theL xs o i c).till)), (Value.bool ((theL xs o i c).cursor))]) (c' := #[(Value.int .u64 ((theL xs o i c).id)), (Value.int .i64 ((theL xs o i c).owner)), (Value.int .u64 ((theL xs o i c).epoch)), (Value.int .u64 ((theL xs o i c).till)), (Value.bool ((theL xs o i c).cursor))]) M 0 rfl rfl Try.el88.sized rfl rfl rfl rfl (Nat.le_of_ble_eq_true rfl) (cel_cons rfl (cel_cons rfl (cel_cons rfl (cel_cons rfl (cel_cons rfl cel_nil))))) rfl rfl (fun w13 M => ?_)
    refine WL.step (v := (Value.int .i64 0)) rfl (Step.assign rfl) ?_
    refine WL.nil ?_
    refine W.seq' ?_
    refine W.seq' ?_
    refine W.region rfl ?_
    refine WL.step (v := (Value.int .i64 0)) rfl (Step.move rfl) ?_
    refine WL.step (v := (Value.bool false)) rfl (Step.pure (by kernel_rfl)) ?_
    refine WL.nil ?_
    refine W.cond (t := false) rfl (fun h => by cases h) (fun _ => ?_)
    refine W.skip ?_
    refine W.seq' ?_
    refine W.region rfl ?_
    refine WL.step (v := (Value.pointer (some ⟨b11, 3, none⟩))) rfl (Step.pure (by kernel_rfl)) ?_
    refine WL.step (v := (Value.int .u64 ((theL xs o i c).till))) rfl (Step.load1 Try.sc23 rfl ((M.cell 0 rfl 3).trans rfl)) ?_
    refine WL.step (v := (Value.int .u64 u)) rfl (Step.move rfl) ?_
    refine WL.step (v := (Value.int .u64 (max ((theL xs o i c).till : Int) (u : Int)))) rfl (Step.maxI rfl rfl) ?_
    refine WL.step (v := (Value.pointer (some ⟨b11, 3, none⟩))) rfl (Step.pure (by kernel_rfl)) ?_
    refine WL.store (v := (Value.int .u64 (max ((theL xs o i c).till : Int) (u : Int)))) (cs := [(Value.int .u64 (max ((theL xs o i c).till : Int) (u : Int)))]) (c' := #[(Value.int .u64 ((theL xs o i c).id)), (Value.int .i64 ((theL xs o i c).owner)), (Value.int .u64 ((theL xs o i c).epoch)), (Value.int .u64 (max ((theL xs o i c).till : Int) (u : Int))), (Value.bool ((theL xs o i c).cursor))]) M 0 rfl rfl Try.el23.sized rfl rfl rfl rfl (Nat.le_of_ble_eq_true rfl) (cel_cons rfl cel_nil) rfl rfl (fun w14 M => ?_)
    refine WL.nil ?_
    refine W.seq' ?_
    refine W.drawn M [0, 1, 2, 3, 4, 5, 6] [2, 4, 5] [] [blk b11 (.cells #[(Value.int .u64 ((theL xs o i c).id)), (Value.int .i64 ((theL xs o i c).owner)), (Value.int .u64 ((theL xs o i c).epoch)), (Value.int .u64 (max ((theL xs o i c).till : Int) (u : Int))), (Value.bool ((theL xs o i c).cursor))] 88), blk b3 (.cells #[v, (Value.int .i64 most), (Value.int .u64 last)] 80)] [SlAt 5 v xs.length (xs.flatMap leaseE)] (List.Sublist.cons_cons _ (List.Sublist.cons _ (List.Sublist.cons _ (List.Sublist.cons_cons _ List.Sublist.slnil)))) (fun _ h => h) Try.mixed (by kernel_rfl) ?_
    refine TW.read (v := (Value.agg #[v, (Value.int .i64 most), (Value.int .u64 last)])) rfl (by decide) (by decide) rfl (fun A w M => (Step.loadN Try.ag80 rfl (M.blk 2 rfl) (Nat.le_of_ble_eq_true rfl) rfl)) ?_
    refine TW.read (v := (Value.agg #[(Value.int .u64 ((theL xs o i c).id)), (Value.int .i64 ((theL xs o i c).owner)), (Value.int .u64 ((theL xs o i c).epoch)), (Value.int .u64 (max ((theL xs o i c).till : Int) (u : Int))), (Value.bool ((theL xs o i c).cursor))])) rfl (by decide) (by decide) rfl (fun A w M => (Step.loadN Try.ag88 rfl (M.blk 1 rfl) (Nat.le_of_ble_eq_true rfl) rfl)) ?_
    refine TW.callX (ι := Value) (fun jx v_ => v_ = (Value.agg #[jx, (Value.int .i64 most), (Value.int .u64 last)])) (fun jx => [blk b11 (.cells #[(Value.int .u64 ((theL xs o i c).id)), (Value.int .i64 ((theL xs o i c).owner)), (Value.int .u64 ((theL xs o i c).epoch)), (Value.int .u64 (max ((theL xs o i c).till : Int) (u : Int))), (Value.bool ((theL xs o i c).cursor))] 88), blk b7 (.cells #[(Value.int .u64 0), (Value.int .i64 0), (Value.int .u64 0), (Value.int .u64 0), (Value.bool false)] 88), blk b5 (.cells #[(Value.slice none 0 0), (Value.int .i64 0), (Value.int .u64 0)] 80), blk b3 (.cells #[v, (Value.int .i64 most), (Value.int .u64 last)] 80)]) (fun jx => [SlAt 5 jx (putV xs (⟨(theL xs o i c).id, (theL xs o i c).owner, (theL xs o i c).epoch, max ((theL xs o i c).till : Int) (u : Int), (theL xs o i c).cursor⟩ : Lease)).length ((putV xs (⟨(theL xs o i c).id, (theL xs o i c).owner, (theL xs o i c).epoch, max ((theL xs o i c).till : Int) (u : Int), (theL xs o i c).cursor⟩ : Lease)).flatMap leaseE), SlAt 5 v xs.length (xs.flatMap leaseE)]) rfl (by decide) rfl (fun jx => (List.Sublist.cons_cons _ (List.Sublist.cons _ (List.Sublist.cons _ (List.Sublist.cons_cons _ List.Sublist.slnil))))) (fun jx r h => (List.mem_cons_of_mem _ h)) (fun A w M => Rets.mono (ref_put v xs most last (⟨(theL xs o i c).id, (theL xs o i c).owner, (theL xs o i c).epoch, max ((theL xs o i c).till : Int) (u : Int), (theL xs o i c).cursor⟩ : Lease) (by first | omega | assumption | decide | (simp only [List.length_nil, List.length_cons, List.length_take, List.length_drop]; omega)) (M.enter0 ⟨(M.shr' 0 rfl), trivial⟩)) (fun v_ w_ ⟨v21, e_, m⟩ => ⟨v21, e_, (M.leave0 m).sel (L' := [fl A, blk b11 (.cells #[(Value.int .u64 ((theL xs o i c).id)), (Value.int .i64 ((theL xs o i c).owner)), (Value.int .u64 ((theL xs o i c).epoch)), (Value.int .u64 (max ((theL xs o i c).till : Int) (u : Int))), (Value.bool ((theL xs o i c).cursor))] 88), blk b7 (.cells #[(Value.int .u64 0), (Value.int .i64 0), (Value.int .u64 0), (Value.int .u64 0), (Value.bool false)] 88), blk b5 (.cells #[(Value.slice none 0 0), (Value.int .i64 0), (Value.int .u64 0)] 80), blk b3 (.cells #[v, (Value.int .i64 most), (Value.int .u64 last)] 80)]) [0, 1, 2, 3, 4] rfl (by decide), fun b hb => M.kept0 m (fl A) (List.mem_cons_self ..) b hb⟩)) (fun w => CallsF.func Try.en125 rfl) (fun v21 v hp hin => ?_)
    replace hp := hp.symm; subst hp
    obtain ⟨_, _, hin⟩ := hin
    have sl22 : IsSl v21 := SlAt.isSl (Mem.rep hin 0 rfl)
    clear hin
    change TW _ _ _ _ _ _ _ _ (MemA _ _ _ [blk b11 (.cells #[(Value.int .u64 ((theL xs o i c).id)), (Value.int .i64 ((theL xs o i c).owner)), (Value.int .u64 ((theL xs o i c).epoch)), (Value.int .u64 (max ((theL xs o i c).till : Int) (u : Int))), (Value.bool ((theL xs o i c).cursor))] 88), blk b7 (.cells #[(Value.int .u64 0), (Value.int .i64 0), (Value.int .u64 0), (Value.int .u64 0), (Value.bool false)] 88), blk b5 (.cells #[(Value.slice none 0 0), (Value.int .i64 0), (Value.int .u64 0)] 80), blk b3 (.cells #[v, (Value.int .i64 most), (Value.int .u64 last)] 80)] [SlAt 5 v21 (putV xs (⟨(theL xs o i c).id, (theL xs o i c).owner, (theL xs o i c).epoch, max ((theL xs o i c).till : Int) (u : Int), (theL xs o i c).cursor⟩ : Lease)).length ((putV xs (⟨(theL xs o i c).id, (theL xs o i c).owner, (theL xs o i c).epoch, max ((theL xs o i c).till : Int) (u : Int), (theL xs o i c).cursor⟩ : Lease)).flatMap leaseE), SlAt 5 v xs.length (xs.flatMap leaseE)])
    refine TW.read (v := (Value.agg #[(Value.int .u64 ((theL xs o i c).id)), (Value.int .i64 ((theL xs o i c).owner)), (Value.int .u64 ((theL xs o i c).epoch)), (Value.int .u64 (max ((theL xs o i c).till : Int) (u : Int))), (Value.bool ((theL xs o i c).cursor))])) rfl (by decide) (by decide) rfl (fun A w M => (Step.loadN Try.ag88 rfl (M.blk 1 rfl) (Nat.le_of_ble_eq_true rfl) rfl)) ?_
    refine TW.store (v := (Value.agg #[v21, (Value.int .i64 most), (Value.int .u64 last)])) (cs := [v21, (Value.int .i64 most), (Value.int .u64 last)]) (c' := #[v21, (Value.int .i64 most), (Value.int .u64 last)]) 2 rfl rfl (by decide) rfl Try.el80.sized rfl rfl rfl rfl (Nat.le_of_ble_eq_true rfl) (cel_cons (IsSl.cel sl22) (cel_cons rfl (cel_cons rfl cel_nil))) rfl rfl (List.Sublist.cons_cons _ (List.Sublist.cons _ (List.Sublist.cons _ (List.Sublist.cons_cons _ List.Sublist.slnil)))) (fun r h => (List.mem_cons_of_mem _ h)) ?_
    refine TW.store (v := (Value.agg #[(Value.int .u64 ((theL xs o i c).id)), (Value.int .i64 ((theL xs o i c).owner)), (Value.int .u64 ((theL xs o i c).epoch)), (Value.int .u64 (max ((theL xs o i c).till : Int) (u : Int))), (Value.bool ((theL xs o i c).cursor))])) (cs := [(Value.int .u64 ((theL xs o i c).id)), (Value.int .i64 ((theL xs o i c).owner)), (Value.int .u64 ((theL xs o i c).epoch)), (Value.int .u64 (max ((theL xs o i c).till : Int) (u : Int))), (Value.bool ((theL xs o i c).cursor))]) (c' := #[(Value.int .u64 ((theL xs o i c).id)), (Value.int .i64 ((theL xs o i c).owner)), (Value.int .u64 ((theL xs o i c).epoch)), (Value.int .u64 (max ((theL xs o i c).till : Int) (u : Int))), (Value.bool ((theL xs o i c).cursor))]) 1 rfl rfl (by decide) rfl Try.el88.sized rfl rfl rfl rfl (Nat.le_of_ble_eq_true rfl) (cel_cons rfl (cel_cons rfl (cel_cons rfl (cel_cons rfl (cel_cons rfl cel_nil))))) rfl rfl (List.Sublist.cons_cons _ (List.Sublist.cons _ (List.Sublist.cons _ (List.Sublist.cons_cons _ List.Sublist.slnil)))) (fun r h => (List.mem_cons_of_mem _ h)) ?_
    refine TW.pure (v := (Value.int .i64 0)) rfl (by decide) (by decide) rfl (fun w => (Step.assign rfl)) ?_
    refine TW.done (fun w23 M => ?_)
    refine W.ret ?_
    refine ⟨.inl rfl, (Value.tuple #[(Value.agg #[v21, (Value.int .i64 most), (Value.int .u64 last)]), (Value.agg #[(Value.int .u64 ((theL xs o i c).id)), (Value.int .i64 ((theL xs o i c).owner)), (Value.int .u64 ((theL xs o i c).epoch)), (Value.int .u64 (max ((theL xs o i c).till : Int) (u : Int))), (Value.bool ((theL xs o i c).cursor))]), (Value.int .i64 0)]), ?_, ?_⟩
    · exact ⟨rfl, (Res.r3 (RV.cellN Try.ag80 rfl (M.blk 2 rfl) rfl) (RV.cellN Try.ag88 rfl (M.blk 1 rfl) rfl) (show RV _ _ _ (.tmp 12) (Value.int .i64 0) from by exact rfl))⟩
    have e24 : (renewV xs o i u c).1 = putV xs (⟨(theL xs o i c).id, (theL xs o i c).owner, (theL xs o i c).epoch, max ((theL xs o i c).till : Int) (u : Int), (theL xs o i c).cursor⟩ : Lease) := by
      first | (simp [renewV, leaseZ, noE, h9]; done) | (simp only [renewV, if_true, h9]; exact (renew_eq hu h9).symm)
    have hf25 := Sh.reList e24 (M.shr' 0 rfl)
    refine ⟨v21, ?_, M.close [] rfl (by decide) ⟨hf25, trivial⟩⟩
    first | (simp [renewV, leaseZ, noE, h9]; done) | (simp only [renewV, if_true, h9]; exact (renew_eq hu h9).symm)
  ·
    refine WL.callX rfl (ref_getnow v xs most last o i c h9 (M.enterW0 ⟨(M.wideR0 0 rfl), trivial⟩)) (CallsF.func Try.en90 rfl) ?_
    rintro _ w26 ⟨rfl, m⟩
    replace M := M.leaveW0 m
    clear m
    replace M : Mem _ _ _ [blk b7 (.cells #[(Value.int .u64 0), (Value.int .i64 0), (Value.int .u64 0), (Value.int .u64 0), (Value.bool false)] 88), blk b5 (.cells #[(Value.slice none 0 0), (Value.int .i64 0), (Value.int .u64 0)] 80), blk b3 (.cells #[v, (Value.int .i64 most), (Value.int .u64 last)] 80)] [SlAt 5 v xs.length (xs.flatMap leaseE)] _ := M
    refine WL.step (v := (Value.tuple #[(Value.agg #[(Value.int .u64 leaseZ.id), (Value.int .i64 leaseZ.owner), (Value.int .u64 leaseZ.epoch), (Value.int .u64 leaseZ.till), (Value.bool leaseZ.cursor)]), (Value.int .i64 (noE c))])) rfl (Step.move rfl) ?_
    refine WL.step (v := (Value.agg #[(Value.int .u64 leaseZ.id), (Value.int .i64 leaseZ.owner), (Value.int .u64 leaseZ.epoch), (Value.int .u64 leaseZ.till), (Value.bool leaseZ.cursor)])) rfl (Step.pure (by kernel_rfl)) ?_
    refine WL.step (v := (Value.int .i64 (noE c))) rfl (Step.pure (by kernel_rfl)) ?_
    refine WL.alloc (c := #[(Value.int .u64 0), (Value.int .i64 0), (Value.int .u64 0), (Value.int .u64 0), (Value.bool false)]) M rfl Try.el88.zero rfl (fun b27 w28 hb27 M => ?_)
    refine WL.store (v := (Value.agg #[(Value.int .u64 leaseZ.id), (Value.int .i64 leaseZ.owner), (Value.int .u64 leaseZ.epoch), (Value.int .u64 leaseZ.till), (Value.bool leaseZ.cursor)])) (cs := [(Value.int .u64 leaseZ.id), (Value.int .i64 leaseZ.owner), (Value.int .u64 leaseZ.epoch), (Value.int .u64 leaseZ.till), (Value.bool leaseZ.cursor)]) (c' := #[(Value.int .u64 leaseZ.id), (Value.int .i64 leaseZ.owner), (Value.int .u64 leaseZ.epoch), (Value.int .u64 leaseZ.till), (Value.bool leaseZ.cursor)]) M 0 rfl rfl Try.el88.sized rfl rfl rfl rfl (Nat.le_of_ble_eq_true rfl) (cel_cons rfl (cel_cons rfl (cel_cons rfl (cel_cons rfl (cel_cons rfl cel_nil))))) rfl rfl (fun w29 M => ?_)
    refine WL.step (v := (Value.int .i64 (noE c))) rfl (Step.assign rfl) ?_
    refine WL.nil ?_
    refine W.seq' ?_
    refine W.seq' ?_
    refine W.region rfl ?_
    refine WL.step (v := (Value.int .i64 (noE c))) rfl (Step.move rfl) ?_
    refine WL.step (v := (Value.bool true)) rfl (Step.cast (congrArg Value.bool (show ((noE c : Int) != (0 : Int)) = true by unfold noE; split <;> rfl)) (Step.pure (by kernel_rfl))) ?_
    refine WL.nil ?_
    refine W.cond (t := true) rfl (fun _ => ?_) (fun h => by cases h)
    refine W.seq' ?_
    refine W.region rfl ?_
    refine WL.step (v := (Value.agg #[v, (Value.int .i64 most), (Value.int .u64 last)])) rfl (Step.loadN Try.ag80 rfl (M.blk 3 rfl) (Nat.le_of_ble_eq_true rfl) rfl) ?_
    refine WL.step (v := (Value.agg #[(Value.int .u64 0), (Value.int .i64 0), (Value.int .u64 0), (Value.int .u64 0), (Value.bool false)])) rfl (Step.pure (by kernel_rfl)) ?_
    refine WL.step (v := (Value.int .i64 (noE c))) rfl (Step.move rfl) ?_
    refine WL.store (v := (Value.agg #[v, (Value.int .i64 most), (Value.int .u64 last)])) (cs := [v, (Value.int .i64 most), (Value.int .u64 last)]) (c' := #[v, (Value.int .i64 most), (Value.int .u64 last)]) M 2 rfl rfl Try.el80.sized rfl rfl rfl rfl (Nat.le_of_ble_eq_true rfl) (cel_cons (IsSl.cel sl2) (cel_cons rfl (cel_cons rfl cel_nil))) rfl rfl (fun w30 M => ?_)
    refine WL.store (v := (Value.agg #[(Value.int .u64 0), (Value.int .i64 0), (Value.int .u64 0), (Value.int .u64 0), (Value.bool false)])) (cs := [(Value.int .u64 0), (Value.int .i64 0), (Value.int .u64 0), (Value.int .u64 0), (Value.bool false)]) (c' := #[(Value.int .u64 0), (Value.int .i64 0), (Value.int .u64 0), (Value.int .u64 0), (Value.bool false)]) M 1 rfl rfl Try.el88.sized rfl rfl rfl rfl (Nat.le_of_ble_eq_true rfl) (cel_cons rfl (cel_cons rfl (cel_cons rfl (cel_cons rfl (cel_cons rfl cel_nil))))) rfl rfl (fun w31 M => ?_)
    refine WL.step (v := (Value.int .i64 (noE c))) rfl (Step.assign rfl) ?_
    refine WL.nil ?_
    refine W.ret ?_
    refine ⟨.inl rfl, (Value.tuple #[(Value.agg #[v, (Value.int .i64 most), (Value.int .u64 last)]), (Value.agg #[(Value.int .u64 0), (Value.int .i64 0), (Value.int .u64 0), (Value.int .u64 0), (Value.bool false)]), (Value.int .i64 (noE c))]), ?_, ?_⟩
    · exact ⟨rfl, (Res.r3 (RV.cellN Try.ag80 rfl (M.blk 2 rfl) rfl) (RV.cellN Try.ag88 rfl (M.blk 1 rfl) rfl) (show RV _ _ _ (.tmp 12) (Value.int .i64 (noE c)) from by exact rfl))⟩
    have e32 : (renewV xs o i u c).1 = xs := by
      first | (simp [renewV, leaseZ, noE, h9]; done) | (simp only [renewV, if_true, h9]; exact (renew_eq hu h9).symm)
    have hf33 := Sh.reList e32 (M.shr' 0 rfl)
    refine ⟨v, ?_, M.close [] rfl (by decide) ⟨hf33, trivial⟩⟩
    first | (simp [renewV, leaseZ, noE, h9]; done) | (simp only [renewV, if_true, h9]; exact (renew_eq hu h9).symm)

theorem ref_move {G : Nat → Prop} {w : World} (v : Value) (xs : List Lease) (most : Int) (last : Int) (o : Int) (i : Int) (e : Int)  (hb : xs.length ≤ 1000000) (hu : idsP xs) (M : Mem G (fun _ => False) w [] [SlAt 5 v xs.length (xs.flatMap leaseE)] w) : Rets Try.prog 93 #[(Value.agg #[v, (Value.int .i64 most), (Value.int .u64 last)]), (Value.int .i64 o), (Value.int .u64 i), (Value.int .u64 e)] w fun r w' => ∃ (v' : Value), r = (Value.tuple #[(Value.agg #[v', (Value.int .i64 most), (Value.int .u64 last)]), (Value.agg #[(Value.int .u64 (((moveV xs o i e).2.1).id)), (Value.int .i64 (((moveV xs o i e).2.1).owner)), (Value.int .u64 (((moveV xs o i e).2.1).epoch)), (Value.int .u64 (((moveV xs o i e).2.1).till)), (Value.bool (((moveV xs o i e).2.1).cursor))]), (Value.int .i64 ((moveV xs o i e).2.2))]) ∧ Mem G (fun _ => False) w [] [SlAt 5 v' ((moveV xs o i e).1).length (((moveV xs o i e).1).flatMap leaseE)] w' := by
  refine Rets.enter 37 _ Try.func93 rfl Try.ntmps93 Try.results93 (by simp) ?_
  have hle1 := SlAt.le' (M.rep 0 rfl)
  have sl2 : IsSl v := SlAt.isSl (Mem.rep M 0 rfl)
  refine W.seq' ?_
  refine W.region rfl ?_
  refine WL.box (v := (Value.agg #[v, (Value.int .i64 most), (Value.int .u64 last)])) (c := #[v, (Value.int .i64 most), (Value.int .u64 last)]) M rfl rfl rfl (fun b3 w4 hb3 M => ?_)
  refine WL.alloc (c := #[(Value.slice none 0 0), (Value.int .i64 0), (Value.int .u64 0)]) M rfl Try.el80.zero rfl (fun b5 w6 hb5 M => ?_)
  refine WL.alloc (c := #[(Value.int .u64 0), (Value.int .i64 0), (Value.int .u64 0), (Value.int .u64 0), (Value.bool false)]) M rfl Try.el88.zero rfl (fun b7 w8 hb7 M => ?_)
  refine WL.step (v := (Value.int .i64 0)) rfl (Step.assign rfl) ?_
  refine WL.nil ?_
  refine W.seq' ?_
  refine W.region rfl ?_
  refine WL.step (v := (Value.agg #[v, (Value.int .i64 most), (Value.int .u64 last)])) rfl (Step.loadN Try.ag80 rfl (M.blk 2 rfl) (Nat.le_of_ble_eq_true rfl) rfl) ?_
  refine WL.step (v := (Value.int .i64 o)) rfl (Step.move rfl) ?_
  refine WL.step (v := (Value.int .u64 i)) rfl (Step.move rfl) ?_
  rcases Bool.eq_false_or_eq_true (hasL xs o i true) with h9 | h9
  ·
    refine WL.callX rfl (ref_getw v xs most last o i true h9 (M.enterW0 ⟨(M.wideR0 0 rfl), trivial⟩)) (CallsF.func Try.en90 rfl) ?_
    rintro _ w10 ⟨rfl, m⟩
    replace M := M.leaveW0 m
    clear m
    replace M : Mem _ _ _ [blk b7 (.cells #[(Value.int .u64 0), (Value.int .i64 0), (Value.int .u64 0), (Value.int .u64 0), (Value.bool false)] 88), blk b5 (.cells #[(Value.slice none 0 0), (Value.int .i64 0), (Value.int .u64 0)] 80), blk b3 (.cells #[v, (Value.int .i64 most), (Value.int .u64 last)] 80)] [SlAt 5 v xs.length (xs.flatMap leaseE)] _ := M
    refine WL.step (v := (Value.tuple #[(Value.agg #[(Value.int .u64 ((theL xs o i true).id)), (Value.int .i64 ((theL xs o i true).owner)), (Value.int .u64 ((theL xs o i true).epoch)), (Value.int .u64 ((theL xs o i true).till)), (Value.bool ((theL xs o i true).cursor))]), (Value.int .i64 0)])) rfl (Step.move rfl) ?_
    refine WL.step (v := (Value.agg #[(Value.int .u64 ((theL xs o i true).id)), (Value.int .i64 ((theL xs o i true).owner)), (Value.int .u64 ((theL xs o i true).epoch)), (Value.int .u64 ((theL xs o i true).till)), (Value.bool ((theL xs o i true).cursor))])) rfl (Step.pure (by kernel_rfl)) ?_
    refine WL.step (v := (Value.int .i64 0)) rfl (Step.pure (by kernel_rfl)) ?_
    refine WL.alloc (c := #[(Value.int .u64 0), (Value.int .i64 0), (Value.int .u64 0), (Value.int .u64 0), (Value.bool false)]) M rfl Try.el88.zero rfl (fun b11 w12 hb11 M => ?_)
    refine WL.store (v := (Value.agg #[(Value.int .u64 ((theL xs o i true).id)), (Value.int .i64 ((theL xs o i true).owner)), (Value.int .u64 ((theL xs o i true).epoch)), (Value.int .u64 ((theL xs o i true).till)), (Value.bool ((theL xs o i true).cursor))])) (cs := [(Value.int .u64 ((theL xs o i true).id)), (Value.int .i64 ((theL xs o i true).owner)), (Value.int .u64 ((theL xs o i true).epoch)), (Value.int .u64 ((theL xs o i true).till)), (Value.bool ((theL xs o i true).cursor))]) (c' := #[(Value.int .u64 ((theL xs o i true).id)), (Value.int .i64 ((theL xs o i true).owner)), (Value.int .u64 ((theL xs o i true).epoch)), (Value.int .u64 ((theL xs o i true).till)), (Value.bool ((theL xs o i true).cursor))]) M 0 rfl rfl Try.el88.sized rfl rfl rfl rfl (Nat.le_of_ble_eq_true rfl) (cel_cons rfl (cel_cons rfl (cel_cons rfl (cel_cons rfl (cel_cons rfl cel_nil))))) rfl rfl (fun w13 M => ?_)
    refine WL.step (v := (Value.int .i64 0)) rfl (Step.assign rfl) ?_
    refine WL.nil ?_
    refine W.seq' ?_
    refine W.seq' ?_
    refine W.region rfl ?_
    refine WL.step (v := (Value.int .i64 0)) rfl (Step.move rfl) ?_
    refine WL.step (v := (Value.bool false)) rfl (Step.pure (by kernel_rfl)) ?_
    refine WL.nil ?_
    refine W.cond (t := false) rfl (fun h => by cases h) (fun _ => ?_)
    refine W.skip ?_
    refine W.seq' ?_
    refine W.seq' ?_
    refine W.region rfl ?_
    refine WL.step (v := (Value.int .u64 e)) rfl (Step.move rfl) ?_
    refine WL.step (v := (Value.pointer (some ⟨b11, 2, none⟩))) rfl (Step.pure (by kernel_rfl)) ?_
    refine WL.step (v := (Value.int .u64 ((theL xs o i true).epoch))) rfl (Step.load1 Try.sc23 rfl ((M.cell 0 rfl 2).trans rfl)) ?_
    refine WL.step (v := (Value.bool (decide ((e : Int) < ((theL xs o i true).epoch : Int))))) rfl (Step.pure (by kernel_rfl)) ?_
    refine WL.nil ?_
    refine W.cond (t := decide ((e : Int) < ((theL xs o i true).epoch : Int))) rfl (fun h14 => ?_) (fun h14 => ?_)
    ·
      have h14p := of_decide_eq_true h14
      refine W.seq' ?_
      refine W.region rfl ?_
      refine WL.step (v := (Value.agg #[v, (Value.int .i64 most), (Value.int .u64 last)])) rfl (Step.loadN Try.ag80 rfl (M.blk 3 rfl) (Nat.le_of_ble_eq_true rfl) rfl) ?_
      refine WL.step (v := (Value.agg #[(Value.int .u64 0), (Value.int .i64 0), (Value.int .u64 0), (Value.int .u64 0), (Value.bool false)])) rfl (Step.pure (by kernel_rfl)) ?_
      refine WL.store (v := (Value.agg #[v, (Value.int .i64 most), (Value.int .u64 last)])) (cs := [v, (Value.int .i64 most), (Value.int .u64 last)]) (c' := #[v, (Value.int .i64 most), (Value.int .u64 last)]) M 2 rfl rfl Try.el80.sized rfl rfl rfl rfl (Nat.le_of_ble_eq_true rfl) (cel_cons (IsSl.cel sl2) (cel_cons rfl (cel_cons rfl cel_nil))) rfl rfl (fun w15 M => ?_)
      refine WL.store (v := (Value.agg #[(Value.int .u64 0), (Value.int .i64 0), (Value.int .u64 0), (Value.int .u64 0), (Value.bool false)])) (cs := [(Value.int .u64 0), (Value.int .i64 0), (Value.int .u64 0), (Value.int .u64 0), (Value.bool false)]) (c' := #[(Value.int .u64 0), (Value.int .i64 0), (Value.int .u64 0), (Value.int .u64 0), (Value.bool false)]) M 1 rfl rfl Try.el88.sized rfl rfl rfl rfl (Nat.le_of_ble_eq_true rfl) (cel_cons rfl (cel_cons rfl (cel_cons rfl (cel_cons rfl (cel_cons rfl cel_nil))))) rfl rfl (fun w16 M => ?_)
      refine WL.step (v := (Value.int .i64 2)) rfl (Step.assign rfl) ?_
      refine WL.nil ?_
      refine W.ret ?_
      refine ⟨.inl rfl, (Value.tuple #[(Value.agg #[v, (Value.int .i64 most), (Value.int .u64 last)]), (Value.agg #[(Value.int .u64 0), (Value.int .i64 0), (Value.int .u64 0), (Value.int .u64 0), (Value.bool false)]), (Value.int .i64 2)]), ?_, ?_⟩
      · exact ⟨rfl, (Res.r3 (RV.cellN Try.ag80 rfl (M.blk 2 rfl) rfl) (RV.cellN Try.ag88 rfl (M.blk 1 rfl) rfl) (show RV _ _ _ (.tmp 10) (Value.int .i64 2) from by exact rfl))⟩
      have e17 : (moveV xs o i e).1 = xs := by
        first | (simp [moveV, leaseZ, noE, h9, h14p]; done) | (simp only [moveV, if_true, h9, h14p]; exact (move_eq hu h9).symm)
      have hf18 := Sh.reList e17 (M.shr' 0 rfl)
      refine ⟨v, ?_, M.close [] rfl (by decide) ⟨hf18, trivial⟩⟩
      first | (simp [moveV, leaseZ, noE, h9, h14p]; done) | (simp only [moveV, if_true, h9, h14p]; exact (move_eq hu h9).symm)
    ·
      have h14p := of_decide_eq_false h14
      refine W.skip ?_
      refine W.seq' ?_
      refine W.region rfl ?_
      refine WL.step (v := (Value.int .u64 e)) rfl (Step.move rfl) ?_
      refine WL.step (v := (Value.pointer (some ⟨b11, 2, none⟩))) rfl (Step.pure (by kernel_rfl)) ?_
      refine WL.store (v := (Value.int .u64 e)) (cs := [(Value.int .u64 e)]) (c' := #[(Value.int .u64 ((theL xs o i true).id)), (Value.int .i64 ((theL xs o i true).owner)), (Value.int .u64 e), (Value.int .u64 ((theL xs o i true).till)), (Value.bool ((theL xs o i true).cursor))]) M 0 rfl rfl Try.el23.sized rfl rfl rfl rfl (Nat.le_of_ble_eq_true rfl) (cel_cons rfl cel_nil) rfl rfl (fun w19 M => ?_)
      refine WL.nil ?_
      refine W.seq' ?_
      refine W.drawn M [0, 1, 2, 3, 4, 5, 6] [2, 4, 5] [] [blk b11 (.cells #[(Value.int .u64 ((theL xs o i true).id)), (Value.int .i64 ((theL xs o i true).owner)), (Value.int .u64 e), (Value.int .u64 ((theL xs o i true).till)), (Value.bool ((theL xs o i true).cursor))] 88), blk b3 (.cells #[v, (Value.int .i64 most), (Value.int .u64 last)] 80)] [SlAt 5 v xs.length (xs.flatMap leaseE)] (List.Sublist.cons_cons _ (List.Sublist.cons _ (List.Sublist.cons _ (List.Sublist.cons_cons _ List.Sublist.slnil)))) (fun _ h => h) Try.mixed (by kernel_rfl) ?_
      refine TW.read (v := (Value.agg #[v, (Value.int .i64 most), (Value.int .u64 last)])) rfl (by decide) (by decide) rfl (fun A w M => (Step.loadN Try.ag80 rfl (M.blk 2 rfl) (Nat.le_of_ble_eq_true rfl) rfl)) ?_
      refine TW.read (v := (Value.agg #[(Value.int .u64 ((theL xs o i true).id)), (Value.int .i64 ((theL xs o i true).owner)), (Value.int .u64 e), (Value.int .u64 ((theL xs o i true).till)), (Value.bool ((theL xs o i true).cursor))])) rfl (by decide) (by decide) rfl (fun A w M => (Step.loadN Try.ag88 rfl (M.blk 1 rfl) (Nat.le_of_ble_eq_true rfl) rfl)) ?_
      refine TW.callX (ι := Value) (fun jx v_ => v_ = (Value.agg #[jx, (Value.int .i64 most), (Value.int .u64 last)])) (fun jx => [blk b11 (.cells #[(Value.int .u64 ((theL xs o i true).id)), (Value.int .i64 ((theL xs o i true).owner)), (Value.int .u64 e), (Value.int .u64 ((theL xs o i true).till)), (Value.bool ((theL xs o i true).cursor))] 88), blk b7 (.cells #[(Value.int .u64 0), (Value.int .i64 0), (Value.int .u64 0), (Value.int .u64 0), (Value.bool false)] 88), blk b5 (.cells #[(Value.slice none 0 0), (Value.int .i64 0), (Value.int .u64 0)] 80), blk b3 (.cells #[v, (Value.int .i64 most), (Value.int .u64 last)] 80)]) (fun jx => [SlAt 5 jx (putV xs (⟨(theL xs o i true).id, (theL xs o i true).owner, e, (theL xs o i true).till, (theL xs o i true).cursor⟩ : Lease)).length ((putV xs (⟨(theL xs o i true).id, (theL xs o i true).owner, e, (theL xs o i true).till, (theL xs o i true).cursor⟩ : Lease)).flatMap leaseE), SlAt 5 v xs.length (xs.flatMap leaseE)]) rfl (by decide) rfl (fun jx => (List.Sublist.cons_cons _ (List.Sublist.cons _ (List.Sublist.cons _ (List.Sublist.cons_cons _ List.Sublist.slnil))))) (fun jx r h => (List.mem_cons_of_mem _ h)) (fun A w M => Rets.mono (ref_put v xs most last (⟨(theL xs o i true).id, (theL xs o i true).owner, e, (theL xs o i true).till, (theL xs o i true).cursor⟩ : Lease) (by first | omega | assumption | decide | (simp only [List.length_nil, List.length_cons, List.length_take, List.length_drop]; omega)) (M.enter0 ⟨(M.shr' 0 rfl), trivial⟩)) (fun v_ w_ ⟨v26, e_, m⟩ => ⟨v26, e_, (M.leave0 m).sel (L' := [fl A, blk b11 (.cells #[(Value.int .u64 ((theL xs o i true).id)), (Value.int .i64 ((theL xs o i true).owner)), (Value.int .u64 e), (Value.int .u64 ((theL xs o i true).till)), (Value.bool ((theL xs o i true).cursor))] 88), blk b7 (.cells #[(Value.int .u64 0), (Value.int .i64 0), (Value.int .u64 0), (Value.int .u64 0), (Value.bool false)] 88), blk b5 (.cells #[(Value.slice none 0 0), (Value.int .i64 0), (Value.int .u64 0)] 80), blk b3 (.cells #[v, (Value.int .i64 most), (Value.int .u64 last)] 80)]) [0, 1, 2, 3, 4] rfl (by decide), fun b hb => M.kept0 m (fl A) (List.mem_cons_self ..) b hb⟩)) (fun w => CallsF.func Try.en125 rfl) (fun v26 v hp hin => ?_)
      replace hp := hp.symm; subst hp
      obtain ⟨_, _, hin⟩ := hin
      have sl27 : IsSl v26 := SlAt.isSl (Mem.rep hin 0 rfl)
      clear hin
      change TW _ _ _ _ _ _ _ _ (MemA _ _ _ [blk b11 (.cells #[(Value.int .u64 ((theL xs o i true).id)), (Value.int .i64 ((theL xs o i true).owner)), (Value.int .u64 e), (Value.int .u64 ((theL xs o i true).till)), (Value.bool ((theL xs o i true).cursor))] 88), blk b7 (.cells #[(Value.int .u64 0), (Value.int .i64 0), (Value.int .u64 0), (Value.int .u64 0), (Value.bool false)] 88), blk b5 (.cells #[(Value.slice none 0 0), (Value.int .i64 0), (Value.int .u64 0)] 80), blk b3 (.cells #[v, (Value.int .i64 most), (Value.int .u64 last)] 80)] [SlAt 5 v26 (putV xs (⟨(theL xs o i true).id, (theL xs o i true).owner, e, (theL xs o i true).till, (theL xs o i true).cursor⟩ : Lease)).length ((putV xs (⟨(theL xs o i true).id, (theL xs o i true).owner, e, (theL xs o i true).till, (theL xs o i true).cursor⟩ : Lease)).flatMap leaseE), SlAt 5 v xs.length (xs.flatMap leaseE)])
      refine TW.read (v := (Value.agg #[(Value.int .u64 ((theL xs o i true).id)), (Value.int .i64 ((theL xs o i true).owner)), (Value.int .u64 e), (Value.int .u64 ((theL xs o i true).till)), (Value.bool ((theL xs o i true).cursor))])) rfl (by decide) (by decide) rfl (fun A w M => (Step.loadN Try.ag88 rfl (M.blk 1 rfl) (Nat.le_of_ble_eq_true rfl) rfl)) ?_
      refine TW.store (v := (Value.agg #[v26, (Value.int .i64 most), (Value.int .u64 last)])) (cs := [v26, (Value.int .i64 most), (Value.int .u64 last)]) (c' := #[v26, (Value.int .i64 most), (Value.int .u64 last)]) 2 rfl rfl (by decide) rfl Try.el80.sized rfl rfl rfl rfl (Nat.le_of_ble_eq_true rfl) (cel_cons (IsSl.cel sl27) (cel_cons rfl (cel_cons rfl cel_nil))) rfl rfl (List.Sublist.cons_cons _ (List.Sublist.cons _ (List.Sublist.cons _ (List.Sublist.cons_cons _ List.Sublist.slnil)))) (fun r h => (List.mem_cons_of_mem _ h)) ?_
      refine TW.store (v := (Value.agg #[(Value.int .u64 ((theL xs o i true).id)), (Value.int .i64 ((theL xs o i true).owner)), (Value.int .u64 e), (Value.int .u64 ((theL xs o i true).till)), (Value.bool ((theL xs o i true).cursor))])) (cs := [(Value.int .u64 ((theL xs o i true).id)), (Value.int .i64 ((theL xs o i true).owner)), (Value.int .u64 e), (Value.int .u64 ((theL xs o i true).till)), (Value.bool ((theL xs o i true).cursor))]) (c' := #[(Value.int .u64 ((theL xs o i true).id)), (Value.int .i64 ((theL xs o i true).owner)), (Value.int .u64 e), (Value.int .u64 ((theL xs o i true).till)), (Value.bool ((theL xs o i true).cursor))]) 1 rfl rfl (by decide) rfl Try.el88.sized rfl rfl rfl rfl (Nat.le_of_ble_eq_true rfl) (cel_cons rfl (cel_cons rfl (cel_cons rfl (cel_cons rfl (cel_cons rfl cel_nil))))) rfl rfl (List.Sublist.cons_cons _ (List.Sublist.cons _ (List.Sublist.cons _ (List.Sublist.cons_cons _ List.Sublist.slnil)))) (fun r h => (List.mem_cons_of_mem _ h)) ?_
      refine TW.pure (v := (Value.int .i64 0)) rfl (by decide) (by decide) rfl (fun w => (Step.assign rfl)) ?_
      refine TW.done (fun w28 M => ?_)
      refine W.ret ?_
      refine ⟨.inl rfl, (Value.tuple #[(Value.agg #[v26, (Value.int .i64 most), (Value.int .u64 last)]), (Value.agg #[(Value.int .u64 ((theL xs o i true).id)), (Value.int .i64 ((theL xs o i true).owner)), (Value.int .u64 e), (Value.int .u64 ((theL xs o i true).till)), (Value.bool ((theL xs o i true).cursor))]), (Value.int .i64 0)]), ?_, ?_⟩
      · exact ⟨rfl, (Res.r3 (RV.cellN Try.ag80 rfl (M.blk 2 rfl) rfl) (RV.cellN Try.ag88 rfl (M.blk 1 rfl) rfl) (show RV _ _ _ (.tmp 10) (Value.int .i64 0) from by exact rfl))⟩
      have e29 : (moveV xs o i e).1 = putV xs (⟨(theL xs o i true).id, (theL xs o i true).owner, e, (theL xs o i true).till, (theL xs o i true).cursor⟩ : Lease) := by
        first | (simp [moveV, leaseZ, noE, h9, h14p]; done) | (simp only [moveV, if_true, h9, h14p]; exact (move_eq hu h9).symm)
      have hf30 := Sh.reList e29 (M.shr' 0 rfl)
      refine ⟨v26, ?_, M.close [] rfl (by decide) ⟨hf30, trivial⟩⟩
      first | (simp [moveV, leaseZ, noE, h9, h14p]; done) | (simp only [moveV, if_true, h9, h14p]; exact (move_eq hu h9).symm)
  ·
    refine WL.callX rfl (ref_getnow v xs most last o i true h9 (M.enterW0 ⟨(M.wideR0 0 rfl), trivial⟩)) (CallsF.func Try.en90 rfl) ?_
    rintro _ w31 ⟨rfl, m⟩
    replace M := M.leaveW0 m
    clear m
    replace M : Mem _ _ _ [blk b7 (.cells #[(Value.int .u64 0), (Value.int .i64 0), (Value.int .u64 0), (Value.int .u64 0), (Value.bool false)] 88), blk b5 (.cells #[(Value.slice none 0 0), (Value.int .i64 0), (Value.int .u64 0)] 80), blk b3 (.cells #[v, (Value.int .i64 most), (Value.int .u64 last)] 80)] [SlAt 5 v xs.length (xs.flatMap leaseE)] _ := M
    refine WL.step (v := (Value.tuple #[(Value.agg #[(Value.int .u64 leaseZ.id), (Value.int .i64 leaseZ.owner), (Value.int .u64 leaseZ.epoch), (Value.int .u64 leaseZ.till), (Value.bool leaseZ.cursor)]), (Value.int .i64 (noE true))])) rfl (Step.move rfl) ?_
    refine WL.step (v := (Value.agg #[(Value.int .u64 leaseZ.id), (Value.int .i64 leaseZ.owner), (Value.int .u64 leaseZ.epoch), (Value.int .u64 leaseZ.till), (Value.bool leaseZ.cursor)])) rfl (Step.pure (by kernel_rfl)) ?_
    refine WL.step (v := (Value.int .i64 (noE true))) rfl (Step.pure (by kernel_rfl)) ?_
    refine WL.alloc (c := #[(Value.int .u64 0), (Value.int .i64 0), (Value.int .u64 0), (Value.int .u64 0), (Value.bool false)]) M rfl Try.el88.zero rfl (fun b32 w33 hb32 M => ?_)
    refine WL.store (v := (Value.agg #[(Value.int .u64 leaseZ.id), (Value.int .i64 leaseZ.owner), (Value.int .u64 leaseZ.epoch), (Value.int .u64 leaseZ.till), (Value.bool leaseZ.cursor)])) (cs := [(Value.int .u64 leaseZ.id), (Value.int .i64 leaseZ.owner), (Value.int .u64 leaseZ.epoch), (Value.int .u64 leaseZ.till), (Value.bool leaseZ.cursor)]) (c' := #[(Value.int .u64 leaseZ.id), (Value.int .i64 leaseZ.owner), (Value.int .u64 leaseZ.epoch), (Value.int .u64 leaseZ.till), (Value.bool leaseZ.cursor)]) M 0 rfl rfl Try.el88.sized rfl rfl rfl rfl (Nat.le_of_ble_eq_true rfl) (cel_cons rfl (cel_cons rfl (cel_cons rfl (cel_cons rfl (cel_cons rfl cel_nil))))) rfl rfl (fun w34 M => ?_)
    refine WL.step (v := (Value.int .i64 (noE true))) rfl (Step.assign rfl) ?_
    refine WL.nil ?_
    refine W.seq' ?_
    refine W.seq' ?_
    refine W.region rfl ?_
    refine WL.step (v := (Value.int .i64 (noE true))) rfl (Step.move rfl) ?_
    refine WL.step (v := (Value.bool true)) rfl (Step.cast (congrArg Value.bool (show ((noE true : Int) != (0 : Int)) = true by unfold noE; split <;> rfl)) (Step.pure (by kernel_rfl))) ?_
    refine WL.nil ?_
    refine W.cond (t := true) rfl (fun _ => ?_) (fun h => by cases h)
    refine W.seq' ?_
    refine W.region rfl ?_
    refine WL.step (v := (Value.agg #[v, (Value.int .i64 most), (Value.int .u64 last)])) rfl (Step.loadN Try.ag80 rfl (M.blk 3 rfl) (Nat.le_of_ble_eq_true rfl) rfl) ?_
    refine WL.step (v := (Value.agg #[(Value.int .u64 0), (Value.int .i64 0), (Value.int .u64 0), (Value.int .u64 0), (Value.bool false)])) rfl (Step.pure (by kernel_rfl)) ?_
    refine WL.step (v := (Value.int .i64 (noE true))) rfl (Step.move rfl) ?_
    refine WL.store (v := (Value.agg #[v, (Value.int .i64 most), (Value.int .u64 last)])) (cs := [v, (Value.int .i64 most), (Value.int .u64 last)]) (c' := #[v, (Value.int .i64 most), (Value.int .u64 last)]) M 2 rfl rfl Try.el80.sized rfl rfl rfl rfl (Nat.le_of_ble_eq_true rfl) (cel_cons (IsSl.cel sl2) (cel_cons rfl (cel_cons rfl cel_nil))) rfl rfl (fun w35 M => ?_)
    refine WL.store (v := (Value.agg #[(Value.int .u64 0), (Value.int .i64 0), (Value.int .u64 0), (Value.int .u64 0), (Value.bool false)])) (cs := [(Value.int .u64 0), (Value.int .i64 0), (Value.int .u64 0), (Value.int .u64 0), (Value.bool false)]) (c' := #[(Value.int .u64 0), (Value.int .i64 0), (Value.int .u64 0), (Value.int .u64 0), (Value.bool false)]) M 1 rfl rfl Try.el88.sized rfl rfl rfl rfl (Nat.le_of_ble_eq_true rfl) (cel_cons rfl (cel_cons rfl (cel_cons rfl (cel_cons rfl (cel_cons rfl cel_nil))))) rfl rfl (fun w36 M => ?_)
    refine WL.step (v := (Value.int .i64 (noE true))) rfl (Step.assign rfl) ?_
    refine WL.nil ?_
    refine W.ret ?_
    refine ⟨.inl rfl, (Value.tuple #[(Value.agg #[v, (Value.int .i64 most), (Value.int .u64 last)]), (Value.agg #[(Value.int .u64 0), (Value.int .i64 0), (Value.int .u64 0), (Value.int .u64 0), (Value.bool false)]), (Value.int .i64 (noE true))]), ?_, ?_⟩
    · exact ⟨rfl, (Res.r3 (RV.cellN Try.ag80 rfl (M.blk 2 rfl) rfl) (RV.cellN Try.ag88 rfl (M.blk 1 rfl) rfl) (show RV _ _ _ (.tmp 10) (Value.int .i64 (noE true)) from by exact rfl))⟩
    have e37 : (moveV xs o i e).1 = xs := by
      first | (simp [moveV, leaseZ, noE, h9]; done) | (simp only [moveV, if_true, h9]; exact (move_eq hu h9).symm)
    have hf38 := Sh.reList e37 (M.shr' 0 rfl)
    refine ⟨v, ?_, M.close [] rfl (by decide) ⟨hf38, trivial⟩⟩
    first | (simp [moveV, leaseZ, noE, h9]; done) | (simp only [moveV, if_true, h9]; exact (move_eq hu h9).symm)

theorem ref_part {G : Nat → Prop} {w : World} (v : Value) (xs : List Lease) (most : Int) (last : Int) (kn : Int) (n : Int) (ow : Int)  (hb : xs.length ≤ 1000000) (M : Mem G (fun _ => False) w [] [SlAt 5 v xs.length (xs.flatMap leaseE)] w) : Rets Try.prog 94 #[(Value.agg #[v, (Value.int .i64 most), (Value.int .u64 last)]), (Value.int .i64 kn), (Value.int .u64 n), (Value.int .i64 ow)] w fun r w' => ∃ (v' : Value) (g' : Value), r = (Value.tuple #[(Value.agg #[v', (Value.int .i64 most), (Value.int .u64 last)]), g']) ∧ Mem G (fun _ => False) w [] [SlAt 5 v' (xs.filter fun (x : Lease) => !(partP kn n ow x)).length ((xs.filter fun (x : Lease) => !(partP kn n ow x)).flatMap leaseE), SlAt 5 g' (xs.filter (partP kn n ow)).length ((xs.filter (partP kn n ow)).flatMap leaseE)] w' := by
  refine Rets.enter 71 _ Try.func94 rfl Try.ntmps94 Try.results94 (by simp) ?_
  have hle1 := SlAt.le' (M.rep 0 rfl)
  have sl2 : IsSl v := SlAt.isSl (Mem.rep M 0 rfl)
  refine W.seq' ?_
  refine W.region rfl ?_
  refine WL.box (v := (Value.agg #[v, (Value.int .i64 most), (Value.int .u64 last)])) (c := #[v, (Value.int .i64 most), (Value.int .u64 last)]) M rfl rfl rfl (fun b3 w4 hb3 M => ?_)
  refine WL.alloc (c := #[(Value.slice none 0 0), (Value.int .i64 0), (Value.int .u64 0)]) M rfl Try.el80.zero rfl (fun b5 w6 hb5 M => ?_)
  refine WL.step (v := (Value.slice none 0 0)) rfl (Step.assign rfl) ?_
  refine WL.nil ?_
  refine W.seq' ?_
  refine W.region rfl ?_
  refine WL.step (v := (Value.pointer (some ⟨b3, 1, none⟩))) rfl (Step.pure (by kernel_rfl)) ?_
  refine WL.step (v := (Value.int .i64 most)) rfl (Step.load1 Try.sc3 rfl ((M.cell 1 rfl 1).trans rfl)) ?_
  refine WL.step (v := (Value.pointer (some ⟨b3, 2, none⟩))) rfl (Step.pure (by kernel_rfl)) ?_
  refine WL.step (v := (Value.int .u64 last)) rfl (Step.load1 Try.sc23 rfl ((M.cell 1 rfl 2).trans rfl)) ?_
  refine WL.step (v := (Value.agg #[(Value.slice none 0 0), (Value.int .i64 most), (Value.int .u64 last)])) rfl (Step.pure (by kernel_rfl)) ?_
  refine WL.alloc (c := #[(Value.slice none 0 0), (Value.int .i64 0), (Value.int .u64 0)]) M rfl Try.el80.zero rfl (fun b7 w8 hb7 M => ?_)
  refine WL.store (v := (Value.agg #[(Value.slice none 0 0), (Value.int .i64 most), (Value.int .u64 last)])) (cs := [(Value.slice none 0 0), (Value.int .i64 most), (Value.int .u64 last)]) (c' := #[(Value.slice none 0 0), (Value.int .i64 most), (Value.int .u64 last)]) M 0 rfl rfl Try.el80.sized rfl rfl rfl rfl (Nat.le_of_ble_eq_true rfl) (cel_cons rfl (cel_cons rfl (cel_cons rfl cel_nil))) rfl rfl (fun w9 M => ?_)
  refine WL.nil ?_
  refine W.seq' ?_
  refine W.region rfl ?_
  refine WL.step (v := (Value.slice none 0 0)) rfl (Step.assign rfl) ?_
  refine WL.nil ?_
  refine W.seq' ?_
  refine W.seq' ?_
  refine W.region rfl ?_
  refine WL.step (v := (Value.int .i64 0)) rfl (Step.assign rfl) ?_
  refine WL.nil ?_
  refine W.block ?_
  replace M := M.ownNil 88 5
  replace M := M.ownNil 88 5
  replace M := M.rechunk 0 (c' := own 88 5 (Value.slice none 0 0) (((xs.take 0).filter fun (x : Lease) => !(partP kn n ow x)).length) (((xs.take 0).filter fun (x : Lease) => !(partP kn n ow x)).flatMap leaseE)) rfl rfl
  replace M := M.rechunk 1 (c' := own 88 5 (Value.slice none 0 0) (((xs.take 0).filter (partP kn n ow)).length) (((xs.take 0).filter (partP kn n ow)).flatMap leaseE)) rfl rfl
  replace M : Mem _ _ _ [own 88 5 (Value.slice none 0 0) (((xs.take 0).filter fun (x : Lease) => !(partP kn n ow x)).length) (((xs.take 0).filter fun (x : Lease) => !(partP kn n ow x)).flatMap leaseE), own 88 5 (Value.slice none 0 0) (((xs.take 0).filter (partP kn n ow)).length) (((xs.take 0).filter (partP kn n ow)).flatMap leaseE), blk b7 (.cells #[(Value.slice none 0 0), (Value.int .i64 most), (Value.int .u64 last)] 80), blk b5 (.cells #[(Value.slice none 0 0), (Value.int .i64 0), (Value.int .u64 0)] 80), blk b3 (.cells #[v, (Value.int .i64 most), (Value.int .u64 last)] 80)] [SlAt 5 v xs.length (xs.flatMap leaseE)] _ := M
  replace M := M.sel (L' := [blk b7 (.cells #[(Value.slice none 0 0), (Value.int .i64 most), (Value.int .u64 last)] 80), own 88 5 (Value.slice none 0 0) (((xs.take 0).filter fun (x : Lease) => !(partP kn n ow x)).length) (((xs.take 0).filter fun (x : Lease) => !(partP kn n ow x)).flatMap leaseE), own 88 5 (Value.slice none 0 0) (((xs.take 0).filter (partP kn n ow)).length) (((xs.take 0).filter (partP kn n ow)).flatMap leaseE), blk b5 (.cells #[(Value.slice none 0 0), (Value.int .i64 0), (Value.int .u64 0)] 80), blk b3 (.cells #[v, (Value.int .i64 most), (Value.int .u64 last)] 80)]) [2, 0, 1, 3, 4] rfl (by decide)
  replace M : Mem _ _ _ [blk b7 (.cells #[(Value.slice none 0 0), (Value.int .i64 most), (Value.int .u64 last)] 80), own 88 5 (Value.slice none 0 0) (((xs.take 0).filter fun (x : Lease) => !(partP kn n ow x)).length) (((xs.take 0).filter fun (x : Lease) => !(partP kn n ow x)).flatMap leaseE), own 88 5 (Value.slice none 0 0) (((xs.take 0).filter (partP kn n ow)).length) (((xs.take 0).filter (partP kn n ow)).flatMap leaseE), blk b5 (.cells #[(Value.slice none 0 0), (Value.int .i64 0), (Value.int .u64 0)] 80), blk b3 (.cells #[v, (Value.int .i64 most), (Value.int .u64 last)] 80)] [SlAt 5 v xs.length (xs.flatMap leaseE)] _ := M
  refine W.loop (fun kk ρ w' => ∃ (k_ : Nat) (v_ : Value) (g_ : Value), ((k_ ≤ xs.length) ∧ kk = xs.length - k_) ∧ ρ.has [(1, (Value.int .i64 kn)), (2, (Value.int .u64 n)), (3, (Value.int .i64 ow)), (4, (Value.pointer (some ⟨b3, 0, none⟩))), (8, (Value.pointer (some ⟨b5, 0, none⟩))), (9, (Value.slice none 0 0)), (10, (Value.pointer (some ⟨b7, 0, none⟩))), (11, g_), (12, (Value.int .i64 ↑k_))] ∧ Mem G (fun _ => False) w [blk b7 (.cells #[v_, (Value.int .i64 most), (Value.int .u64 last)] 80), own 88 5 v_ (((xs.take k_).filter fun (x : Lease) => !(partP kn n ow x)).length) (((xs.take k_).filter fun (x : Lease) => !(partP kn n ow x)).flatMap leaseE), own 88 5 g_ (((xs.take k_).filter (partP kn n ow)).length) (((xs.take k_).filter (partP kn n ow)).flatMap leaseE), blk b5 (.cells #[(Value.slice none 0 0), (Value.int .i64 0), (Value.int .u64 0)] 80), blk b3 (.cells #[v, (Value.int .i64 most), (Value.int .u64 last)] 80)] [SlAt 5 v xs.length (xs.flatMap leaseE)]  w') _ ⟨0, _, _, ⟨(Nat.zero_le _), rfl⟩, ⟨rfl, rfl, rfl, rfl, rfl, rfl, rfl, rfl, rfl, rfl, rfl⟩, M⟩ ?_
  rintro _ ρ11 w10 ⟨k_, v_, g_, ⟨hi12, rfl⟩, hρ, M⟩
  obtain ⟨ρ11, rfl⟩ := hρ.know
  clear hρ
  have sl13 : IsSl v_ := SlAt.isSl (own_slAt (M.chunk 1 rfl).inv)
  have sl14 : IsSl g_ := SlAt.isSl (own_slAt (M.chunk 2 rfl).inv)
  have hac1 : ((xs.take k_).filter fun (x : Lease) => !(partP kn n ow x)).length ≤ 1000000 := gone_len (by omega)
  have hac2 : ((xs.take k_).filter (partP kn n ow)).length ≤ 1000000 := gone_len (by omega)
  refine W.seq' ?_
  refine W.seq' ?_
  refine W.region rfl ?_
  refine WL.step (v := (Value.int .i64 ↑k_)) rfl (Step.move rfl) ?_
  refine WL.step (v := (Value.pointer (some ⟨b3, 0, none⟩))) rfl (Step.pure (by kernel_rfl)) ?_
  refine WL.step (v := v) rfl (Step.load1 Try.sc78 rfl ((M.cell 4 rfl 0).trans rfl)) ?_
  refine WL.step (v := (Value.int .i64 ↑xs.length)) rfl (Step.lenSl Try.un78 rfl (M.rep 0 rfl)) ?_
  refine WL.step (v := (Value.bool (decide ((↑k_ : Int) < (↑xs.length : Int))))) rfl (Step.pure (by kernel_rfl)) ?_
  refine WL.nil ?_
  refine W.cond (t := decide ((↑k_ : Int) < (↑xs.length : Int))) rfl (fun h15 => ?_) (fun h15 => ?_)
  ·
    have h15p := of_decide_eq_true h15
    refine W.skip ?_
    refine W.seq' ?_
    refine W.block ?_
    refine W.seq' ?_
    refine W.region rfl ?_
    refine WL.step (v := (Value.pointer (some ⟨b3, 0, none⟩))) rfl (Step.pure (by kernel_rfl)) ?_
    refine WL.step (v := v) rfl (Step.load1 Try.sc78 rfl ((M.cell 4 rfl 0).trans rfl)) ?_
    refine WL.step (v := (Value.int .i64 ↑k_)) rfl (Step.move rfl) ?_
    obtain ⟨cap17, hb16⟩ := SlAt.base (M.rep 0 rfl) (by omega)
    obtain ⟨x18, hx18⟩ := elem_of_lt (xs := xs) (i := k_) (by omega)
    refine WL.step (v := (Value.pointer (some ⟨(sBlk v), sOff v + k_ * 5, none⟩))) rfl (Step.indexAddr (i := k_) (Try.un78).run Try.el88.sized rfl rfl (by omega) hb16 (by omega)) ?_
    refine WL.step (v := (Value.agg #[(Value.int .u64 x18.id), (Value.int .i64 x18.owner), (Value.int .u64 x18.epoch), (Value.int .u64 x18.till), (Value.bool x18.cursor)])) rfl (Step.loadEN (k := 0) (cs' := [(Value.int .u64 x18.id), (Value.int .i64 x18.owner), (Value.int .u64 x18.epoch), (Value.int .u64 x18.till), (Value.bool x18.cursor)]) Try.ag88 (flat_ec (M.rep 0 rfl) hx18 leaseE_len) (by decide) rfl rfl rfl) ?_
    refine WL.alloc (c := #[(Value.int .u64 0), (Value.int .i64 0), (Value.int .u64 0), (Value.int .u64 0), (Value.bool false)]) M rfl Try.el88.zero rfl (fun b19 w20 hb19 M => ?_)
    refine WL.store (v := (Value.agg #[(Value.int .u64 x18.id), (Value.int .i64 x18.owner), (Value.int .u64 x18.epoch), (Value.int .u64 x18.till), (Value.bool x18.cursor)])) (cs := [(Value.int .u64 x18.id), (Value.int .i64 x18.owner), (Value.int .u64 x18.epoch), (Value.int .u64 x18.till), (Value.bool x18.cursor)]) (c' := #[(Value.int .u64 x18.id), (Value.int .i64 x18.owner), (Value.int .u64 x18.epoch), (Value.int .u64 x18.till), (Value.bool x18.cursor)]) M 0 rfl rfl Try.el88.sized rfl rfl rfl rfl (Nat.le_of_ble_eq_true rfl) (cel_cons rfl (cel_cons rfl (cel_cons rfl (cel_cons rfl (cel_cons rfl cel_nil))))) rfl rfl (fun w21 M => ?_)
    refine WL.nil ?_
    refine W.seq' ?_
    refine W.region rfl ?_
    refine WL.step (v := (Value.int .i64 kn)) rfl (Step.move rfl) ?_
    refine WL.step (v := (Value.bool ((kn : Int) == (0 : Int)))) rfl (Step.pure (by kernel_rfl)) ?_
    refine WL.step (v := (Value.bool ((kn : Int) == (0 : Int)))) rfl (Step.move rfl) ?_
    rcases Bool.eq_false_or_eq_true ((kn : Int) == (0 : Int)) with h22 | h22
    ·
      have h22p : (kn : Int) = (0 : Int) := by simpa using h22
      rw [h22]
      refine WL.step (v := (Value.int .u64 n)) rfl (Step.move rfl) ?_
      refine WL.step (v := (Value.pointer (some ⟨b19, 3, none⟩))) rfl (Step.pure (by kernel_rfl)) ?_
      refine WL.step (v := (Value.int .u64 x18.till)) rfl (Step.load1 Try.sc23 rfl ((M.cell 0 rfl 3).trans rfl)) ?_
      refine WL.step (v := (Value.bool (decide ((n : Int) ≥ (x18.till : Int))))) rfl (Step.pure (by kernel_rfl)) ?_
      refine WL.step (v := (Value.bool (decide ((n : Int) ≥ (x18.till : Int))))) rfl (Step.pick (t := true) rfl rfl) ?_
      refine WL.step (v := (Value.bool (decide ((n : Int) ≥ (x18.till : Int))))) rfl (Step.move rfl) ?_
      rcases Bool.eq_false_or_eq_true (decide ((n : Int) ≥ (x18.till : Int))) with h23 | h23
      ·
        have h23p := of_decide_eq_true h23
        rw [h23]
        refine WL.pass rfl ?_
        refine WL.pass rfl ?_
        refine WL.pass rfl ?_
        refine WL.pass rfl ?_
        refine WL.pass rfl ?_
        refine WL.pass rfl ?_
        refine WL.pass rfl ?_
        refine WL.pass rfl ?_
        refine WL.step (v := (Value.bool true)) rfl (Step.pick (t := true) rfl rfl) ?_
        refine WL.step (v := (Value.bool true)) rfl (Step.move rfl) ?_
        refine WL.pass rfl ?_
        refine WL.pass rfl ?_
        refine WL.pass rfl ?_
        refine WL.pass rfl ?_
        refine WL.pass rfl ?_
        refine WL.pass rfl ?_
        refine WL.pass rfl ?_
        refine WL.pass rfl ?_
        refine WL.step (v := (Value.bool true)) rfl (Step.pick (t := true) rfl rfl) ?_
        refine WL.nil ?_
        refine W.cond (t := true) rfl (fun _ => ?_) (fun h => by cases h)
        refine W.region rfl ?_
        refine WL.step (v := g_) rfl (Step.move rfl) ?_
        refine WL.step (v := (Value.agg #[(Value.int .u64 x18.id), (Value.int .i64 x18.owner), (Value.int .u64 x18.epoch), (Value.int .u64 x18.till), (Value.bool x18.cursor)])) rfl (Step.loadN Try.ag88 rfl (M.blk 0 rfl) (Nat.le_of_ble_eq_true rfl) rfl) ?_
        refine WL.new (obj := .cells #[(Value.int .u64 x18.id), (Value.int .i64 x18.owner), (Value.int .u64 x18.epoch), (Value.int .u64 x18.till), (Value.bool x18.cursor)] 88) (fun b => .slice (some ⟨b, 0, none⟩) 1 1) M rfl (fun w => Step.make (by kernel_rfl)) (fun b24 w25 hb24 M => ?_)
        refine WL.does rfl (M.appendF ((xs.take k_).filter (partP kn n ow)) ([x18] : List Lease) (sv := (Value.slice (some ⟨b24, 0, none⟩) 1 1)) 4 Try.un78 Try.el88 rfl (by decide) rfl rfl rfl (SlAt.of_blk (M.blk 0 rfl) rfl (by decide)) leaseE_cel (by have := (by omega); simp only [maxLen, List.length_nil, List.length_cons, List.length_append]; omega) (by have := (by omega); (try simp only [List.length_nil, List.length_cons, List.length_append]); omega)) ?_
        rintro v26 w27 M
        replace M : Mem _ _ _ [blk b24 (.cells #[(Value.int .u64 x18.id), (Value.int .i64 x18.owner), (Value.int .u64 x18.epoch), (Value.int .u64 x18.till), (Value.bool x18.cursor)] 88), blk b19 (.cells #[(Value.int .u64 x18.id), (Value.int .i64 x18.owner), (Value.int .u64 x18.epoch), (Value.int .u64 x18.till), (Value.bool x18.cursor)] 88), blk b7 (.cells #[v_, (Value.int .i64 most), (Value.int .u64 last)] 80), own 88 5 v_ (((xs.take k_).filter fun (x : Lease) => !(partP kn n ow x)).length) (((xs.take k_).filter fun (x : Lease) => !(partP kn n ow x)).flatMap leaseE), own 88 5 v26 ((((xs.take k_).filter (partP kn n ow)) ++ ([x18] : List Lease)).length) ((((xs.take k_).filter (partP kn n ow)) ++ ([x18] : List Lease)).flatMap leaseE), blk b5 (.cells #[(Value.slice none 0 0), (Value.int .i64 0), (Value.int .u64 0)] 80), blk b3 (.cells #[v, (Value.int .i64 most), (Value.int .u64 last)] 80)] [SlAt 5 v xs.length (xs.flatMap leaseE)] _ := M
        have sl28 : IsSl v26 := SlAt.isSl (own_slAt (M.chunk 4 rfl).inv)
        refine WL.step (v := v26) rfl (Step.assign rfl) ?_
        refine WL.nil ?_
        refine W.region rfl ?_
        refine WL.step (v := (Value.int .i64 ↑k_)) rfl (Step.move rfl) ?_
        refine WL.step (v := (Value.int .i64 (↑k_ + 1))) rfl (Step.add rfl rfl (wrap_i64 (by omega))) ?_
        refine WL.step (v := (Value.int .i64 (↑k_ + 1))) rfl (Step.assign rfl) ?_
        refine WL.nil ?_
        have hP : partP kn n ow x18 = true := by first | (exfalso; omega) | simp [partP, h15p, hx18, h22p, h23p]
        replace M := M.rechunk 3 (c' := own 88 5 v_ (((xs.take (k_ + 1)).filter fun (x : Lease) => !(partP kn n ow x)).length) (((xs.take (k_ + 1)).filter fun (x : Lease) => !(partP kn n ow x)).flatMap leaseE)) rfl (by rw [filter_snN hx18 (by simp [hP])])
        replace M : Mem _ _ _ [blk b24 (.cells #[(Value.int .u64 x18.id), (Value.int .i64 x18.owner), (Value.int .u64 x18.epoch), (Value.int .u64 x18.till), (Value.bool x18.cursor)] 88), blk b19 (.cells #[(Value.int .u64 x18.id), (Value.int .i64 x18.owner), (Value.int .u64 x18.epoch), (Value.int .u64 x18.till), (Value.bool x18.cursor)] 88), blk b7 (.cells #[v_, (Value.int .i64 most), (Value.int .u64 last)] 80), own 88 5 v_ (((xs.take (k_ + 1)).filter fun (x : Lease) => !(partP kn n ow x)).length) (((xs.take (k_ + 1)).filter fun (x : Lease) => !(partP kn n ow x)).flatMap leaseE), own 88 5 v26 ((((xs.take k_).filter (partP kn n ow)) ++ ([x18] : List Lease)).length) ((((xs.take k_).filter (partP kn n ow)) ++ ([x18] : List Lease)).flatMap leaseE), blk b5 (.cells #[(Value.slice none 0 0), (Value.int .i64 0), (Value.int .u64 0)] 80), blk b3 (.cells #[v, (Value.int .i64 most), (Value.int .u64 last)] 80)] [SlAt 5 v xs.length (xs.flatMap leaseE)] _ := M
        replace M := M.rechunk 4 (c' := own 88 5 v26 (((xs.take (k_ + 1)).filter (partP kn n ow)).length) (((xs.take (k_ + 1)).filter (partP kn n ow)).flatMap leaseE)) rfl (by rw [filter_snY hx18 (by simp [hP])])
        replace M : Mem _ _ _ [blk b24 (.cells #[(Value.int .u64 x18.id), (Value.int .i64 x18.owner), (Value.int .u64 x18.epoch), (Value.int .u64 x18.till), (Value.bool x18.cursor)] 88), blk b19 (.cells #[(Value.int .u64 x18.id), (Value.int .i64 x18.owner), (Value.int .u64 x18.epoch), (Value.int .u64 x18.till), (Value.bool x18.cursor)] 88), blk b7 (.cells #[v_, (Value.int .i64 most), (Value.int .u64 last)] 80), own 88 5 v_ (((xs.take (k_ + 1)).filter fun (x : Lease) => !(partP kn n ow x)).length) (((xs.take (k_ + 1)).filter fun (x : Lease) => !(partP kn n ow x)).flatMap leaseE), own 88 5 v26 (((xs.take (k_ + 1)).filter (partP kn n ow)).length) (((xs.take (k_ + 1)).filter (partP kn n ow)).flatMap leaseE), blk b5 (.cells #[(Value.slice none 0 0), (Value.int .i64 0), (Value.int .u64 0)] 80), blk b3 (.cells #[v, (Value.int .i64 most), (Value.int .u64 last)] 80)] [SlAt 5 v xs.length (xs.flatMap leaseE)] _ := M
        replace M := M.sel (L' := [blk b7 (.cells #[v_, (Value.int .i64 most), (Value.int .u64 last)] 80), own 88 5 v_ (((xs.take (k_ + 1)).filter fun (x : Lease) => !(partP kn n ow x)).length) (((xs.take (k_ + 1)).filter fun (x : Lease) => !(partP kn n ow x)).flatMap leaseE), own 88 5 v26 (((xs.take (k_ + 1)).filter (partP kn n ow)).length) (((xs.take (k_ + 1)).filter (partP kn n ow)).flatMap leaseE), blk b5 (.cells #[(Value.slice none 0 0), (Value.int .i64 0), (Value.int .u64 0)] 80), blk b3 (.cells #[v, (Value.int .i64 most), (Value.int .u64 last)] 80)]) [2, 3, 4, 5, 6] rfl (by decide)
        exact ⟨_, (by omega), k_ + 1, _, _, ⟨(by omega), rfl⟩, ⟨rfl, rfl, rfl, rfl, rfl, rfl, rfl, rfl, rfl, rfl, rfl⟩, M⟩
      ·
        have h23p := of_decide_eq_false h23
        rw [h23]
        refine WL.step (v := (Value.int .i64 kn)) rfl (Step.move rfl) ?_
        refine WL.step (v := (Value.bool ((kn : Int) == (1 : Int)))) rfl (Step.pure (by kernel_rfl)) ?_
        refine WL.step (v := (Value.bool ((kn : Int) == (1 : Int)))) rfl (Step.move rfl) ?_
        rcases Bool.eq_false_or_eq_true ((kn : Int) == (1 : Int)) with h29 | h29
        ·
          have h29p : (kn : Int) = (1 : Int) := by simpa using h29
          rw [h29]
          refine WL.step (v := (Value.pointer (some ⟨b19, 1, none⟩))) rfl (Step.pure (by kernel_rfl)) ?_
          refine WL.step (v := (Value.int .i64 x18.owner)) rfl (Step.load1 Try.sc3 rfl ((M.cell 0 rfl 1).trans rfl)) ?_
          refine WL.step (v := (Value.int .i64 ow)) rfl (Step.move rfl) ?_
          refine WL.step (v := (Value.bool ((x18.owner : Int) == (ow : Int)))) rfl (Step.pure (by kernel_rfl)) ?_
          refine WL.step (v := (Value.bool ((x18.owner : Int) == (ow : Int)))) rfl (Step.pick (t := true) rfl rfl) ?_
          refine WL.step (v := (Value.bool ((x18.owner : Int) == (ow : Int)))) rfl (Step.pick (t := false) rfl rfl) ?_
          refine WL.step (v := (Value.bool ((x18.owner : Int) == (ow : Int)))) rfl (Step.move rfl) ?_
          rcases Bool.eq_false_or_eq_true ((x18.owner : Int) == (ow : Int)) with h30 | h30
          ·
            have h30p : (x18.owner : Int) = (ow : Int) := by simpa using h30
            rw [h30]
            refine WL.pass rfl ?_
            refine WL.pass rfl ?_
            refine WL.pass rfl ?_
            refine WL.pass rfl ?_
            refine WL.pass rfl ?_
            refine WL.pass rfl ?_
            refine WL.pass rfl ?_
            refine WL.pass rfl ?_
            refine WL.step (v := (Value.bool true)) rfl (Step.pick (t := true) rfl rfl) ?_
            refine WL.nil ?_
            refine W.cond (t := true) rfl (fun _ => ?_) (fun h => by cases h)
            refine W.region rfl ?_
            refine WL.step (v := g_) rfl (Step.move rfl) ?_
            refine WL.step (v := (Value.agg #[(Value.int .u64 x18.id), (Value.int .i64 x18.owner), (Value.int .u64 x18.epoch), (Value.int .u64 x18.till), (Value.bool x18.cursor)])) rfl (Step.loadN Try.ag88 rfl (M.blk 0 rfl) (Nat.le_of_ble_eq_true rfl) rfl) ?_
            refine WL.new (obj := .cells #[(Value.int .u64 x18.id), (Value.int .i64 x18.owner), (Value.int .u64 x18.epoch), (Value.int .u64 x18.till), (Value.bool x18.cursor)] 88) (fun b => .slice (some ⟨b, 0, none⟩) 1 1) M rfl (fun w => Step.make (by kernel_rfl)) (fun b31 w32 hb31 M => ?_)
            refine WL.does rfl (M.appendF ((xs.take k_).filter (partP kn n ow)) ([x18] : List Lease) (sv := (Value.slice (some ⟨b31, 0, none⟩) 1 1)) 4 Try.un78 Try.el88 rfl (by decide) rfl rfl rfl (SlAt.of_blk (M.blk 0 rfl) rfl (by decide)) leaseE_cel (by have := (by omega); simp only [maxLen, List.length_nil, List.length_cons, List.length_append]; omega) (by have := (by omega); (try simp only [List.length_nil, List.length_cons, List.length_append]); omega)) ?_
            rintro v33 w34 M
            replace M : Mem _ _ _ [blk b31 (.cells #[(Value.int .u64 x18.id), (Value.int .i64 x18.owner), (Value.int .u64 x18.epoch), (Value.int .u64 x18.till), (Value.bool x18.cursor)] 88), blk b19 (.cells #[(Value.int .u64 x18.id), (Value.int .i64 x18.owner), (Value.int .u64 x18.epoch), (Value.int .u64 x18.till), (Value.bool x18.cursor)] 88), blk b7 (.cells #[v_, (Value.int .i64 most), (Value.int .u64 last)] 80), own 88 5 v_ (((xs.take k_).filter fun (x : Lease) => !(partP kn n ow x)).length) (((xs.take k_).filter fun (x : Lease) => !(partP kn n ow x)).flatMap leaseE), own 88 5 v33 ((((xs.take k_).filter (partP kn n ow)) ++ ([x18] : List Lease)).length) ((((xs.take k_).filter (partP kn n ow)) ++ ([x18] : List Lease)).flatMap leaseE), blk b5 (.cells #[(Value.slice none 0 0), (Value.int .i64 0), (Value.int .u64 0)] 80), blk b3 (.cells #[v, (Value.int .i64 most), (Value.int .u64 last)] 80)] [SlAt 5 v xs.length (xs.flatMap leaseE)] _ := M
            have sl35 : IsSl v33 := SlAt.isSl (own_slAt (M.chunk 4 rfl).inv)
            refine WL.step (v := v33) rfl (Step.assign rfl) ?_
            refine WL.nil ?_
            refine W.region rfl ?_
            refine WL.step (v := (Value.int .i64 ↑k_)) rfl (Step.move rfl) ?_
            refine WL.step (v := (Value.int .i64 (↑k_ + 1))) rfl (Step.add rfl rfl (wrap_i64 (by omega))) ?_
            refine WL.step (v := (Value.int .i64 (↑k_ + 1))) rfl (Step.assign rfl) ?_
            refine WL.nil ?_
            have hP : partP kn n ow x18 = true := by first | (exfalso; omega) | simp [partP, h15p, hx18, h22p, h23p, h29p, h30p]
            replace M := M.rechunk 3 (c' := own 88 5 v_ (((xs.take (k_ + 1)).filter fun (x : Lease) => !(partP kn n ow x)).length) (((xs.take (k_ + 1)).filter fun (x : Lease) => !(partP kn n ow x)).flatMap leaseE)) rfl (by rw [filter_snN hx18 (by simp [hP])])
            replace M : Mem _ _ _ [blk b31 (.cells #[(Value.int .u64 x18.id), (Value.int .i64 x18.owner), (Value.int .u64 x18.epoch), (Value.int .u64 x18.till), (Value.bool x18.cursor)] 88), blk b19 (.cells #[(Value.int .u64 x18.id), (Value.int .i64 x18.owner), (Value.int .u64 x18.epoch), (Value.int .u64 x18.till), (Value.bool x18.cursor)] 88), blk b7 (.cells #[v_, (Value.int .i64 most), (Value.int .u64 last)] 80), own 88 5 v_ (((xs.take (k_ + 1)).filter fun (x : Lease) => !(partP kn n ow x)).length) (((xs.take (k_ + 1)).filter fun (x : Lease) => !(partP kn n ow x)).flatMap leaseE), own 88 5 v33 ((((xs.take k_).filter (partP kn n ow)) ++ ([x18] : List Lease)).length) ((((xs.take k_).filter (partP kn n ow)) ++ ([x18] : List Lease)).flatMap leaseE), blk b5 (.cells #[(Value.slice none 0 0), (Value.int .i64 0), (Value.int .u64 0)] 80), blk b3 (.cells #[v, (Value.int .i64 most), (Value.int .u64 last)] 80)] [SlAt 5 v xs.length (xs.flatMap leaseE)] _ := M
            replace M := M.rechunk 4 (c' := own 88 5 v33 (((xs.take (k_ + 1)).filter (partP kn n ow)).length) (((xs.take (k_ + 1)).filter (partP kn n ow)).flatMap leaseE)) rfl (by rw [filter_snY hx18 (by simp [hP])])
            replace M : Mem _ _ _ [blk b31 (.cells #[(Value.int .u64 x18.id), (Value.int .i64 x18.owner), (Value.int .u64 x18.epoch), (Value.int .u64 x18.till), (Value.bool x18.cursor)] 88), blk b19 (.cells #[(Value.int .u64 x18.id), (Value.int .i64 x18.owner), (Value.int .u64 x18.epoch), (Value.int .u64 x18.till), (Value.bool x18.cursor)] 88), blk b7 (.cells #[v_, (Value.int .i64 most), (Value.int .u64 last)] 80), own 88 5 v_ (((xs.take (k_ + 1)).filter fun (x : Lease) => !(partP kn n ow x)).length) (((xs.take (k_ + 1)).filter fun (x : Lease) => !(partP kn n ow x)).flatMap leaseE), own 88 5 v33 (((xs.take (k_ + 1)).filter (partP kn n ow)).length) (((xs.take (k_ + 1)).filter (partP kn n ow)).flatMap leaseE), blk b5 (.cells #[(Value.slice none 0 0), (Value.int .i64 0), (Value.int .u64 0)] 80), blk b3 (.cells #[v, (Value.int .i64 most), (Value.int .u64 last)] 80)] [SlAt 5 v xs.length (xs.flatMap leaseE)] _ := M
            replace M := M.sel (L' := [blk b7 (.cells #[v_, (Value.int .i64 most), (Value.int .u64 last)] 80), own 88 5 v_ (((xs.take (k_ + 1)).filter fun (x : Lease) => !(partP kn n ow x)).length) (((xs.take (k_ + 1)).filter fun (x : Lease) => !(partP kn n ow x)).flatMap leaseE), own 88 5 v33 (((xs.take (k_ + 1)).filter (partP kn n ow)).length) (((xs.take (k_ + 1)).filter (partP kn n ow)).flatMap leaseE), blk b5 (.cells #[(Value.slice none 0 0), (Value.int .i64 0), (Value.int .u64 0)] 80), blk b3 (.cells #[v, (Value.int .i64 most), (Value.int .u64 last)] 80)]) [2, 3, 4, 5, 6] rfl (by decide)
            exact ⟨_, (by omega), k_ + 1, _, _, ⟨(by omega), rfl⟩, ⟨rfl, rfl, rfl, rfl, rfl, rfl, rfl, rfl, rfl, rfl, rfl⟩, M⟩
          ·
            have h30p : ¬ (x18.owner : Int) = (ow : Int) := by simpa using h30
            rw [h30]
            refine WL.step (v := (Value.int .i64 kn)) rfl (Step.move rfl) ?_
            refine WL.step (v := (Value.bool ((kn : Int) == (2 : Int)))) rfl (Step.pure (by kernel_rfl)) ?_
            refine WL.step (v := (Value.bool ((kn : Int) == (2 : Int)))) rfl (Step.move rfl) ?_
            rcases Bool.eq_false_or_eq_true ((kn : Int) == (2 : Int)) with h36 | h36
            ·
              have h36p : (kn : Int) = (2 : Int) := by simpa using h36
              rw [h36]
              refine WL.step (v := (Value.pointer (some ⟨b19, 0, none⟩))) rfl (Step.pure (by kernel_rfl)) ?_
              refine WL.step (v := (Value.int .u64 x18.id)) rfl (Step.load1 Try.sc23 rfl ((M.cell 0 rfl 0).trans rfl)) ?_
              refine WL.step (v := (Value.int .u64 n)) rfl (Step.move rfl) ?_
              refine WL.step (v := (Value.bool ((x18.id : Int) == (n : Int)))) rfl (Step.pure (by kernel_rfl)) ?_
              refine WL.step (v := (Value.bool ((x18.id : Int) == (n : Int)))) rfl (Step.pick (t := true) rfl rfl) ?_
              refine WL.step (v := (Value.bool ((x18.id : Int) == (n : Int)))) rfl (Step.pick (t := false) rfl rfl) ?_
              refine WL.nil ?_
              refine W.cond (t := (x18.id : Int) == (n : Int)) rfl (fun h37 => ?_) (fun h37 => ?_)
              ·
                have h37p : (x18.id : Int) = (n : Int) := by simpa using h37
                refine W.region rfl ?_
                refine WL.step (v := g_) rfl (Step.move rfl) ?_
                refine WL.step (v := (Value.agg #[(Value.int .u64 x18.id), (Value.int .i64 x18.owner), (Value.int .u64 x18.epoch), (Value.int .u64 x18.till), (Value.bool x18.cursor)])) rfl (Step.loadN Try.ag88 rfl (M.blk 0 rfl) (Nat.le_of_ble_eq_true rfl) rfl) ?_
                refine WL.new (obj := .cells #[(Value.int .u64 x18.id), (Value.int .i64 x18.owner), (Value.int .u64 x18.epoch), (Value.int .u64 x18.till), (Value.bool x18.cursor)] 88) (fun b => .slice (some ⟨b, 0, none⟩) 1 1) M rfl (fun w => Step.make (by kernel_rfl)) (fun b38 w39 hb38 M => ?_)
                refine WL.does rfl (M.appendF ((xs.take k_).filter (partP kn n ow)) ([x18] : List Lease) (sv := (Value.slice (some ⟨b38, 0, none⟩) 1 1)) 4 Try.un78 Try.el88 rfl (by decide) rfl rfl rfl (SlAt.of_blk (M.blk 0 rfl) rfl (by decide)) leaseE_cel (by have := (by omega); simp only [maxLen, List.length_nil, List.length_cons, List.length_append]; omega) (by have := (by omega); (try simp only [List.length_nil, List.length_cons, List.length_append]); omega)) ?_
                rintro v40 w41 M
                replace M : Mem _ _ _ [blk b38 (.cells #[(Value.int .u64 x18.id), (Value.int .i64 x18.owner), (Value.int .u64 x18.epoch), (Value.int .u64 x18.till), (Value.bool x18.cursor)] 88), blk b19 (.cells #[(Value.int .u64 x18.id), (Value.int .i64 x18.owner), (Value.int .u64 x18.epoch), (Value.int .u64 x18.till), (Value.bool x18.cursor)] 88), blk b7 (.cells #[v_, (Value.int .i64 most), (Value.int .u64 last)] 80), own 88 5 v_ (((xs.take k_).filter fun (x : Lease) => !(partP kn n ow x)).length) (((xs.take k_).filter fun (x : Lease) => !(partP kn n ow x)).flatMap leaseE), own 88 5 v40 ((((xs.take k_).filter (partP kn n ow)) ++ ([x18] : List Lease)).length) ((((xs.take k_).filter (partP kn n ow)) ++ ([x18] : List Lease)).flatMap leaseE), blk b5 (.cells #[(Value.slice none 0 0), (Value.int .i64 0), (Value.int .u64 0)] 80), blk b3 (.cells #[v, (Value.int .i64 most), (Value.int .u64 last)] 80)] [SlAt 5 v xs.length (xs.flatMap leaseE)] _ := M
                have sl42 : IsSl v40 := SlAt.isSl (own_slAt (M.chunk 4 rfl).inv)
                refine WL.step (v := v40) rfl (Step.assign rfl) ?_
                refine WL.nil ?_
                refine W.region rfl ?_
                refine WL.step (v := (Value.int .i64 ↑k_)) rfl (Step.move rfl) ?_
                refine WL.step (v := (Value.int .i64 (↑k_ + 1))) rfl (Step.add rfl rfl (wrap_i64 (by omega))) ?_
                refine WL.step (v := (Value.int .i64 (↑k_ + 1))) rfl (Step.assign rfl) ?_
                refine WL.nil ?_
                have hP : partP kn n ow x18 = true := by first | (exfalso; omega) | simp [partP, h15p, hx18, h22p, h23p, h29p, h30p, h36p, h37p]
                replace M := M.rechunk 3 (c' := own 88 5 v_ (((xs.take (k_ + 1)).filter fun (x : Lease) => !(partP kn n ow x)).length) (((xs.take (k_ + 1)).filter fun (x : Lease) => !(partP kn n ow x)).flatMap leaseE)) rfl (by rw [filter_snN hx18 (by simp [hP])])
                replace M : Mem _ _ _ [blk b38 (.cells #[(Value.int .u64 x18.id), (Value.int .i64 x18.owner), (Value.int .u64 x18.epoch), (Value.int .u64 x18.till), (Value.bool x18.cursor)] 88), blk b19 (.cells #[(Value.int .u64 x18.id), (Value.int .i64 x18.owner), (Value.int .u64 x18.epoch), (Value.int .u64 x18.till), (Value.bool x18.cursor)] 88), blk b7 (.cells #[v_, (Value.int .i64 most), (Value.int .u64 last)] 80), own 88 5 v_ (((xs.take (k_ + 1)).filter fun (x : Lease) => !(partP kn n ow x)).length) (((xs.take (k_ + 1)).filter fun (x : Lease) => !(partP kn n ow x)).flatMap leaseE), own 88 5 v40 ((((xs.take k_).filter (partP kn n ow)) ++ ([x18] : List Lease)).length) ((((xs.take k_).filter (partP kn n ow)) ++ ([x18] : List Lease)).flatMap leaseE), blk b5 (.cells #[(Value.slice none 0 0), (Value.int .i64 0), (Value.int .u64 0)] 80), blk b3 (.cells #[v, (Value.int .i64 most), (Value.int .u64 last)] 80)] [SlAt 5 v xs.length (xs.flatMap leaseE)] _ := M
                replace M := M.rechunk 4 (c' := own 88 5 v40 (((xs.take (k_ + 1)).filter (partP kn n ow)).length) (((xs.take (k_ + 1)).filter (partP kn n ow)).flatMap leaseE)) rfl (by rw [filter_snY hx18 (by simp [hP])])
                replace M : Mem _ _ _ [blk b38 (.cells #[(Value.int .u64 x18.id), (Value.int .i64 x18.owner), (Value.int .u64 x18.epoch), (Value.int .u64 x18.till), (Value.bool x18.cursor)] 88), blk b19 (.cells #[(Value.int .u64 x18.id), (Value.int .i64 x18.owner), (Value.int .u64 x18.epoch), (Value.int .u64 x18.till), (Value.bool x18.cursor)] 88), blk b7 (.cells #[v_, (Value.int .i64 most), (Value.int .u64 last)] 80), own 88 5 v_ (((xs.take (k_ + 1)).filter fun (x : Lease) => !(partP kn n ow x)).length) (((xs.take (k_ + 1)).filter fun (x : Lease) => !(partP kn n ow x)).flatMap leaseE), own 88 5 v40 (((xs.take (k_ + 1)).filter (partP kn n ow)).length) (((xs.take (k_ + 1)).filter (partP kn n ow)).flatMap leaseE), blk b5 (.cells #[(Value.slice none 0 0), (Value.int .i64 0), (Value.int .u64 0)] 80), blk b3 (.cells #[v, (Value.int .i64 most), (Value.int .u64 last)] 80)] [SlAt 5 v xs.length (xs.flatMap leaseE)] _ := M
                replace M := M.sel (L' := [blk b7 (.cells #[v_, (Value.int .i64 most), (Value.int .u64 last)] 80), own 88 5 v_ (((xs.take (k_ + 1)).filter fun (x : Lease) => !(partP kn n ow x)).length) (((xs.take (k_ + 1)).filter fun (x : Lease) => !(partP kn n ow x)).flatMap leaseE), own 88 5 v40 (((xs.take (k_ + 1)).filter (partP kn n ow)).length) (((xs.take (k_ + 1)).filter (partP kn n ow)).flatMap leaseE), blk b5 (.cells #[(Value.slice none 0 0), (Value.int .i64 0), (Value.int .u64 0)] 80), blk b3 (.cells #[v, (Value.int .i64 most), (Value.int .u64 last)] 80)]) [2, 3, 4, 5, 6] rfl (by decide)
                exact ⟨_, (by omega), k_ + 1, _, _, ⟨(by omega), rfl⟩, ⟨rfl, rfl, rfl, rfl, rfl, rfl, rfl, rfl, rfl, rfl, rfl⟩, M⟩
              ·
                have h37p : ¬ (x18.id : Int) = (n : Int) := by simpa using h37
                refine W.region rfl ?_
                refine WL.step (v := (Value.pointer (some ⟨b7, 0, none⟩))) rfl (Step.pure (by kernel_rfl)) ?_
                refine WL.step (v := v_) rfl (Step.load1 Try.sc78 rfl ((M.cell 1 rfl 0).trans rfl)) ?_
                refine WL.step (v := (Value.agg #[(Value.int .u64 x18.id), (Value.int .i64 x18.owner), (Value.int .u64 x18.epoch), (Value.int .u64 x18.till), (Value.bool x18.cursor)])) rfl (Step.loadN Try.ag88 rfl (M.blk 0 rfl) (Nat.le_of_ble_eq_true rfl) rfl) ?_
                refine WL.new (obj := .cells #[(Value.int .u64 x18.id), (Value.int .i64 x18.owner), (Value.int .u64 x18.epoch), (Value.int .u64 x18.till), (Value.bool x18.cursor)] 88) (fun b => .slice (some ⟨b, 0, none⟩) 1 1) M rfl (fun w => Step.make (by kernel_rfl)) (fun b43 w44 hb43 M => ?_)
                refine WL.does rfl (M.appendF ((xs.take k_).filter fun (x : Lease) => !(partP kn n ow x)) ([x18] : List Lease) (sv := (Value.slice (some ⟨b43, 0, none⟩) 1 1)) 3 Try.un78 Try.el88 rfl (by decide) rfl rfl rfl (SlAt.of_blk (M.blk 0 rfl) rfl (by decide)) leaseE_cel (by have := (by omega); simp only [maxLen, List.length_nil, List.length_cons, List.length_append]; omega) (by have := (by omega); (try simp only [List.length_nil, List.length_cons, List.length_append]); omega)) ?_
                rintro v45 w46 M
                replace M : Mem _ _ _ [blk b43 (.cells #[(Value.int .u64 x18.id), (Value.int .i64 x18.owner), (Value.int .u64 x18.epoch), (Value.int .u64 x18.till), (Value.bool x18.cursor)] 88), blk b19 (.cells #[(Value.int .u64 x18.id), (Value.int .i64 x18.owner), (Value.int .u64 x18.epoch), (Value.int .u64 x18.till), (Value.bool x18.cursor)] 88), blk b7 (.cells #[v_, (Value.int .i64 most), (Value.int .u64 last)] 80), own 88 5 v45 ((((xs.take k_).filter fun (x : Lease) => !(partP kn n ow x)) ++ ([x18] : List Lease)).length) ((((xs.take k_).filter fun (x : Lease) => !(partP kn n ow x)) ++ ([x18] : List Lease)).flatMap leaseE), own 88 5 g_ (((xs.take k_).filter (partP kn n ow)).length) (((xs.take k_).filter (partP kn n ow)).flatMap leaseE), blk b5 (.cells #[(Value.slice none 0 0), (Value.int .i64 0), (Value.int .u64 0)] 80), blk b3 (.cells #[v, (Value.int .i64 most), (Value.int .u64 last)] 80)] [SlAt 5 v xs.length (xs.flatMap leaseE)] _ := M
                have sl47 : IsSl v45 := SlAt.isSl (own_slAt (M.chunk 3 rfl).inv)
                refine WL.step (v := (Value.pointer (some ⟨b7, 0, none⟩))) rfl (Step.pure (by kernel_rfl)) ?_
                refine WL.store (v := v45) (cs := [v45]) (c' := #[v45, (Value.int .i64 most), (Value.int .u64 last)]) M 2 rfl rfl Try.el78.sized rfl rfl (IsSl.list sl47) rfl (Nat.le_of_ble_eq_true rfl) (cel_cons (IsSl.cel sl47) cel_nil) rfl rfl (fun w48 M => ?_)
                refine WL.nil ?_
                refine W.region rfl ?_
                refine WL.step (v := (Value.int .i64 ↑k_)) rfl (Step.move rfl) ?_
                refine WL.step (v := (Value.int .i64 (↑k_ + 1))) rfl (Step.add rfl rfl (wrap_i64 (by omega))) ?_
                refine WL.step (v := (Value.int .i64 (↑k_ + 1))) rfl (Step.assign rfl) ?_
                refine WL.nil ?_
                have hP : partP kn n ow x18 = false := by first | (exfalso; omega) | simp [partP, h15p, hx18, h22p, h23p, h29p, h30p, h36p, h37p]
                replace M := M.rechunk 3 (c' := own 88 5 v45 (((xs.take (k_ + 1)).filter fun (x : Lease) => !(partP kn n ow x)).length) (((xs.take (k_ + 1)).filter fun (x : Lease) => !(partP kn n ow x)).flatMap leaseE)) rfl (by rw [filter_snY hx18 (by simp [hP])])
                replace M : Mem _ _ _ [blk b43 (.cells #[(Value.int .u64 x18.id), (Value.int .i64 x18.owner), (Value.int .u64 x18.epoch), (Value.int .u64 x18.till), (Value.bool x18.cursor)] 88), blk b19 (.cells #[(Value.int .u64 x18.id), (Value.int .i64 x18.owner), (Value.int .u64 x18.epoch), (Value.int .u64 x18.till), (Value.bool x18.cursor)] 88), blk b7 (.cells #[v45, (Value.int .i64 most), (Value.int .u64 last)] 80), own 88 5 v45 (((xs.take (k_ + 1)).filter fun (x : Lease) => !(partP kn n ow x)).length) (((xs.take (k_ + 1)).filter fun (x : Lease) => !(partP kn n ow x)).flatMap leaseE), own 88 5 g_ (((xs.take k_).filter (partP kn n ow)).length) (((xs.take k_).filter (partP kn n ow)).flatMap leaseE), blk b5 (.cells #[(Value.slice none 0 0), (Value.int .i64 0), (Value.int .u64 0)] 80), blk b3 (.cells #[v, (Value.int .i64 most), (Value.int .u64 last)] 80)] [SlAt 5 v xs.length (xs.flatMap leaseE)] _ := M
                replace M := M.rechunk 4 (c' := own 88 5 g_ (((xs.take (k_ + 1)).filter (partP kn n ow)).length) (((xs.take (k_ + 1)).filter (partP kn n ow)).flatMap leaseE)) rfl (by rw [filter_snN hx18 (by simp [hP])])
                replace M : Mem _ _ _ [blk b43 (.cells #[(Value.int .u64 x18.id), (Value.int .i64 x18.owner), (Value.int .u64 x18.epoch), (Value.int .u64 x18.till), (Value.bool x18.cursor)] 88), blk b19 (.cells #[(Value.int .u64 x18.id), (Value.int .i64 x18.owner), (Value.int .u64 x18.epoch), (Value.int .u64 x18.till), (Value.bool x18.cursor)] 88), blk b7 (.cells #[v45, (Value.int .i64 most), (Value.int .u64 last)] 80), own 88 5 v45 (((xs.take (k_ + 1)).filter fun (x : Lease) => !(partP kn n ow x)).length) (((xs.take (k_ + 1)).filter fun (x : Lease) => !(partP kn n ow x)).flatMap leaseE), own 88 5 g_ (((xs.take (k_ + 1)).filter (partP kn n ow)).length) (((xs.take (k_ + 1)).filter (partP kn n ow)).flatMap leaseE), blk b5 (.cells #[(Value.slice none 0 0), (Value.int .i64 0), (Value.int .u64 0)] 80), blk b3 (.cells #[v, (Value.int .i64 most), (Value.int .u64 last)] 80)] [SlAt 5 v xs.length (xs.flatMap leaseE)] _ := M
                replace M := M.sel (L' := [blk b7 (.cells #[v45, (Value.int .i64 most), (Value.int .u64 last)] 80), own 88 5 v45 (((xs.take (k_ + 1)).filter fun (x : Lease) => !(partP kn n ow x)).length) (((xs.take (k_ + 1)).filter fun (x : Lease) => !(partP kn n ow x)).flatMap leaseE), own 88 5 g_ (((xs.take (k_ + 1)).filter (partP kn n ow)).length) (((xs.take (k_ + 1)).filter (partP kn n ow)).flatMap leaseE), blk b5 (.cells #[(Value.slice none 0 0), (Value.int .i64 0), (Value.int .u64 0)] 80), blk b3 (.cells #[v, (Value.int .i64 most), (Value.int .u64 last)] 80)]) [2, 3, 4, 5, 6] rfl (by decide)
                exact ⟨_, (by omega), k_ + 1, _, _, ⟨(by omega), rfl⟩, ⟨rfl, rfl, rfl, rfl, rfl, rfl, rfl, rfl, rfl, rfl, rfl⟩, M⟩
            ·
              have h36p : ¬ (kn : Int) = (2 : Int) := by simpa using h36
              rw [h36]
              refine WL.pass rfl ?_
              refine WL.pass rfl ?_
              refine WL.pass rfl ?_
              refine WL.pass rfl ?_
              refine WL.step (v := (Value.bool false)) rfl (Step.pick (t := false) rfl rfl) ?_
              refine WL.step (v := (Value.bool false)) rfl (Step.pick (t := false) rfl rfl) ?_
              refine WL.nil ?_
              refine W.cond (t := false) rfl (fun h => by cases h) (fun _ => ?_)
              refine W.region rfl ?_
              refine WL.step (v := (Value.pointer (some ⟨b7, 0, none⟩))) rfl (Step.pure (by kernel_rfl)) ?_
              refine WL.step (v := v_) rfl (Step.load1 Try.sc78 rfl ((M.cell 1 rfl 0).trans rfl)) ?_
              refine WL.step (v := (Value.agg #[(Value.int .u64 x18.id), (Value.int .i64 x18.owner), (Value.int .u64 x18.epoch), (Value.int .u64 x18.till), (Value.bool x18.cursor)])) rfl (Step.loadN Try.ag88 rfl (M.blk 0 rfl) (Nat.le_of_ble_eq_true rfl) rfl) ?_
              refine WL.new (obj := .cells #[(Value.int .u64 x18.id), (Value.int .i64 x18.owner), (Value.int .u64 x18.epoch), (Value.int .u64 x18.till), (Value.bool x18.cursor)] 88) (fun b => .slice (some ⟨b, 0, none⟩) 1 1) M rfl (fun w => Step.make (by kernel_rfl)) (fun b49 w50 hb49 M => ?_)
              refine WL.does rfl (M.appendF ((xs.take k_).filter fun (x : Lease) => !(partP kn n ow x)) ([x18] : List Lease) (sv := (Value.slice (some ⟨b49, 0, none⟩) 1 1)) 3 Try.un78 Try.el88 rfl (by decide) rfl rfl rfl (SlAt.of_blk (M.blk 0 rfl) rfl (by decide)) leaseE_cel (by have := (by omega); simp only [maxLen, List.length_nil, List.length_cons, List.length_append]; omega) (by have := (by omega); (try simp only [List.length_nil, List.length_cons, List.length_append]); omega)) ?_
              rintro v51 w52 M
              replace M : Mem _ _ _ [blk b49 (.cells #[(Value.int .u64 x18.id), (Value.int .i64 x18.owner), (Value.int .u64 x18.epoch), (Value.int .u64 x18.till), (Value.bool x18.cursor)] 88), blk b19 (.cells #[(Value.int .u64 x18.id), (Value.int .i64 x18.owner), (Value.int .u64 x18.epoch), (Value.int .u64 x18.till), (Value.bool x18.cursor)] 88), blk b7 (.cells #[v_, (Value.int .i64 most), (Value.int .u64 last)] 80), own 88 5 v51 ((((xs.take k_).filter fun (x : Lease) => !(partP kn n ow x)) ++ ([x18] : List Lease)).length) ((((xs.take k_).filter fun (x : Lease) => !(partP kn n ow x)) ++ ([x18] : List Lease)).flatMap leaseE), own 88 5 g_ (((xs.take k_).filter (partP kn n ow)).length) (((xs.take k_).filter (partP kn n ow)).flatMap leaseE), blk b5 (.cells #[(Value.slice none 0 0), (Value.int .i64 0), (Value.int .u64 0)] 80), blk b3 (.cells #[v, (Value.int .i64 most), (Value.int .u64 last)] 80)] [SlAt 5 v xs.length (xs.flatMap leaseE)] _ := M
              have sl53 : IsSl v51 := SlAt.isSl (own_slAt (M.chunk 3 rfl).inv)
              refine WL.step (v := (Value.pointer (some ⟨b7, 0, none⟩))) rfl (Step.pure (by kernel_rfl)) ?_
              refine WL.store (v := v51) (cs := [v51]) (c' := #[v51, (Value.int .i64 most), (Value.int .u64 last)]) M 2 rfl rfl Try.el78.sized rfl rfl (IsSl.list sl53) rfl (Nat.le_of_ble_eq_true rfl) (cel_cons (IsSl.cel sl53) cel_nil) rfl rfl (fun w54 M => ?_)
              refine WL.nil ?_
              refine W.region rfl ?_
              refine WL.step (v := (Value.int .i64 ↑k_)) rfl (Step.move rfl) ?_
              refine WL.step (v := (Value.int .i64 (↑k_ + 1))) rfl (Step.add rfl rfl (wrap_i64 (by omega))) ?_
              refine WL.step (v := (Value.int .i64 (↑k_ + 1))) rfl (Step.assign rfl) ?_
              refine WL.nil ?_
              have hP : partP kn n ow x18 = false := by first | (exfalso; omega) | simp [partP, h15p, hx18, h22p, h23p, h29p, h30p, h36p]
              replace M := M.rechunk 3 (c' := own 88 5 v51 (((xs.take (k_ + 1)).filter fun (x : Lease) => !(partP kn n ow x)).length) (((xs.take (k_ + 1)).filter fun (x : Lease) => !(partP kn n ow x)).flatMap leaseE)) rfl (by rw [filter_snY hx18 (by simp [hP])])
              replace M : Mem _ _ _ [blk b49 (.cells #[(Value.int .u64 x18.id), (Value.int .i64 x18.owner), (Value.int .u64 x18.epoch), (Value.int .u64 x18.till), (Value.bool x18.cursor)] 88), blk b19 (.cells #[(Value.int .u64 x18.id), (Value.int .i64 x18.owner), (Value.int .u64 x18.epoch), (Value.int .u64 x18.till), (Value.bool x18.cursor)] 88), blk b7 (.cells #[v51, (Value.int .i64 most), (Value.int .u64 last)] 80), own 88 5 v51 (((xs.take (k_ + 1)).filter fun (x : Lease) => !(partP kn n ow x)).length) (((xs.take (k_ + 1)).filter fun (x : Lease) => !(partP kn n ow x)).flatMap leaseE), own 88 5 g_ (((xs.take k_).filter (partP kn n ow)).length) (((xs.take k_).filter (partP kn n ow)).flatMap leaseE), blk b5 (.cells #[(Value.slice none 0 0), (Value.int .i64 0), (Value.int .u64 0)] 80), blk b3 (.cells #[v, (Value.int .i64 most), (Value.int .u64 last)] 80)] [SlAt 5 v xs.length (xs.flatMap leaseE)] _ := M
              replace M := M.rechunk 4 (c' := own 88 5 g_ (((xs.take (k_ + 1)).filter (partP kn n ow)).length) (((xs.take (k_ + 1)).filter (partP kn n ow)).flatMap leaseE)) rfl (by rw [filter_snN hx18 (by simp [hP])])
              replace M : Mem _ _ _ [blk b49 (.cells #[(Value.int .u64 x18.id), (Value.int .i64 x18.owner), (Value.int .u64 x18.epoch), (Value.int .u64 x18.till), (Value.bool x18.cursor)] 88), blk b19 (.cells #[(Value.int .u64 x18.id), (Value.int .i64 x18.owner), (Value.int .u64 x18.epoch), (Value.int .u64 x18.till), (Value.bool x18.cursor)] 88), blk b7 (.cells #[v51, (Value.int .i64 most), (Value.int .u64 last)] 80), own 88 5 v51 (((xs.take (k_ + 1)).filter fun (x : Lease) => !(partP kn n ow x)).length) (((xs.take (k_ + 1)).filter fun (x : Lease) => !(partP kn n ow x)).flatMap leaseE), own 88 5 g_ (((xs.take (k_ + 1)).filter (partP kn n ow)).length) (((xs.take (k_ + 1)).filter (partP kn n ow)).flatMap leaseE), blk b5 (.cells #[(Value.slice none 0 0), (Value.int .i64 0), (Value.int .u64 0)] 80), blk b3 (.cells #[v, (Value.int .i64 most), (Value.int .u64 last)] 80)] [SlAt 5 v xs.length (xs.flatMap leaseE)] _ := M
              replace M := M.sel (L' := [blk b7 (.cells #[v51, (Value.int .i64 most), (Value.int .u64 last)] 80), own 88 5 v51 (((xs.take (k_ + 1)).filter fun (x : Lease) => !(partP kn n ow x)).length) (((xs.take (k_ + 1)).filter fun (x : Lease) => !(partP kn n ow x)).flatMap leaseE), own 88 5 g_ (((xs.take (k_ + 1)).filter (partP kn n ow)).length) (((xs.take (k_ + 1)).filter (partP kn n ow)).flatMap leaseE), blk b5 (.cells #[(Value.slice none 0 0), (Value.int .i64 0), (Value.int .u64 0)] 80), blk b3 (.cells #[v, (Value.int .i64 most), (Value.int .u64 last)] 80)]) [2, 3, 4, 5, 6] rfl (by decide)
              exact ⟨_, (by omega), k_ + 1, _, _, ⟨(by omega), rfl⟩, ⟨rfl, rfl, rfl, rfl, rfl, rfl, rfl, rfl, rfl, rfl, rfl⟩, M⟩
        ·
          have h29p : ¬ (kn : Int) = (1 : Int) := by simpa using h29
          rw [h29]
          refine WL.pass rfl ?_
          refine WL.pass rfl ?_
          refine WL.pass rfl ?_
          refine WL.pass rfl ?_
          refine WL.step (v := (Value.bool false)) rfl (Step.pick (t := false) rfl rfl) ?_
          refine WL.step (v := (Value.bool false)) rfl (Step.pick (t := false) rfl rfl) ?_
          refine WL.step (v := (Value.bool false)) rfl (Step.move rfl) ?_
          refine WL.step (v := (Value.int .i64 kn)) rfl (Step.move rfl) ?_
          refine WL.step (v := (Value.bool ((kn : Int) == (2 : Int)))) rfl (Step.pure (by kernel_rfl)) ?_
          refine WL.step (v := (Value.bool ((kn : Int) == (2 : Int)))) rfl (Step.move rfl) ?_
          rcases Bool.eq_false_or_eq_true ((kn : Int) == (2 : Int)) with h55 | h55
          ·
            have h55p : (kn : Int) = (2 : Int) := by simpa using h55
            rw [h55]
            refine WL.step (v := (Value.pointer (some ⟨b19, 0, none⟩))) rfl (Step.pure (by kernel_rfl)) ?_
            refine WL.step (v := (Value.int .u64 x18.id)) rfl (Step.load1 Try.sc23 rfl ((M.cell 0 rfl 0).trans rfl)) ?_
            refine WL.step (v := (Value.int .u64 n)) rfl (Step.move rfl) ?_
            refine WL.step (v := (Value.bool ((x18.id : Int) == (n : Int)))) rfl (Step.pure (by kernel_rfl)) ?_
            refine WL.step (v := (Value.bool ((x18.id : Int) == (n : Int)))) rfl (Step.pick (t := true) rfl rfl) ?_
            refine WL.step (v := (Value.bool ((x18.id : Int) == (n : Int)))) rfl (Step.pick (t := false) rfl rfl) ?_
            refine WL.nil ?_
            refine W.cond (t := (x18.id : Int) == (n : Int)) rfl (fun h56 => ?_) (fun h56 => ?_)
            ·
              have h56p : (x18.id : Int) = (n : Int) := by simpa using h56
              refine W.region rfl ?_
              refine WL.step (v := g_) rfl (Step.move rfl) ?_
              refine WL.step (v := (Value.agg #[(Value.int .u64 x18.id), (Value.int .i64 x18.owner), (Value.int .u64 x18.epoch), (Value.int .u64 x18.till), (Value.bool x18.cursor)])) rfl (Step.loadN Try.ag88 rfl (M.blk 0 rfl) (Nat.le_of_ble_eq_true rfl) rfl) ?_
              refine WL.new (obj := .cells #[(Value.int .u64 x18.id), (Value.int .i64 x18.owner), (Value.int .u64 x18.epoch), (Value.int .u64 x18.till), (Value.bool x18.cursor)] 88) (fun b => .slice (some ⟨b, 0, none⟩) 1 1) M rfl (fun w => Step.make (by kernel_rfl)) (fun b57 w58 hb57 M => ?_)
              refine WL.does rfl (M.appendF ((xs.take k_).filter (partP kn n ow)) ([x18] : List Lease) (sv := (Value.slice (some ⟨b57, 0, none⟩) 1 1)) 4 Try.un78 Try.el88 rfl (by decide) rfl rfl rfl (SlAt.of_blk (M.blk 0 rfl) rfl (by decide)) leaseE_cel (by have := (by omega); simp only [maxLen, List.length_nil, List.length_cons, List.length_append]; omega) (by have := (by omega); (try simp only [List.length_nil, List.length_cons, List.length_append]); omega)) ?_
              rintro v59 w60 M
              replace M : Mem _ _ _ [blk b57 (.cells #[(Value.int .u64 x18.id), (Value.int .i64 x18.owner), (Value.int .u64 x18.epoch), (Value.int .u64 x18.till), (Value.bool x18.cursor)] 88), blk b19 (.cells #[(Value.int .u64 x18.id), (Value.int .i64 x18.owner), (Value.int .u64 x18.epoch), (Value.int .u64 x18.till), (Value.bool x18.cursor)] 88), blk b7 (.cells #[v_, (Value.int .i64 most), (Value.int .u64 last)] 80), own 88 5 v_ (((xs.take k_).filter fun (x : Lease) => !(partP kn n ow x)).length) (((xs.take k_).filter fun (x : Lease) => !(partP kn n ow x)).flatMap leaseE), own 88 5 v59 ((((xs.take k_).filter (partP kn n ow)) ++ ([x18] : List Lease)).length) ((((xs.take k_).filter (partP kn n ow)) ++ ([x18] : List Lease)).flatMap leaseE), blk b5 (.cells #[(Value.slice none 0 0), (Value.int .i64 0), (Value.int .u64 0)] 80), blk b3 (.cells #[v, (Value.int .i64 most), (Value.int .u64 last)] 80)] [SlAt 5 v xs.length (xs.flatMap leaseE)] _ := M
              have sl61 : IsSl v59 := SlAt.isSl (own_slAt (M.chunk 4 rfl).inv)
              refine WL.step (v := v59) rfl (Step.assign rfl) ?_
              refine WL.nil ?_
              refine W.region rfl ?_
              refine WL.step (v := (Value.int .i64 ↑k_)) rfl (Step.move rfl) ?_
              refine WL.step (v := (Value.int .i64 (↑k_ + 1))) rfl (Step.add rfl rfl (wrap_i64 (by omega))) ?_
              refine WL.step (v := (Value.int .i64 (↑k_ + 1))) rfl (Step.assign rfl) ?_
              refine WL.nil ?_
              have hP : partP kn n ow x18 = true := by first | (exfalso; omega) | simp [partP, h15p, hx18, h22p, h23p, h29p, h55p, h56p]
              replace M := M.rechunk 3 (c' := own 88 5 v_ (((xs.take (k_ + 1)).filter fun (x : Lease) => !(partP kn n ow x)).length) (((xs.take (k_ + 1)).filter fun (x : Lease) => !(partP kn n ow x)).flatMap leaseE)) rfl (by rw [filter_snN hx18 (by simp [hP])])
              replace M : Mem _ _ _ [blk b57 (.cells #[(Value.int .u64 x18.id), (Value.int .i64 x18.owner), (Value.int .u64 x18.epoch), (Value.int .u64 x18.till), (Value.bool x18.cursor)] 88), blk b19 (.cells #[(Value.int .u64 x18.id), (Value.int .i64 x18.owner), (Value.int .u64 x18.epoch), (Value.int .u64 x18.till), (Value.bool x18.cursor)] 88), blk b7 (.cells #[v_, (Value.int .i64 most), (Value.int .u64 last)] 80), own 88 5 v_ (((xs.take (k_ + 1)).filter fun (x : Lease) => !(partP kn n ow x)).length) (((xs.take (k_ + 1)).filter fun (x : Lease) => !(partP kn n ow x)).flatMap leaseE), own 88 5 v59 ((((xs.take k_).filter (partP kn n ow)) ++ ([x18] : List Lease)).length) ((((xs.take k_).filter (partP kn n ow)) ++ ([x18] : List Lease)).flatMap leaseE), blk b5 (.cells #[(Value.slice none 0 0), (Value.int .i64 0), (Value.int .u64 0)] 80), blk b3 (.cells #[v, (Value.int .i64 most), (Value.int .u64 last)] 80)] [SlAt 5 v xs.length (xs.flatMap leaseE)] _ := M
              replace M := M.rechunk 4 (c' := own 88 5 v59 (((xs.take (k_ + 1)).filter (partP kn n ow)).length) (((xs.take (k_ + 1)).filter (partP kn n ow)).flatMap leaseE)) rfl (by rw [filter_snY hx18 (by simp [hP])])
              replace M : Mem _ _ _ [blk b57 (.cells #[(Value.int .u64 x18.id), (Value.int .i64 x18.owner), (Value.int .u64 x18.epoch), (Value.int .u64 x18.till), (Value.bool x18.cursor)] 88), blk b19 (.cells #[(Value.int .u64 x18.id), (Value.int .i64 x18.owner), (Value.int .u64 x18.epoch), (Value.int .u64 x18.till), (Value.bool x18.cursor)] 88), blk b7 (.cells #[v_, (Value.int .i64 most), (Value.int .u64 last)] 80), own 88 5 v_ (((xs.take (k_ + 1)).filter fun (x : Lease) => !(partP kn n ow x)).length) (((xs.take (k_ + 1)).filter fun (x : Lease) => !(partP kn n ow x)).flatMap leaseE), own 88 5 v59 (((xs.take (k_ + 1)).filter (partP kn n ow)).length) (((xs.take (k_ + 1)).filter (partP kn n ow)).flatMap leaseE), blk b5 (.cells #[(Value.slice none 0 0), (Value.int .i64 0), (Value.int .u64 0)] 80), blk b3 (.cells #[v, (Value.int .i64 most), (Value.int .u64 last)] 80)] [SlAt 5 v xs.length (xs.flatMap leaseE)] _ := M
              replace M := M.sel (L' := [blk b7 (.cells #[v_, (Value.int .i64 most), (Value.int .u64 last)] 80), own 88 5 v_ (((xs.take (k_ + 1)).filter fun (x : Lease) => !(partP kn n ow x)).length) (((xs.take (k_ + 1)).filter fun (x : Lease) => !(partP kn n ow x)).flatMap leaseE), own 88 5 v59 (((xs.take (k_ + 1)).filter (partP kn n ow)).length) (((xs.take (k_ + 1)).filter (partP kn n ow)).flatMap leaseE), blk b5 (.cells #[(Value.slice none 0 0), (Value.int .i64 0), (Value.int .u64 0)] 80), blk b3 (.cells #[v, (Value.int .i64 most), (Value.int .u64 last)] 80)]) [2, 3, 4, 5, 6] rfl (by decide)
              exact ⟨_, (by omega), k_ + 1, _, _, ⟨(by omega), rfl⟩, ⟨rfl, rfl, rfl, rfl, rfl, rfl, rfl, rfl, rfl, rfl, rfl⟩, M⟩
            ·
              have h56p : ¬ (x18.id : Int) = (n : Int) := by simpa using h56
              refine W.region rfl ?_
              refine WL.step (v := (Value.pointer (some ⟨b7, 0, none⟩))) rfl (Step.pure (by kernel_rfl)) ?_
              refine WL.step (v := v_) rfl (Step.load1 Try.sc78 rfl ((M.cell 1 rfl 0).trans rfl)) ?_
              refine WL.step (v := (Value.agg #[(Value.int .u64 x18.id), (Value.int .i64 x18.owner), (Value.int .u64 x18.epoch), (Value.int .u64 x18.till), (Value.bool x18.cursor)])) rfl (Step.loadN Try.ag88 rfl (M.blk 0 rfl) (Nat.le_of_ble_eq_true rfl) rfl) ?_
              refine WL.new (obj := .cells #[(Value.int .u64 x18.id), (Value.int .i64 x18.owner), (Value.int .u64 x18.epoch), (Value.int .u64 x18.till), (Value.bool x18.cursor)] 88) (fun b => .slice (some ⟨b, 0, none⟩) 1 1) M rfl (fun w => Step.make (by kernel_rfl)) (fun b62 w63 hb62 M => ?_)
              refine WL.does rfl (M.appendF ((xs.take k_).filter fun (x : Lease) => !(partP kn n ow x)) ([x18] : List Lease) (sv := (Value.slice (some ⟨b62, 0, none⟩) 1 1)) 3 Try.un78 Try.el88 rfl (by decide) rfl rfl rfl (SlAt.of_blk (M.blk 0 rfl) rfl (by decide)) leaseE_cel (by have := (by omega); simp only [maxLen, List.length_nil, List.length_cons, List.length_append]; omega) (by have := (by omega); (try simp only [List.length_nil, List.length_cons, List.length_append]); omega)) ?_
              rintro v64 w65 M
              replace M : Mem _ _ _ [blk b62 (.cells #[(Value.int .u64 x18.id), (Value.int .i64 x18.owner), (Value.int .u64 x18.epoch), (Value.int .u64 x18.till), (Value.bool x18.cursor)] 88), blk b19 (.cells #[(Value.int .u64 x18.id), (Value.int .i64 x18.owner), (Value.int .u64 x18.epoch), (Value.int .u64 x18.till), (Value.bool x18.cursor)] 88), blk b7 (.cells #[v_, (Value.int .i64 most), (Value.int .u64 last)] 80), own 88 5 v64 ((((xs.take k_).filter fun (x : Lease) => !(partP kn n ow x)) ++ ([x18] : List Lease)).length) ((((xs.take k_).filter fun (x : Lease) => !(partP kn n ow x)) ++ ([x18] : List Lease)).flatMap leaseE), own 88 5 g_ (((xs.take k_).filter (partP kn n ow)).length) (((xs.take k_).filter (partP kn n ow)).flatMap leaseE), blk b5 (.cells #[(Value.slice none 0 0), (Value.int .i64 0), (Value.int .u64 0)] 80), blk b3 (.cells #[v, (Value.int .i64 most), (Value.int .u64 last)] 80)] [SlAt 5 v xs.length (xs.flatMap leaseE)] _ := M
              have sl66 : IsSl v64 := SlAt.isSl (own_slAt (M.chunk 3 rfl).inv)
              refine WL.step (v := (Value.pointer (some ⟨b7, 0, none⟩))) rfl (Step.pure (by kernel_rfl)) ?_
              refine WL.store (v := v64) (cs := [v64]) (c' := #[v64, (Value.int .i64 most), (Value.int .u64 last)]) M 2 rfl rfl Try.el78.sized rfl rfl (IsSl.list sl66) rfl (Nat.le_of_ble_eq_true rfl) (cel_cons (IsSl.cel sl66) cel_nil) rfl rfl (fun w67 M => ?_)
              refine WL.nil ?_
              refine W.region rfl ?_
              refine WL.step (v := (Value.int .i64 ↑k_)) rfl (Step.move rfl) ?_
              refine WL.step (v := (Value.int .i64 (↑k_ + 1))) rfl (Step.add rfl rfl (wrap_i64 (by omega))) ?_
              refine WL.step (v := (Value.int .i64 (↑k_ + 1))) rfl (Step.assign rfl) ?_
              refine WL.nil ?_
              have hP : partP kn n ow x18 = false := by first | (exfalso; omega) | simp [partP, h15p, hx18, h22p, h23p, h29p, h55p, h56p]
              replace M := M.rechunk 3 (c' := own 88 5 v64 (((xs.take (k_ + 1)).filter fun (x : Lease) => !(partP kn n ow x)).length) (((xs.take (k_ + 1)).filter fun (x : Lease) => !(partP kn n ow x)).flatMap leaseE)) rfl (by rw [filter_snY hx18 (by simp [hP])])
              replace M : Mem _ _ _ [blk b62 (.cells #[(Value.int .u64 x18.id), (Value.int .i64 x18.owner), (Value.int .u64 x18.epoch), (Value.int .u64 x18.till), (Value.bool x18.cursor)] 88), blk b19 (.cells #[(Value.int .u64 x18.id), (Value.int .i64 x18.owner), (Value.int .u64 x18.epoch), (Value.int .u64 x18.till), (Value.bool x18.cursor)] 88), blk b7 (.cells #[v64, (Value.int .i64 most), (Value.int .u64 last)] 80), own 88 5 v64 (((xs.take (k_ + 1)).filter fun (x : Lease) => !(partP kn n ow x)).length) (((xs.take (k_ + 1)).filter fun (x : Lease) => !(partP kn n ow x)).flatMap leaseE), own 88 5 g_ (((xs.take k_).filter (partP kn n ow)).length) (((xs.take k_).filter (partP kn n ow)).flatMap leaseE), blk b5 (.cells #[(Value.slice none 0 0), (Value.int .i64 0), (Value.int .u64 0)] 80), blk b3 (.cells #[v, (Value.int .i64 most), (Value.int .u64 last)] 80)] [SlAt 5 v xs.length (xs.flatMap leaseE)] _ := M
              replace M := M.rechunk 4 (c' := own 88 5 g_ (((xs.take (k_ + 1)).filter (partP kn n ow)).length) (((xs.take (k_ + 1)).filter (partP kn n ow)).flatMap leaseE)) rfl (by rw [filter_snN hx18 (by simp [hP])])
              replace M : Mem _ _ _ [blk b62 (.cells #[(Value.int .u64 x18.id), (Value.int .i64 x18.owner), (Value.int .u64 x18.epoch), (Value.int .u64 x18.till), (Value.bool x18.cursor)] 88), blk b19 (.cells #[(Value.int .u64 x18.id), (Value.int .i64 x18.owner), (Value.int .u64 x18.epoch), (Value.int .u64 x18.till), (Value.bool x18.cursor)] 88), blk b7 (.cells #[v64, (Value.int .i64 most), (Value.int .u64 last)] 80), own 88 5 v64 (((xs.take (k_ + 1)).filter fun (x : Lease) => !(partP kn n ow x)).length) (((xs.take (k_ + 1)).filter fun (x : Lease) => !(partP kn n ow x)).flatMap leaseE), own 88 5 g_ (((xs.take (k_ + 1)).filter (partP kn n ow)).length) (((xs.take (k_ + 1)).filter (partP kn n ow)).flatMap leaseE), blk b5 (.cells #[(Value.slice none 0 0), (Value.int .i64 0), (Value.int .u64 0)] 80), blk b3 (.cells #[v, (Value.int .i64 most), (Value.int .u64 last)] 80)] [SlAt 5 v xs.length (xs.flatMap leaseE)] _ := M
              replace M := M.sel (L' := [blk b7 (.cells #[v64, (Value.int .i64 most), (Value.int .u64 last)] 80), own 88 5 v64 (((xs.take (k_ + 1)).filter fun (x : Lease) => !(partP kn n ow x)).length) (((xs.take (k_ + 1)).filter fun (x : Lease) => !(partP kn n ow x)).flatMap leaseE), own 88 5 g_ (((xs.take (k_ + 1)).filter (partP kn n ow)).length) (((xs.take (k_ + 1)).filter (partP kn n ow)).flatMap leaseE), blk b5 (.cells #[(Value.slice none 0 0), (Value.int .i64 0), (Value.int .u64 0)] 80), blk b3 (.cells #[v, (Value.int .i64 most), (Value.int .u64 last)] 80)]) [2, 3, 4, 5, 6] rfl (by decide)
              exact ⟨_, (by omega), k_ + 1, _, _, ⟨(by omega), rfl⟩, ⟨rfl, rfl, rfl, rfl, rfl, rfl, rfl, rfl, rfl, rfl, rfl⟩, M⟩
          ·
            have h55p : ¬ (kn : Int) = (2 : Int) := by simpa using h55
            rw [h55]
            refine WL.pass rfl ?_
            refine WL.pass rfl ?_
            refine WL.pass rfl ?_
            refine WL.pass rfl ?_
            refine WL.step (v := (Value.bool false)) rfl (Step.pick (t := false) rfl rfl) ?_
            refine WL.step (v := (Value.bool false)) rfl (Step.pick (t := false) rfl rfl) ?_
            refine WL.nil ?_
            refine W.cond (t := false) rfl (fun h => by cases h) (fun _ => ?_)
            refine W.region rfl ?_
            refine WL.step (v := (Value.pointer (some ⟨b7, 0, none⟩))) rfl (Step.pure (by kernel_rfl)) ?_
            refine WL.step (v := v_) rfl (Step.load1 Try.sc78 rfl ((M.cell 1 rfl 0).trans rfl)) ?_
            refine WL.step (v := (Value.agg #[(Value.int .u64 x18.id), (Value.int .i64 x18.owner), (Value.int .u64 x18.epoch), (Value.int .u64 x18.till), (Value.bool x18.cursor)])) rfl (Step.loadN Try.ag88 rfl (M.blk 0 rfl) (Nat.le_of_ble_eq_true rfl) rfl) ?_
            refine WL.new (obj := .cells #[(Value.int .u64 x18.id), (Value.int .i64 x18.owner), (Value.int .u64 x18.epoch), (Value.int .u64 x18.till), (Value.bool x18.cursor)] 88) (fun b => .slice (some ⟨b, 0, none⟩) 1 1) M rfl (fun w => Step.make (by kernel_rfl)) (fun b68 w69 hb68 M => ?_)
            refine WL.does rfl (M.appendF ((xs.take k_).filter fun (x : Lease) => !(partP kn n ow x)) ([x18] : List Lease) (sv := (Value.slice (some ⟨b68, 0, none⟩) 1 1)) 3 Try.un78 Try.el88 rfl (by decide) rfl rfl rfl (SlAt.of_blk (M.blk 0 rfl) rfl (by decide)) leaseE_cel (by have := (by omega); simp only [maxLen, List.length_nil, List.length_cons, List.length_append]; omega) (by have := (by omega); (try simp only [List.length_nil, List.length_cons, List.length_append]); omega)) ?_
            rintro v70 w71 M
            replace M : Mem _ _ _ [blk b68 (.cells #[(Value.int .u64 x18.id), (Value.int .i64 x18.owner), (Value.int .u64 x18.epoch), (Value.int .u64 x18.till), (Value.bool x18.cursor)] 88), blk b19 (.cells #[(Value.int .u64 x18.id), (Value.int .i64 x18.owner), (Value.int .u64 x18.epoch), (Value.int .u64 x18.till), (Value.bool x18.cursor)] 88), blk b7 (.cells #[v_, (Value.int .i64 most), (Value.int .u64 last)] 80), own 88 5 v70 ((((xs.take k_).filter fun (x : Lease) => !(partP kn n ow x)) ++ ([x18] : List Lease)).length) ((((xs.take k_).filter fun (x : Lease) => !(partP kn n ow x)) ++ ([x18] : List Lease)).flatMap leaseE), own 88 5 g_ (((xs.take k_).filter (partP kn n ow)).length) (((xs.take k_).filter (partP kn n ow)).flatMap leaseE), blk b5 (.cells #[(Value.slice none 0 0), (Value.int .i64 0), (Value.int .u64 0)] 80), blk b3 (.cells #[v, (Value.int .i64 most), (Value.int .u64 last)] 80)] [SlAt 5 v xs.length (xs.flatMap leaseE)] _ := M
            have sl72 : IsSl v70 := SlAt.isSl (own_slAt (M.chunk 3 rfl).inv)
            refine WL.step (v := (Value.pointer (some ⟨b7, 0, none⟩))) rfl (Step.pure (by kernel_rfl)) ?_
            refine WL.store (v := v70) (cs := [v70]) (c' := #[v70, (Value.int .i64 most), (Value.int .u64 last)]) M 2 rfl rfl Try.el78.sized rfl rfl (IsSl.list sl72) rfl (Nat.le_of_ble_eq_true rfl) (cel_cons (IsSl.cel sl72) cel_nil) rfl rfl (fun w73 M => ?_)
            refine WL.nil ?_
            refine W.region rfl ?_
            refine WL.step (v := (Value.int .i64 ↑k_)) rfl (Step.move rfl) ?_
            refine WL.step (v := (Value.int .i64 (↑k_ + 1))) rfl (Step.add rfl rfl (wrap_i64 (by omega))) ?_
            refine WL.step (v := (Value.int .i64 (↑k_ + 1))) rfl (Step.assign rfl) ?_
            refine WL.nil ?_
            have hP : partP kn n ow x18 = false := by first | (exfalso; omega) | simp [partP, h15p, hx18, h22p, h23p, h29p, h55p]
            replace M := M.rechunk 3 (c' := own 88 5 v70 (((xs.take (k_ + 1)).filter fun (x : Lease) => !(partP kn n ow x)).length) (((xs.take (k_ + 1)).filter fun (x : Lease) => !(partP kn n ow x)).flatMap leaseE)) rfl (by rw [filter_snY hx18 (by simp [hP])])
            replace M : Mem _ _ _ [blk b68 (.cells #[(Value.int .u64 x18.id), (Value.int .i64 x18.owner), (Value.int .u64 x18.epoch), (Value.int .u64 x18.till), (Value.bool x18.cursor)] 88), blk b19 (.cells #[(Value.int .u64 x18.id), (Value.int .i64 x18.owner), (Value.int .u64 x18.epoch), (Value.int .u64 x18.till), (Value.bool x18.cursor)] 88), blk b7 (.cells #[v70, (Value.int .i64 most), (Value.int .u64 last)] 80), own 88 5 v70 (((xs.take (k_ + 1)).filter fun (x : Lease) => !(partP kn n ow x)).length) (((xs.take (k_ + 1)).filter fun (x : Lease) => !(partP kn n ow x)).flatMap leaseE), own 88 5 g_ (((xs.take k_).filter (partP kn n ow)).length) (((xs.take k_).filter (partP kn n ow)).flatMap leaseE), blk b5 (.cells #[(Value.slice none 0 0), (Value.int .i64 0), (Value.int .u64 0)] 80), blk b3 (.cells #[v, (Value.int .i64 most), (Value.int .u64 last)] 80)] [SlAt 5 v xs.length (xs.flatMap leaseE)] _ := M
            replace M := M.rechunk 4 (c' := own 88 5 g_ (((xs.take (k_ + 1)).filter (partP kn n ow)).length) (((xs.take (k_ + 1)).filter (partP kn n ow)).flatMap leaseE)) rfl (by rw [filter_snN hx18 (by simp [hP])])
            replace M : Mem _ _ _ [blk b68 (.cells #[(Value.int .u64 x18.id), (Value.int .i64 x18.owner), (Value.int .u64 x18.epoch), (Value.int .u64 x18.till), (Value.bool x18.cursor)] 88), blk b19 (.cells #[(Value.int .u64 x18.id), (Value.int .i64 x18.owner), (Value.int .u64 x18.epoch), (Value.int .u64 x18.till), (Value.bool x18.cursor)] 88), blk b7 (.cells #[v70, (Value.int .i64 most), (Value.int .u64 last)] 80), own 88 5 v70 (((xs.take (k_ + 1)).filter fun (x : Lease) => !(partP kn n ow x)).length) (((xs.take (k_ + 1)).filter fun (x : Lease) => !(partP kn n ow x)).flatMap leaseE), own 88 5 g_ (((xs.take (k_ + 1)).filter (partP kn n ow)).length) (((xs.take (k_ + 1)).filter (partP kn n ow)).flatMap leaseE), blk b5 (.cells #[(Value.slice none 0 0), (Value.int .i64 0), (Value.int .u64 0)] 80), blk b3 (.cells #[v, (Value.int .i64 most), (Value.int .u64 last)] 80)] [SlAt 5 v xs.length (xs.flatMap leaseE)] _ := M
            replace M := M.sel (L' := [blk b7 (.cells #[v70, (Value.int .i64 most), (Value.int .u64 last)] 80), own 88 5 v70 (((xs.take (k_ + 1)).filter fun (x : Lease) => !(partP kn n ow x)).length) (((xs.take (k_ + 1)).filter fun (x : Lease) => !(partP kn n ow x)).flatMap leaseE), own 88 5 g_ (((xs.take (k_ + 1)).filter (partP kn n ow)).length) (((xs.take (k_ + 1)).filter (partP kn n ow)).flatMap leaseE), blk b5 (.cells #[(Value.slice none 0 0), (Value.int .i64 0), (Value.int .u64 0)] 80), blk b3 (.cells #[v, (Value.int .i64 most), (Value.int .u64 last)] 80)]) [2, 3, 4, 5, 6] rfl (by decide)
            exact ⟨_, (by omega), k_ + 1, _, _, ⟨(by omega), rfl⟩, ⟨rfl, rfl, rfl, rfl, rfl, rfl, rfl, rfl, rfl, rfl, rfl⟩, M⟩
    ·
      have h22p : ¬ (kn : Int) = (0 : Int) := by simpa using h22
      rw [h22]
      refine WL.pass rfl ?_
      refine WL.pass rfl ?_
      refine WL.pass rfl ?_
      refine WL.pass rfl ?_
      refine WL.step (v := (Value.bool false)) rfl (Step.pick (t := false) rfl rfl) ?_
      refine WL.step (v := (Value.bool false)) rfl (Step.move rfl) ?_
      refine WL.step (v := (Value.int .i64 kn)) rfl (Step.move rfl) ?_
      refine WL.step (v := (Value.bool ((kn : Int) == (1 : Int)))) rfl (Step.pure (by kernel_rfl)) ?_
      refine WL.step (v := (Value.bool ((kn : Int) == (1 : Int)))) rfl (Step.move rfl) ?_
      rcases Bool.eq_false_or_eq_true ((kn : Int) == (1 : Int)) with h74 | h74
      ·
        have h74p : (kn : Int) = (1 : Int) := by simpa using h74
        rw [h74]
        refine WL.step (v := (Value.pointer (some ⟨b19, 1, none⟩))) rfl (Step.pure (by kernel_rfl)) ?_
        refine WL.step (v := (Value.int .i64 x18.owner)) rfl (Step.load1 Try.sc3 rfl ((M.cell 0 rfl 1).trans rfl)) ?_
        refine WL.step (v := (Value.int .i64 ow)) rfl (Step.move rfl) ?_
        refine WL.step (v := (Value.bool ((x18.owner : Int) == (ow : Int)))) rfl (Step.pure (by kernel_rfl)) ?_
        refine WL.step (v := (Value.bool ((x18.owner : Int) == (ow : Int)))) rfl (Step.pick (t := true) rfl rfl) ?_
        refine WL.step (v := (Value.bool ((x18.owner : Int) == (ow : Int)))) rfl (Step.pick (t := false) rfl rfl) ?_
        refine WL.step (v := (Value.bool ((x18.owner : Int) == (ow : Int)))) rfl (Step.move rfl) ?_
        rcases Bool.eq_false_or_eq_true ((x18.owner : Int) == (ow : Int)) with h75 | h75
        ·
          have h75p : (x18.owner : Int) = (ow : Int) := by simpa using h75
          rw [h75]
          refine WL.pass rfl ?_
          refine WL.pass rfl ?_
          refine WL.pass rfl ?_
          refine WL.pass rfl ?_
          refine WL.pass rfl ?_
          refine WL.pass rfl ?_
          refine WL.pass rfl ?_
          refine WL.pass rfl ?_
          refine WL.step (v := (Value.bool true)) rfl (Step.pick (t := true) rfl rfl) ?_
          refine WL.nil ?_
          refine W.cond (t := true) rfl (fun _ => ?_) (fun h => by cases h)
          refine W.region rfl ?_
          refine WL.step (v := g_) rfl (Step.move rfl) ?_
          refine WL.step (v := (Value.agg #[(Value.int .u64 x18.id), (Value.int .i64 x18.owner), (Value.int .u64 x18.epoch), (Value.int .u64 x18.till), (Value.bool x18.cursor)])) rfl (Step.loadN Try.ag88 rfl (M.blk 0 rfl) (Nat.le_of_ble_eq_true rfl) rfl) ?_
          refine WL.new (obj := .cells #[(Value.int .u64 x18.id), (Value.int .i64 x18.owner), (Value.int .u64 x18.epoch), (Value.int .u64 x18.till), (Value.bool x18.cursor)] 88) (fun b => .slice (some ⟨b, 0, none⟩) 1 1) M rfl (fun w => Step.make (by kernel_rfl)) (fun b76 w77 hb76 M => ?_)
          refine WL.does rfl (M.appendF ((xs.take k_).filter (partP kn n ow)) ([x18] : List Lease) (sv := (Value.slice (some ⟨b76, 0, none⟩) 1 1)) 4 Try.un78 Try.el88 rfl (by decide) rfl rfl rfl (SlAt.of_blk (M.blk 0 rfl) rfl (by decide)) leaseE_cel (by have := (by omega); simp only [maxLen, List.length_nil, List.length_cons, List.length_append]; omega) (by have := (by omega); (try simp only [List.length_nil, List.length_cons, List.length_append]); omega)) ?_
          rintro v78 w79 M
          replace M : Mem _ _ _ [blk b76 (.cells #[(Value.int .u64 x18.id), (Value.int .i64 x18.owner), (Value.int .u64 x18.epoch), (Value.int .u64 x18.till), (Value.bool x18.cursor)] 88), blk b19 (.cells #[(Value.int .u64 x18.id), (Value.int .i64 x18.owner), (Value.int .u64 x18.epoch), (Value.int .u64 x18.till), (Value.bool x18.cursor)] 88), blk b7 (.cells #[v_, (Value.int .i64 most), (Value.int .u64 last)] 80), own 88 5 v_ (((xs.take k_).filter fun (x : Lease) => !(partP kn n ow x)).length) (((xs.take k_).filter fun (x : Lease) => !(partP kn n ow x)).flatMap leaseE), own 88 5 v78 ((((xs.take k_).filter (partP kn n ow)) ++ ([x18] : List Lease)).length) ((((xs.take k_).filter (partP kn n ow)) ++ ([x18] : List Lease)).flatMap leaseE), blk b5 (.cells #[(Value.slice none 0 0), (Value.int .i64 0), (Value.int .u64 0)] 80), blk b3 (.cells #[v, (Value.int .i64 most), (Value.int .u64 last)] 80)] [SlAt 5 v xs.length (xs.flatMap leaseE)] _ := M
          have sl80 : IsSl v78 := SlAt.isSl (own_slAt (M.chunk 4 rfl).inv)
          refine WL.step (v := v78) rfl (Step.assign rfl) ?_
          refine WL.nil ?_
          refine W.region rfl ?_
          refine WL.step (v := (Value.int .i64 ↑k_)) rfl (Step.move rfl) ?_
          refine WL.step (v := (Value.int .i64 (↑k_ + 1))) rfl (Step.add rfl rfl (wrap_i64 (by omega))) ?_
          refine WL.step (v := (Value.int .i64 (↑k_ + 1))) rfl (Step.assign rfl) ?_
          refine WL.nil ?_
          have hP : partP kn n ow x18 = true := by first | (exfalso; omega) | simp [partP, h15p, hx18, h22p, h74p, h75p]
          replace M := M.rechunk 3 (c' := own 88 5 v_ (((xs.take (k_ + 1)).filter fun (x : Lease) => !(partP kn n ow x)).length) (((xs.take (k_ + 1)).filter fun (x : Lease) => !(partP kn n ow x)).flatMap leaseE)) rfl (by rw [filter_snN hx18 (by simp [hP])])
          replace M : Mem _ _ _ [blk b76 (.cells #[(Value.int .u64 x18.id), (Value.int .i64 x18.owner), (Value.int .u64 x18.epoch), (Value.int .u64 x18.till), (Value.bool x18.cursor)] 88), blk b19 (.cells #[(Value.int .u64 x18.id), (Value.int .i64 x18.owner), (Value.int .u64 x18.epoch), (Value.int .u64 x18.till), (Value.bool x18.cursor)] 88), blk b7 (.cells #[v_, (Value.int .i64 most), (Value.int .u64 last)] 80), own 88 5 v_ (((xs.take (k_ + 1)).filter fun (x : Lease) => !(partP kn n ow x)).length) (((xs.take (k_ + 1)).filter fun (x : Lease) => !(partP kn n ow x)).flatMap leaseE), own 88 5 v78 ((((xs.take k_).filter (partP kn n ow)) ++ ([x18] : List Lease)).length) ((((xs.take k_).filter (partP kn n ow)) ++ ([x18] : List Lease)).flatMap leaseE), blk b5 (.cells #[(Value.slice none 0 0), (Value.int .i64 0), (Value.int .u64 0)] 80), blk b3 (.cells #[v, (Value.int .i64 most), (Value.int .u64 last)] 80)] [SlAt 5 v xs.length (xs.flatMap leaseE)] _ := M
          replace M := M.rechunk 4 (c' := own 88 5 v78 (((xs.take (k_ + 1)).filter (partP kn n ow)).length) (((xs.take (k_ + 1)).filter (partP kn n ow)).flatMap leaseE)) rfl (by rw [filter_snY hx18 (by simp [hP])])
          replace M : Mem _ _ _ [blk b76 (.cells #[(Value.int .u64 x18.id), (Value.int .i64 x18.owner), (Value.int .u64 x18.epoch), (Value.int .u64 x18.till), (Value.bool x18.cursor)] 88), blk b19 (.cells #[(Value.int .u64 x18.id), (Value.int .i64 x18.owner), (Value.int .u64 x18.epoch), (Value.int .u64 x18.till), (Value.bool x18.cursor)] 88), blk b7 (.cells #[v_, (Value.int .i64 most), (Value.int .u64 last)] 80), own 88 5 v_ (((xs.take (k_ + 1)).filter fun (x : Lease) => !(partP kn n ow x)).length) (((xs.take (k_ + 1)).filter fun (x : Lease) => !(partP kn n ow x)).flatMap leaseE), own 88 5 v78 (((xs.take (k_ + 1)).filter (partP kn n ow)).length) (((xs.take (k_ + 1)).filter (partP kn n ow)).flatMap leaseE), blk b5 (.cells #[(Value.slice none 0 0), (Value.int .i64 0), (Value.int .u64 0)] 80), blk b3 (.cells #[v, (Value.int .i64 most), (Value.int .u64 last)] 80)] [SlAt 5 v xs.length (xs.flatMap leaseE)] _ := M
          replace M := M.sel (L' := [blk b7 (.cells #[v_, (Value.int .i64 most), (Value.int .u64 last)] 80), own 88 5 v_ (((xs.take (k_ + 1)).filter fun (x : Lease) => !(partP kn n ow x)).length) (((xs.take (k_ + 1)).filter fun (x : Lease) => !(partP kn n ow x)).flatMap leaseE), own 88 5 v78 (((xs.take (k_ + 1)).filter (partP kn n ow)).length) (((xs.take (k_ + 1)).filter (partP kn n ow)).flatMap leaseE), blk b5 (.cells #[(Value.slice none 0 0), (Value.int .i64 0), (Value.int .u64 0)] 80), blk b3 (.cells #[v, (Value.int .i64 most), (Value.int .u64 last)] 80)]) [2, 3, 4, 5, 6] rfl (by decide)
          exact ⟨_, (by omega), k_ + 1, _, _, ⟨(by omega), rfl⟩, ⟨rfl, rfl, rfl, rfl, rfl, rfl, rfl, rfl, rfl, rfl, rfl⟩, M⟩
        ·
          have h75p : ¬ (x18.owner : Int) = (ow : Int) := by simpa using h75
          rw [h75]
          refine WL.step (v := (Value.int .i64 kn)) rfl (Step.move rfl) ?_
          refine WL.step (v := (Value.bool ((kn : Int) == (2 : Int)))) rfl (Step.pure (by kernel_rfl)) ?_
          refine WL.step (v := (Value.bool ((kn : Int) == (2 : Int)))) rfl (Step.move rfl) ?_
          rcases Bool.eq_false_or_eq_true ((kn : Int) == (2 : Int)) with h81 | h81
          ·
            have h81p : (kn : Int) = (2 : Int) := by simpa using h81
            rw [h81]
            refine WL.step (v := (Value.pointer (some ⟨b19, 0, none⟩))) rfl (Step.pure (by kernel_rfl)) ?_
            refine WL.step (v := (Value.int .u64 x18.id)) rfl (Step.load1 Try.sc23 rfl ((M.cell 0 rfl 0).trans rfl)) ?_
            refine WL.step (v := (Value.int .u64 n)) rfl (Step.move rfl) ?_
            refine WL.step (v := (Value.bool ((x18.id : Int) == (n : Int)))) rfl (Step.pure (by kernel_rfl)) ?_
            refine WL.step (v := (Value.bool ((x18.id : Int) == (n : Int)))) rfl (Step.pick (t := true) rfl rfl) ?_
            refine WL.step (v := (Value.bool ((x18.id : Int) == (n : Int)))) rfl (Step.pick (t := false) rfl rfl) ?_
            refine WL.nil ?_
            refine W.cond (t := (x18.id : Int) == (n : Int)) rfl (fun h82 => ?_) (fun h82 => ?_)
            ·
              have h82p : (x18.id : Int) = (n : Int) := by simpa using h82
              refine W.region rfl ?_
              refine WL.step (v := g_) rfl (Step.move rfl) ?_
              refine WL.step (v := (Value.agg #[(Value.int .u64 x18.id), (Value.int .i64 x18.owner), (Value.int .u64 x18.epoch), (Value.int .u64 x18.till), (Value.bool x18.cursor)])) rfl (Step.loadN Try.ag88 rfl (M.blk 0 rfl) (Nat.le_of_ble_eq_true rfl) rfl) ?_
              refine WL.new (obj := .cells #[(Value.int .u64 x18.id), (Value.int .i64 x18.owner), (Value.int .u64 x18.epoch), (Value.int .u64 x18.till), (Value.bool x18.cursor)] 88) (fun b => .slice (some ⟨b, 0, none⟩) 1 1) M rfl (fun w => Step.make (by kernel_rfl)) (fun b83 w84 hb83 M => ?_)
              refine WL.does rfl (M.appendF ((xs.take k_).filter (partP kn n ow)) ([x18] : List Lease) (sv := (Value.slice (some ⟨b83, 0, none⟩) 1 1)) 4 Try.un78 Try.el88 rfl (by decide) rfl rfl rfl (SlAt.of_blk (M.blk 0 rfl) rfl (by decide)) leaseE_cel (by have := (by omega); simp only [maxLen, List.length_nil, List.length_cons, List.length_append]; omega) (by have := (by omega); (try simp only [List.length_nil, List.length_cons, List.length_append]); omega)) ?_
              rintro v85 w86 M
              replace M : Mem _ _ _ [blk b83 (.cells #[(Value.int .u64 x18.id), (Value.int .i64 x18.owner), (Value.int .u64 x18.epoch), (Value.int .u64 x18.till), (Value.bool x18.cursor)] 88), blk b19 (.cells #[(Value.int .u64 x18.id), (Value.int .i64 x18.owner), (Value.int .u64 x18.epoch), (Value.int .u64 x18.till), (Value.bool x18.cursor)] 88), blk b7 (.cells #[v_, (Value.int .i64 most), (Value.int .u64 last)] 80), own 88 5 v_ (((xs.take k_).filter fun (x : Lease) => !(partP kn n ow x)).length) (((xs.take k_).filter fun (x : Lease) => !(partP kn n ow x)).flatMap leaseE), own 88 5 v85 ((((xs.take k_).filter (partP kn n ow)) ++ ([x18] : List Lease)).length) ((((xs.take k_).filter (partP kn n ow)) ++ ([x18] : List Lease)).flatMap leaseE), blk b5 (.cells #[(Value.slice none 0 0), (Value.int .i64 0), (Value.int .u64 0)] 80), blk b3 (.cells #[v, (Value.int .i64 most), (Value.int .u64 last)] 80)] [SlAt 5 v xs.length (xs.flatMap leaseE)] _ := M
              have sl87 : IsSl v85 := SlAt.isSl (own_slAt (M.chunk 4 rfl).inv)
              refine WL.step (v := v85) rfl (Step.assign rfl) ?_
              refine WL.nil ?_
              refine W.region rfl ?_
              refine WL.step (v := (Value.int .i64 ↑k_)) rfl (Step.move rfl) ?_
              refine WL.step (v := (Value.int .i64 (↑k_ + 1))) rfl (Step.add rfl rfl (wrap_i64 (by omega))) ?_
              refine WL.step (v := (Value.int .i64 (↑k_ + 1))) rfl (Step.assign rfl) ?_
              refine WL.nil ?_
              have hP : partP kn n ow x18 = true := by first | (exfalso; omega) | simp [partP, h15p, hx18, h22p, h74p, h75p, h81p, h82p]
              replace M := M.rechunk 3 (c' := own 88 5 v_ (((xs.take (k_ + 1)).filter fun (x : Lease) => !(partP kn n ow x)).length) (((xs.take (k_ + 1)).filter fun (x : Lease) => !(partP kn n ow x)).flatMap leaseE)) rfl (by rw [filter_snN hx18 (by simp [hP])])
              replace M : Mem _ _ _ [blk b83 (.cells #[(Value.int .u64 x18.id), (Value.int .i64 x18.owner), (Value.int .u64 x18.epoch), (Value.int .u64 x18.till), (Value.bool x18.cursor)] 88), blk b19 (.cells #[(Value.int .u64 x18.id), (Value.int .i64 x18.owner), (Value.int .u64 x18.epoch), (Value.int .u64 x18.till), (Value.bool x18.cursor)] 88), blk b7 (.cells #[v_, (Value.int .i64 most), (Value.int .u64 last)] 80), own 88 5 v_ (((xs.take (k_ + 1)).filter fun (x : Lease) => !(partP kn n ow x)).length) (((xs.take (k_ + 1)).filter fun (x : Lease) => !(partP kn n ow x)).flatMap leaseE), own 88 5 v85 ((((xs.take k_).filter (partP kn n ow)) ++ ([x18] : List Lease)).length) ((((xs.take k_).filter (partP kn n ow)) ++ ([x18] : List Lease)).flatMap leaseE), blk b5 (.cells #[(Value.slice none 0 0), (Value.int .i64 0), (Value.int .u64 0)] 80), blk b3 (.cells #[v, (Value.int .i64 most), (Value.int .u64 last)] 80)] [SlAt 5 v xs.length (xs.flatMap leaseE)] _ := M
              replace M := M.rechunk 4 (c' := own 88 5 v85 (((xs.take (k_ + 1)).filter (partP kn n ow)).length) (((xs.take (k_ + 1)).filter (partP kn n ow)).flatMap leaseE)) rfl (by rw [filter_snY hx18 (by simp [hP])])
              replace M : Mem _ _ _ [blk b83 (.cells #[(Value.int .u64 x18.id), (Value.int .i64 x18.owner), (Value.int .u64 x18.epoch), (Value.int .u64 x18.till), (Value.bool x18.cursor)] 88), blk b19 (.cells #[(Value.int .u64 x18.id), (Value.int .i64 x18.owner), (Value.int .u64 x18.epoch), (Value.int .u64 x18.till), (Value.bool x18.cursor)] 88), blk b7 (.cells #[v_, (Value.int .i64 most), (Value.int .u64 last)] 80), own 88 5 v_ (((xs.take (k_ + 1)).filter fun (x : Lease) => !(partP kn n ow x)).length) (((xs.take (k_ + 1)).filter fun (x : Lease) => !(partP kn n ow x)).flatMap leaseE), own 88 5 v85 (((xs.take (k_ + 1)).filter (partP kn n ow)).length) (((xs.take (k_ + 1)).filter (partP kn n ow)).flatMap leaseE), blk b5 (.cells #[(Value.slice none 0 0), (Value.int .i64 0), (Value.int .u64 0)] 80), blk b3 (.cells #[v, (Value.int .i64 most), (Value.int .u64 last)] 80)] [SlAt 5 v xs.length (xs.flatMap leaseE)] _ := M
              replace M := M.sel (L' := [blk b7 (.cells #[v_, (Value.int .i64 most), (Value.int .u64 last)] 80), own 88 5 v_ (((xs.take (k_ + 1)).filter fun (x : Lease) => !(partP kn n ow x)).length) (((xs.take (k_ + 1)).filter fun (x : Lease) => !(partP kn n ow x)).flatMap leaseE), own 88 5 v85 (((xs.take (k_ + 1)).filter (partP kn n ow)).length) (((xs.take (k_ + 1)).filter (partP kn n ow)).flatMap leaseE), blk b5 (.cells #[(Value.slice none 0 0), (Value.int .i64 0), (Value.int .u64 0)] 80), blk b3 (.cells #[v, (Value.int .i64 most), (Value.int .u64 last)] 80)]) [2, 3, 4, 5, 6] rfl (by decide)
              exact ⟨_, (by omega), k_ + 1, _, _, ⟨(by omega), rfl⟩, ⟨rfl, rfl, rfl, rfl, rfl, rfl, rfl, rfl, rfl, rfl, rfl⟩, M⟩
            ·
              have h82p : ¬ (x18.id : Int) = (n : Int) := by simpa using h82
              refine W.region rfl ?_
              refine WL.step (v := (Value.pointer (some ⟨b7, 0, none⟩))) rfl (Step.pure (by kernel_rfl)) ?_
              refine WL.step (v := v_) rfl (Step.load1 Try.sc78 rfl ((M.cell 1 rfl 0).trans rfl)) ?_
              refine WL.step (v := (Value.agg #[(Value.int .u64 x18.id), (Value.int .i64 x18.owner), (Value.int .u64 x18.epoch), (Value.int .u64 x18.till), (Value.bool x18.cursor)])) rfl (Step.loadN Try.ag88 rfl (M.blk 0 rfl) (Nat.le_of_ble_eq_true rfl) rfl) ?_
              refine WL.new (obj := .cells #[(Value.int .u64 x18.id), (Value.int .i64 x18.owner), (Value.int .u64 x18.epoch), (Value.int .u64 x18.till), (Value.bool x18.cursor)] 88) (fun b => .slice (some ⟨b, 0, none⟩) 1 1) M rfl (fun w => Step.make (by kernel_rfl)) (fun b88 w89 hb88 M => ?_)
              refine WL.does rfl (M.appendF ((xs.take k_).filter fun (x : Lease) => !(partP kn n ow x)) ([x18] : List Lease) (sv := (Value.slice (some ⟨b88, 0, none⟩) 1 1)) 3 Try.un78 Try.el88 rfl (by decide) rfl rfl rfl (SlAt.of_blk (M.blk 0 rfl) rfl (by decide)) leaseE_cel (by have := (by omega); simp only [maxLen, List.length_nil, List.length_cons, List.length_append]; omega) (by have := (by omega); (try simp only [List.length_nil, List.length_cons, List.length_append]); omega)) ?_
              rintro v90 w91 M
              replace M : Mem _ _ _ [blk b88 (.cells #[(Value.int .u64 x18.id), (Value.int .i64 x18.owner), (Value.int .u64 x18.epoch), (Value.int .u64 x18.till), (Value.bool x18.cursor)] 88), blk b19 (.cells #[(Value.int .u64 x18.id), (Value.int .i64 x18.owner), (Value.int .u64 x18.epoch), (Value.int .u64 x18.till), (Value.bool x18.cursor)] 88), blk b7 (.cells #[v_, (Value.int .i64 most), (Value.int .u64 last)] 80), own 88 5 v90 ((((xs.take k_).filter fun (x : Lease) => !(partP kn n ow x)) ++ ([x18] : List Lease)).length) ((((xs.take k_).filter fun (x : Lease) => !(partP kn n ow x)) ++ ([x18] : List Lease)).flatMap leaseE), own 88 5 g_ (((xs.take k_).filter (partP kn n ow)).length) (((xs.take k_).filter (partP kn n ow)).flatMap leaseE), blk b5 (.cells #[(Value.slice none 0 0), (Value.int .i64 0), (Value.int .u64 0)] 80), blk b3 (.cells #[v, (Value.int .i64 most), (Value.int .u64 last)] 80)] [SlAt 5 v xs.length (xs.flatMap leaseE)] _ := M
              have sl92 : IsSl v90 := SlAt.isSl (own_slAt (M.chunk 3 rfl).inv)
              refine WL.step (v := (Value.pointer (some ⟨b7, 0, none⟩))) rfl (Step.pure (by kernel_rfl)) ?_
              refine WL.store (v := v90) (cs := [v90]) (c' := #[v90, (Value.int .i64 most), (Value.int .u64 last)]) M 2 rfl rfl Try.el78.sized rfl rfl (IsSl.list sl92) rfl (Nat.le_of_ble_eq_true rfl) (cel_cons (IsSl.cel sl92) cel_nil) rfl rfl (fun w93 M => ?_)
              refine WL.nil ?_
              refine W.region rfl ?_
              refine WL.step (v := (Value.int .i64 ↑k_)) rfl (Step.move rfl) ?_
              refine WL.step (v := (Value.int .i64 (↑k_ + 1))) rfl (Step.add rfl rfl (wrap_i64 (by omega))) ?_
              refine WL.step (v := (Value.int .i64 (↑k_ + 1))) rfl (Step.assign rfl) ?_
              refine WL.nil ?_
              have hP : partP kn n ow x18 = false := by first | (exfalso; omega) | simp [partP, h15p, hx18, h22p, h74p, h75p, h81p, h82p]
              replace M := M.rechunk 3 (c' := own 88 5 v90 (((xs.take (k_ + 1)).filter fun (x : Lease) => !(partP kn n ow x)).length) (((xs.take (k_ + 1)).filter fun (x : Lease) => !(partP kn n ow x)).flatMap leaseE)) rfl (by rw [filter_snY hx18 (by simp [hP])])
              replace M : Mem _ _ _ [blk b88 (.cells #[(Value.int .u64 x18.id), (Value.int .i64 x18.owner), (Value.int .u64 x18.epoch), (Value.int .u64 x18.till), (Value.bool x18.cursor)] 88), blk b19 (.cells #[(Value.int .u64 x18.id), (Value.int .i64 x18.owner), (Value.int .u64 x18.epoch), (Value.int .u64 x18.till), (Value.bool x18.cursor)] 88), blk b7 (.cells #[v90, (Value.int .i64 most), (Value.int .u64 last)] 80), own 88 5 v90 (((xs.take (k_ + 1)).filter fun (x : Lease) => !(partP kn n ow x)).length) (((xs.take (k_ + 1)).filter fun (x : Lease) => !(partP kn n ow x)).flatMap leaseE), own 88 5 g_ (((xs.take k_).filter (partP kn n ow)).length) (((xs.take k_).filter (partP kn n ow)).flatMap leaseE), blk b5 (.cells #[(Value.slice none 0 0), (Value.int .i64 0), (Value.int .u64 0)] 80), blk b3 (.cells #[v, (Value.int .i64 most), (Value.int .u64 last)] 80)] [SlAt 5 v xs.length (xs.flatMap leaseE)] _ := M
              replace M := M.rechunk 4 (c' := own 88 5 g_ (((xs.take (k_ + 1)).filter (partP kn n ow)).length) (((xs.take (k_ + 1)).filter (partP kn n ow)).flatMap leaseE)) rfl (by rw [filter_snN hx18 (by simp [hP])])
              replace M : Mem _ _ _ [blk b88 (.cells #[(Value.int .u64 x18.id), (Value.int .i64 x18.owner), (Value.int .u64 x18.epoch), (Value.int .u64 x18.till), (Value.bool x18.cursor)] 88), blk b19 (.cells #[(Value.int .u64 x18.id), (Value.int .i64 x18.owner), (Value.int .u64 x18.epoch), (Value.int .u64 x18.till), (Value.bool x18.cursor)] 88), blk b7 (.cells #[v90, (Value.int .i64 most), (Value.int .u64 last)] 80), own 88 5 v90 (((xs.take (k_ + 1)).filter fun (x : Lease) => !(partP kn n ow x)).length) (((xs.take (k_ + 1)).filter fun (x : Lease) => !(partP kn n ow x)).flatMap leaseE), own 88 5 g_ (((xs.take (k_ + 1)).filter (partP kn n ow)).length) (((xs.take (k_ + 1)).filter (partP kn n ow)).flatMap leaseE), blk b5 (.cells #[(Value.slice none 0 0), (Value.int .i64 0), (Value.int .u64 0)] 80), blk b3 (.cells #[v, (Value.int .i64 most), (Value.int .u64 last)] 80)] [SlAt 5 v xs.length (xs.flatMap leaseE)] _ := M
              replace M := M.sel (L' := [blk b7 (.cells #[v90, (Value.int .i64 most), (Value.int .u64 last)] 80), own 88 5 v90 (((xs.take (k_ + 1)).filter fun (x : Lease) => !(partP kn n ow x)).length) (((xs.take (k_ + 1)).filter fun (x : Lease) => !(partP kn n ow x)).flatMap leaseE), own 88 5 g_ (((xs.take (k_ + 1)).filter (partP kn n ow)).length) (((xs.take (k_ + 1)).filter (partP kn n ow)).flatMap leaseE), blk b5 (.cells #[(Value.slice none 0 0), (Value.int .i64 0), (Value.int .u64 0)] 80), blk b3 (.cells #[v, (Value.int .i64 most), (Value.int .u64 last)] 80)]) [2, 3, 4, 5, 6] rfl (by decide)
              exact ⟨_, (by omega), k_ + 1, _, _, ⟨(by omega), rfl⟩, ⟨rfl, rfl, rfl, rfl, rfl, rfl, rfl, rfl, rfl, rfl, rfl⟩, M⟩
          ·
            have h81p : ¬ (kn : Int) = (2 : Int) := by simpa using h81
            rw [h81]
            refine WL.pass rfl ?_
            refine WL.pass rfl ?_
            refine WL.pass rfl ?_
            refine WL.pass rfl ?_
            refine WL.step (v := (Value.bool false)) rfl (Step.pick (t := false) rfl rfl) ?_
            refine WL.step (v := (Value.bool false)) rfl (Step.pick (t := false) rfl rfl) ?_
            refine WL.nil ?_
            refine W.cond (t := false) rfl (fun h => by cases h) (fun _ => ?_)
            refine W.region rfl ?_
            refine WL.step (v := (Value.pointer (some ⟨b7, 0, none⟩))) rfl (Step.pure (by kernel_rfl)) ?_
            refine WL.step (v := v_) rfl (Step.load1 Try.sc78 rfl ((M.cell 1 rfl 0).trans rfl)) ?_
            refine WL.step (v := (Value.agg #[(Value.int .u64 x18.id), (Value.int .i64 x18.owner), (Value.int .u64 x18.epoch), (Value.int .u64 x18.till), (Value.bool x18.cursor)])) rfl (Step.loadN Try.ag88 rfl (M.blk 0 rfl) (Nat.le_of_ble_eq_true rfl) rfl) ?_
            refine WL.new (obj := .cells #[(Value.int .u64 x18.id), (Value.int .i64 x18.owner), (Value.int .u64 x18.epoch), (Value.int .u64 x18.till), (Value.bool x18.cursor)] 88) (fun b => .slice (some ⟨b, 0, none⟩) 1 1) M rfl (fun w => Step.make (by kernel_rfl)) (fun b94 w95 hb94 M => ?_)
            refine WL.does rfl (M.appendF ((xs.take k_).filter fun (x : Lease) => !(partP kn n ow x)) ([x18] : List Lease) (sv := (Value.slice (some ⟨b94, 0, none⟩) 1 1)) 3 Try.un78 Try.el88 rfl (by decide) rfl rfl rfl (SlAt.of_blk (M.blk 0 rfl) rfl (by decide)) leaseE_cel (by have := (by omega); simp only [maxLen, List.length_nil, List.length_cons, List.length_append]; omega) (by have := (by omega); (try simp only [List.length_nil, List.length_cons, List.length_append]); omega)) ?_
            rintro v96 w97 M
            replace M : Mem _ _ _ [blk b94 (.cells #[(Value.int .u64 x18.id), (Value.int .i64 x18.owner), (Value.int .u64 x18.epoch), (Value.int .u64 x18.till), (Value.bool x18.cursor)] 88), blk b19 (.cells #[(Value.int .u64 x18.id), (Value.int .i64 x18.owner), (Value.int .u64 x18.epoch), (Value.int .u64 x18.till), (Value.bool x18.cursor)] 88), blk b7 (.cells #[v_, (Value.int .i64 most), (Value.int .u64 last)] 80), own 88 5 v96 ((((xs.take k_).filter fun (x : Lease) => !(partP kn n ow x)) ++ ([x18] : List Lease)).length) ((((xs.take k_).filter fun (x : Lease) => !(partP kn n ow x)) ++ ([x18] : List Lease)).flatMap leaseE), own 88 5 g_ (((xs.take k_).filter (partP kn n ow)).length) (((xs.take k_).filter (partP kn n ow)).flatMap leaseE), blk b5 (.cells #[(Value.slice none 0 0), (Value.int .i64 0), (Value.int .u64 0)] 80), blk b3 (.cells #[v, (Value.int .i64 most), (Value.int .u64 last)] 80)] [SlAt 5 v xs.length (xs.flatMap leaseE)] _ := M
            have sl98 : IsSl v96 := SlAt.isSl (own_slAt (M.chunk 3 rfl).inv)
            refine WL.step (v := (Value.pointer (some ⟨b7, 0, none⟩))) rfl (Step.pure (by kernel_rfl)) ?_
            refine WL.store (v := v96) (cs := [v96]) (c' := #[v96, (Value.int .i64 most), (Value.int .u64 last)]) M 2 rfl rfl Try.el78.sized rfl rfl (IsSl.list sl98) rfl (Nat.le_of_ble_eq_true rfl) (cel_cons (IsSl.cel sl98) cel_nil) rfl rfl (fun w99 M => ?_)
            refine WL.nil ?_
            refine W.region rfl ?_
            refine WL.step (v := (Value.int .i64 ↑k_)) rfl (Step.move rfl) ?_
            refine WL.step (v := (Value.int .i64 (↑k_ + 1))) rfl (Step.add rfl rfl (wrap_i64 (by omega))) ?_
            refine WL.step (v := (Value.int .i64 (↑k_ + 1))) rfl (Step.assign rfl) ?_
            refine WL.nil ?_
            have hP : partP kn n ow x18 = false := by first | (exfalso; omega) | simp [partP, h15p, hx18, h22p, h74p, h75p, h81p]
            replace M := M.rechunk 3 (c' := own 88 5 v96 (((xs.take (k_ + 1)).filter fun (x : Lease) => !(partP kn n ow x)).length) (((xs.take (k_ + 1)).filter fun (x : Lease) => !(partP kn n ow x)).flatMap leaseE)) rfl (by rw [filter_snY hx18 (by simp [hP])])
            replace M : Mem _ _ _ [blk b94 (.cells #[(Value.int .u64 x18.id), (Value.int .i64 x18.owner), (Value.int .u64 x18.epoch), (Value.int .u64 x18.till), (Value.bool x18.cursor)] 88), blk b19 (.cells #[(Value.int .u64 x18.id), (Value.int .i64 x18.owner), (Value.int .u64 x18.epoch), (Value.int .u64 x18.till), (Value.bool x18.cursor)] 88), blk b7 (.cells #[v96, (Value.int .i64 most), (Value.int .u64 last)] 80), own 88 5 v96 (((xs.take (k_ + 1)).filter fun (x : Lease) => !(partP kn n ow x)).length) (((xs.take (k_ + 1)).filter fun (x : Lease) => !(partP kn n ow x)).flatMap leaseE), own 88 5 g_ (((xs.take k_).filter (partP kn n ow)).length) (((xs.take k_).filter (partP kn n ow)).flatMap leaseE), blk b5 (.cells #[(Value.slice none 0 0), (Value.int .i64 0), (Value.int .u64 0)] 80), blk b3 (.cells #[v, (Value.int .i64 most), (Value.int .u64 last)] 80)] [SlAt 5 v xs.length (xs.flatMap leaseE)] _ := M
            replace M := M.rechunk 4 (c' := own 88 5 g_ (((xs.take (k_ + 1)).filter (partP kn n ow)).length) (((xs.take (k_ + 1)).filter (partP kn n ow)).flatMap leaseE)) rfl (by rw [filter_snN hx18 (by simp [hP])])
            replace M : Mem _ _ _ [blk b94 (.cells #[(Value.int .u64 x18.id), (Value.int .i64 x18.owner), (Value.int .u64 x18.epoch), (Value.int .u64 x18.till), (Value.bool x18.cursor)] 88), blk b19 (.cells #[(Value.int .u64 x18.id), (Value.int .i64 x18.owner), (Value.int .u64 x18.epoch), (Value.int .u64 x18.till), (Value.bool x18.cursor)] 88), blk b7 (.cells #[v96, (Value.int .i64 most), (Value.int .u64 last)] 80), own 88 5 v96 (((xs.take (k_ + 1)).filter fun (x : Lease) => !(partP kn n ow x)).length) (((xs.take (k_ + 1)).filter fun (x : Lease) => !(partP kn n ow x)).flatMap leaseE), own 88 5 g_ (((xs.take (k_ + 1)).filter (partP kn n ow)).length) (((xs.take (k_ + 1)).filter (partP kn n ow)).flatMap leaseE), blk b5 (.cells #[(Value.slice none 0 0), (Value.int .i64 0), (Value.int .u64 0)] 80), blk b3 (.cells #[v, (Value.int .i64 most), (Value.int .u64 last)] 80)] [SlAt 5 v xs.length (xs.flatMap leaseE)] _ := M
            replace M := M.sel (L' := [blk b7 (.cells #[v96, (Value.int .i64 most), (Value.int .u64 last)] 80), own 88 5 v96 (((xs.take (k_ + 1)).filter fun (x : Lease) => !(partP kn n ow x)).length) (((xs.take (k_ + 1)).filter fun (x : Lease) => !(partP kn n ow x)).flatMap leaseE), own 88 5 g_ (((xs.take (k_ + 1)).filter (partP kn n ow)).length) (((xs.take (k_ + 1)).filter (partP kn n ow)).flatMap leaseE), blk b5 (.cells #[(Value.slice none 0 0), (Value.int .i64 0), (Value.int .u64 0)] 80), blk b3 (.cells #[v, (Value.int .i64 most), (Value.int .u64 last)] 80)]) [2, 3, 4, 5, 6] rfl (by decide)
            exact ⟨_, (by omega), k_ + 1, _, _, ⟨(by omega), rfl⟩, ⟨rfl, rfl, rfl, rfl, rfl, rfl, rfl, rfl, rfl, rfl, rfl⟩, M⟩
      ·
        have h74p : ¬ (kn : Int) = (1 : Int) := by simpa using h74
        rw [h74]
        refine WL.pass rfl ?_
        refine WL.pass rfl ?_
        refine WL.pass rfl ?_
        refine WL.pass rfl ?_
        refine WL.step (v := (Value.bool false)) rfl (Step.pick (t := false) rfl rfl) ?_
        refine WL.step (v := (Value.bool false)) rfl (Step.pick (t := false) rfl rfl) ?_
        refine WL.step (v := (Value.bool false)) rfl (Step.move rfl) ?_
        refine WL.step (v := (Value.int .i64 kn)) rfl (Step.move rfl) ?_
        refine WL.step (v := (Value.bool ((kn : Int) == (2 : Int)))) rfl (Step.pure (by kernel_rfl)) ?_
        refine WL.step (v := (Value.bool ((kn : Int) == (2 : Int)))) rfl (Step.move rfl) ?_
        rcases Bool.eq_false_or_eq_true ((kn : Int) == (2 : Int)) with h100 | h100
        ·
          have h100p : (kn : Int) = (2 : Int) := by simpa using h100
          rw [h100]
          refine WL.step (v := (Value.pointer (some ⟨b19, 0, none⟩))) rfl (Step.pure (by kernel_rfl)) ?_
          refine WL.step (v := (Value.int .u64 x18.id)) rfl (Step.load1 Try.sc23 rfl ((M.cell 0 rfl 0).trans rfl)) ?_
          refine WL.step (v := (Value.int .u64 n)) rfl (Step.move rfl) ?_
          refine WL.step (v := (Value.bool ((x18.id : Int) == (n : Int)))) rfl (Step.pure (by kernel_rfl)) ?_
          refine WL.step (v := (Value.bool ((x18.id : Int) == (n : Int)))) rfl (Step.pick (t := true) rfl rfl) ?_
          refine WL.step (v := (Value.bool ((x18.id : Int) == (n : Int)))) rfl (Step.pick (t := false) rfl rfl) ?_
          refine WL.nil ?_
          refine W.cond (t := (x18.id : Int) == (n : Int)) rfl (fun h101 => ?_) (fun h101 => ?_)
          ·
            have h101p : (x18.id : Int) = (n : Int) := by simpa using h101
            refine W.region rfl ?_
            refine WL.step (v := g_) rfl (Step.move rfl) ?_
            refine WL.step (v := (Value.agg #[(Value.int .u64 x18.id), (Value.int .i64 x18.owner), (Value.int .u64 x18.epoch), (Value.int .u64 x18.till), (Value.bool x18.cursor)])) rfl (Step.loadN Try.ag88 rfl (M.blk 0 rfl) (Nat.le_of_ble_eq_true rfl) rfl) ?_
            refine WL.new (obj := .cells #[(Value.int .u64 x18.id), (Value.int .i64 x18.owner), (Value.int .u64 x18.epoch), (Value.int .u64 x18.till), (Value.bool x18.cursor)] 88) (fun b => .slice (some ⟨b, 0, none⟩) 1 1) M rfl (fun w => Step.make (by kernel_rfl)) (fun b102 w103 hb102 M => ?_)
            refine WL.does rfl (M.appendF ((xs.take k_).filter (partP kn n ow)) ([x18] : List Lease) (sv := (Value.slice (some ⟨b102, 0, none⟩) 1 1)) 4 Try.un78 Try.el88 rfl (by decide) rfl rfl rfl (SlAt.of_blk (M.blk 0 rfl) rfl (by decide)) leaseE_cel (by have := (by omega); simp only [maxLen, List.length_nil, List.length_cons, List.length_append]; omega) (by have := (by omega); (try simp only [List.length_nil, List.length_cons, List.length_append]); omega)) ?_
            rintro v104 w105 M
            replace M : Mem _ _ _ [blk b102 (.cells #[(Value.int .u64 x18.id), (Value.int .i64 x18.owner), (Value.int .u64 x18.epoch), (Value.int .u64 x18.till), (Value.bool x18.cursor)] 88), blk b19 (.cells #[(Value.int .u64 x18.id), (Value.int .i64 x18.owner), (Value.int .u64 x18.epoch), (Value.int .u64 x18.till), (Value.bool x18.cursor)] 88), blk b7 (.cells #[v_, (Value.int .i64 most), (Value.int .u64 last)] 80), own 88 5 v_ (((xs.take k_).filter fun (x : Lease) => !(partP kn n ow x)).length) (((xs.take k_).filter fun (x : Lease) => !(partP kn n ow x)).flatMap leaseE), own 88 5 v104 ((((xs.take k_).filter (partP kn n ow)) ++ ([x18] : List Lease)).length) ((((xs.take k_).filter (partP kn n ow)) ++ ([x18] : List Lease)).flatMap leaseE), blk b5 (.cells #[(Value.slice none 0 0), (Value.int .i64 0), (Value.int .u64 0)] 80), blk b3 (.cells #[v, (Value.int .i64 most), (Value.int .u64 last)] 80)] [SlAt 5 v xs.length (xs.flatMap leaseE)] _ := M
            have sl106 : IsSl v104 := SlAt.isSl (own_slAt (M.chunk 4 rfl).inv)
            refine WL.step (v := v104) rfl (Step.assign rfl) ?_
            refine WL.nil ?_
            refine W.region rfl ?_
            refine WL.step (v := (Value.int .i64 ↑k_)) rfl (Step.move rfl) ?_
            refine WL.step (v := (Value.int .i64 (↑k_ + 1))) rfl (Step.add rfl rfl (wrap_i64 (by omega))) ?_
            refine WL.step (v := (Value.int .i64 (↑k_ + 1))) rfl (Step.assign rfl) ?_
            refine WL.nil ?_
            have hP : partP kn n ow x18 = true := by first | (exfalso; omega) | simp [partP, h15p, hx18, h22p, h74p, h100p, h101p]
            replace M := M.rechunk 3 (c' := own 88 5 v_ (((xs.take (k_ + 1)).filter fun (x : Lease) => !(partP kn n ow x)).length) (((xs.take (k_ + 1)).filter fun (x : Lease) => !(partP kn n ow x)).flatMap leaseE)) rfl (by rw [filter_snN hx18 (by simp [hP])])
            replace M : Mem _ _ _ [blk b102 (.cells #[(Value.int .u64 x18.id), (Value.int .i64 x18.owner), (Value.int .u64 x18.epoch), (Value.int .u64 x18.till), (Value.bool x18.cursor)] 88), blk b19 (.cells #[(Value.int .u64 x18.id), (Value.int .i64 x18.owner), (Value.int .u64 x18.epoch), (Value.int .u64 x18.till), (Value.bool x18.cursor)] 88), blk b7 (.cells #[v_, (Value.int .i64 most), (Value.int .u64 last)] 80), own 88 5 v_ (((xs.take (k_ + 1)).filter fun (x : Lease) => !(partP kn n ow x)).length) (((xs.take (k_ + 1)).filter fun (x : Lease) => !(partP kn n ow x)).flatMap leaseE), own 88 5 v104 ((((xs.take k_).filter (partP kn n ow)) ++ ([x18] : List Lease)).length) ((((xs.take k_).filter (partP kn n ow)) ++ ([x18] : List Lease)).flatMap leaseE), blk b5 (.cells #[(Value.slice none 0 0), (Value.int .i64 0), (Value.int .u64 0)] 80), blk b3 (.cells #[v, (Value.int .i64 most), (Value.int .u64 last)] 80)] [SlAt 5 v xs.length (xs.flatMap leaseE)] _ := M
            replace M := M.rechunk 4 (c' := own 88 5 v104 (((xs.take (k_ + 1)).filter (partP kn n ow)).length) (((xs.take (k_ + 1)).filter (partP kn n ow)).flatMap leaseE)) rfl (by rw [filter_snY hx18 (by simp [hP])])
            replace M : Mem _ _ _ [blk b102 (.cells #[(Value.int .u64 x18.id), (Value.int .i64 x18.owner), (Value.int .u64 x18.epoch), (Value.int .u64 x18.till), (Value.bool x18.cursor)] 88), blk b19 (.cells #[(Value.int .u64 x18.id), (Value.int .i64 x18.owner), (Value.int .u64 x18.epoch), (Value.int .u64 x18.till), (Value.bool x18.cursor)] 88), blk b7 (.cells #[v_, (Value.int .i64 most), (Value.int .u64 last)] 80), own 88 5 v_ (((xs.take (k_ + 1)).filter fun (x : Lease) => !(partP kn n ow x)).length) (((xs.take (k_ + 1)).filter fun (x : Lease) => !(partP kn n ow x)).flatMap leaseE), own 88 5 v104 (((xs.take (k_ + 1)).filter (partP kn n ow)).length) (((xs.take (k_ + 1)).filter (partP kn n ow)).flatMap leaseE), blk b5 (.cells #[(Value.slice none 0 0), (Value.int .i64 0), (Value.int .u64 0)] 80), blk b3 (.cells #[v, (Value.int .i64 most), (Value.int .u64 last)] 80)] [SlAt 5 v xs.length (xs.flatMap leaseE)] _ := M
            replace M := M.sel (L' := [blk b7 (.cells #[v_, (Value.int .i64 most), (Value.int .u64 last)] 80), own 88 5 v_ (((xs.take (k_ + 1)).filter fun (x : Lease) => !(partP kn n ow x)).length) (((xs.take (k_ + 1)).filter fun (x : Lease) => !(partP kn n ow x)).flatMap leaseE), own 88 5 v104 (((xs.take (k_ + 1)).filter (partP kn n ow)).length) (((xs.take (k_ + 1)).filter (partP kn n ow)).flatMap leaseE), blk b5 (.cells #[(Value.slice none 0 0), (Value.int .i64 0), (Value.int .u64 0)] 80), blk b3 (.cells #[v, (Value.int .i64 most), (Value.int .u64 last)] 80)]) [2, 3, 4, 5, 6] rfl (by decide)
            exact ⟨_, (by omega), k_ + 1, _, _, ⟨(by omega), rfl⟩, ⟨rfl, rfl, rfl, rfl, rfl, rfl, rfl, rfl, rfl, rfl, rfl⟩, M⟩
          ·
            have h101p : ¬ (x18.id : Int) = (n : Int) := by simpa using h101
            refine W.region rfl ?_
            refine WL.step (v := (Value.pointer (some ⟨b7, 0, none⟩))) rfl (Step.pure (by kernel_rfl)) ?_
            refine WL.step (v := v_) rfl (Step.load1 Try.sc78 rfl ((M.cell 1 rfl 0).trans rfl)) ?_
            refine WL.step (v := (Value.agg #[(Value.int .u64 x18.id), (Value.int .i64 x18.owner), (Value.int .u64 x18.epoch), (Value.int .u64 x18.till), (Value.bool x18.cursor)])) rfl (Step.loadN Try.ag88 rfl (M.blk 0 rfl) (Nat.le_of_ble_eq_true rfl) rfl) ?_
            refine WL.new (obj := .cells #[(Value.int .u64 x18.id), (Value.int .i64 x18.owner), (Value.int .u64 x18.epoch), (Value.int .u64 x18.till), (Value.bool x18.cursor)] 88) (fun b => .slice (some ⟨b, 0, none⟩) 1 1) M rfl (fun w => Step.make (by kernel_rfl)) (fun b107 w108 hb107 M => ?_)
            refine WL.does rfl (M.appendF ((xs.take k_).filter fun (x : Lease) => !(partP kn n ow x)) ([x18] : List Lease) (sv := (Value.slice (some ⟨b107, 0, none⟩) 1 1)) 3 Try.un78 Try.el88 rfl (by decide) rfl rfl rfl (SlAt.of_blk (M.blk 0 rfl) rfl (by decide)) leaseE_cel (by have := (by omega); simp only [maxLen, List.length_nil, List.length_cons, List.length_append]; omega) (by have := (by omega); (try simp only [List.length_nil, List.length_cons, List.length_append]); omega)) ?_
            rintro v109 w110 M
            replace M : Mem _ _ _ [blk b107 (.cells #[(Value.int .u64 x18.id), (Value.int .i64 x18.owner), (Value.int .u64 x18.epoch), (Value.int .u64 x18.till), (Value.bool x18.cursor)] 88), blk b19 (.cells #[(Value.int .u64 x18.id), (Value.int .i64 x18.owner), (Value.int .u64 x18.epoch), (Value.int .u64 x18.till), (Value.bool x18.cursor)] 88), blk b7 (.cells #[v_, (Value.int .i64 most), (Value.int .u64 last)] 80), own 88 5 v109 ((((xs.take k_).filter fun (x : Lease) => !(partP kn n ow x)) ++ ([x18] : List Lease)).length) ((((xs.take k_).filter fun (x : Lease) => !(partP kn n ow x)) ++ ([x18] : List Lease)).flatMap leaseE), own 88 5 g_ (((xs.take k_).filter (partP kn n ow)).length) (((xs.take k_).filter (partP kn n ow)).flatMap leaseE), blk b5 (.cells #[(Value.slice none 0 0), (Value.int .i64 0), (Value.int .u64 0)] 80), blk b3 (.cells #[v, (Value.int .i64 most), (Value.int .u64 last)] 80)] [SlAt 5 v xs.length (xs.flatMap leaseE)] _ := M
            have sl111 : IsSl v109 := SlAt.isSl (own_slAt (M.chunk 3 rfl).inv)
            refine WL.step (v := (Value.pointer (some ⟨b7, 0, none⟩))) rfl (Step.pure (by kernel_rfl)) ?_
            refine WL.store (v := v109) (cs := [v109]) (c' := #[v109, (Value.int .i64 most), (Value.int .u64 last)]) M 2 rfl rfl Try.el78.sized rfl rfl (IsSl.list sl111) rfl (Nat.le_of_ble_eq_true rfl) (cel_cons (IsSl.cel sl111) cel_nil) rfl rfl (fun w112 M => ?_)
            refine WL.nil ?_
            refine W.region rfl ?_
            refine WL.step (v := (Value.int .i64 ↑k_)) rfl (Step.move rfl) ?_
            refine WL.step (v := (Value.int .i64 (↑k_ + 1))) rfl (Step.add rfl rfl (wrap_i64 (by omega))) ?_
            refine WL.step (v := (Value.int .i64 (↑k_ + 1))) rfl (Step.assign rfl) ?_
            refine WL.nil ?_
            have hP : partP kn n ow x18 = false := by first | (exfalso; omega) | simp [partP, h15p, hx18, h22p, h74p, h100p, h101p]
            replace M := M.rechunk 3 (c' := own 88 5 v109 (((xs.take (k_ + 1)).filter fun (x : Lease) => !(partP kn n ow x)).length) (((xs.take (k_ + 1)).filter fun (x : Lease) => !(partP kn n ow x)).flatMap leaseE)) rfl (by rw [filter_snY hx18 (by simp [hP])])
            replace M : Mem _ _ _ [blk b107 (.cells #[(Value.int .u64 x18.id), (Value.int .i64 x18.owner), (Value.int .u64 x18.epoch), (Value.int .u64 x18.till), (Value.bool x18.cursor)] 88), blk b19 (.cells #[(Value.int .u64 x18.id), (Value.int .i64 x18.owner), (Value.int .u64 x18.epoch), (Value.int .u64 x18.till), (Value.bool x18.cursor)] 88), blk b7 (.cells #[v109, (Value.int .i64 most), (Value.int .u64 last)] 80), own 88 5 v109 (((xs.take (k_ + 1)).filter fun (x : Lease) => !(partP kn n ow x)).length) (((xs.take (k_ + 1)).filter fun (x : Lease) => !(partP kn n ow x)).flatMap leaseE), own 88 5 g_ (((xs.take k_).filter (partP kn n ow)).length) (((xs.take k_).filter (partP kn n ow)).flatMap leaseE), blk b5 (.cells #[(Value.slice none 0 0), (Value.int .i64 0), (Value.int .u64 0)] 80), blk b3 (.cells #[v, (Value.int .i64 most), (Value.int .u64 last)] 80)] [SlAt 5 v xs.length (xs.flatMap leaseE)] _ := M
            replace M := M.rechunk 4 (c' := own 88 5 g_ (((xs.take (k_ + 1)).filter (partP kn n ow)).length) (((xs.take (k_ + 1)).filter (partP kn n ow)).flatMap leaseE)) rfl (by rw [filter_snN hx18 (by simp [hP])])
            replace M : Mem _ _ _ [blk b107 (.cells #[(Value.int .u64 x18.id), (Value.int .i64 x18.owner), (Value.int .u64 x18.epoch), (Value.int .u64 x18.till), (Value.bool x18.cursor)] 88), blk b19 (.cells #[(Value.int .u64 x18.id), (Value.int .i64 x18.owner), (Value.int .u64 x18.epoch), (Value.int .u64 x18.till), (Value.bool x18.cursor)] 88), blk b7 (.cells #[v109, (Value.int .i64 most), (Value.int .u64 last)] 80), own 88 5 v109 (((xs.take (k_ + 1)).filter fun (x : Lease) => !(partP kn n ow x)).length) (((xs.take (k_ + 1)).filter fun (x : Lease) => !(partP kn n ow x)).flatMap leaseE), own 88 5 g_ (((xs.take (k_ + 1)).filter (partP kn n ow)).length) (((xs.take (k_ + 1)).filter (partP kn n ow)).flatMap leaseE), blk b5 (.cells #[(Value.slice none 0 0), (Value.int .i64 0), (Value.int .u64 0)] 80), blk b3 (.cells #[v, (Value.int .i64 most), (Value.int .u64 last)] 80)] [SlAt 5 v xs.length (xs.flatMap leaseE)] _ := M
            replace M := M.sel (L' := [blk b7 (.cells #[v109, (Value.int .i64 most), (Value.int .u64 last)] 80), own 88 5 v109 (((xs.take (k_ + 1)).filter fun (x : Lease) => !(partP kn n ow x)).length) (((xs.take (k_ + 1)).filter fun (x : Lease) => !(partP kn n ow x)).flatMap leaseE), own 88 5 g_ (((xs.take (k_ + 1)).filter (partP kn n ow)).length) (((xs.take (k_ + 1)).filter (partP kn n ow)).flatMap leaseE), blk b5 (.cells #[(Value.slice none 0 0), (Value.int .i64 0), (Value.int .u64 0)] 80), blk b3 (.cells #[v, (Value.int .i64 most), (Value.int .u64 last)] 80)]) [2, 3, 4, 5, 6] rfl (by decide)
            exact ⟨_, (by omega), k_ + 1, _, _, ⟨(by omega), rfl⟩, ⟨rfl, rfl, rfl, rfl, rfl, rfl, rfl, rfl, rfl, rfl, rfl⟩, M⟩
        ·
          have h100p : ¬ (kn : Int) = (2 : Int) := by simpa using h100
          rw [h100]
          refine WL.pass rfl ?_
          refine WL.pass rfl ?_
          refine WL.pass rfl ?_
          refine WL.pass rfl ?_
          refine WL.step (v := (Value.bool false)) rfl (Step.pick (t := false) rfl rfl) ?_
          refine WL.step (v := (Value.bool false)) rfl (Step.pick (t := false) rfl rfl) ?_
          refine WL.nil ?_
          refine W.cond (t := false) rfl (fun h => by cases h) (fun _ => ?_)
          refine W.region rfl ?_
          refine WL.step (v := (Value.pointer (some ⟨b7, 0, none⟩))) rfl (Step.pure (by kernel_rfl)) ?_
          refine WL.step (v := v_) rfl (Step.load1 Try.sc78 rfl ((M.cell 1 rfl 0).trans rfl)) ?_
          refine WL.step (v := (Value.agg #[(Value.int .u64 x18.id), (Value.int .i64 x18.owner), (Value.int .u64 x18.epoch), (Value.int .u64 x18.till), (Value.bool x18.cursor)])) rfl (Step.loadN Try.ag88 rfl (M.blk 0 rfl) (Nat.le_of_ble_eq_true rfl) rfl) ?_
          refine WL.new (obj := .cells #[(Value.int .u64 x18.id), (Value.int .i64 x18.owner), (Value.int .u64 x18.epoch), (Value.int .u64 x18.till), (Value.bool x18.cursor)] 88) (fun b => .slice (some ⟨b, 0, none⟩) 1 1) M rfl (fun w => Step.make (by kernel_rfl)) (fun b113 w114 hb113 M => ?_)
          refine WL.does rfl (M.appendF ((xs.take k_).filter fun (x : Lease) => !(partP kn n ow x)) ([x18] : List Lease) (sv := (Value.slice (some ⟨b113, 0, none⟩) 1 1)) 3 Try.un78 Try.el88 rfl (by decide) rfl rfl rfl (SlAt.of_blk (M.blk 0 rfl) rfl (by decide)) leaseE_cel (by have := (by omega); simp only [maxLen, List.length_nil, List.length_cons, List.length_append]; omega) (by have := (by omega); (try simp only [List.length_nil, List.length_cons, List.length_append]); omega)) ?_
          rintro v115 w116 M
          replace M : Mem _ _ _ [blk b113 (.cells #[(Value.int .u64 x18.id), (Value.int .i64 x18.owner), (Value.int .u64 x18.epoch), (Value.int .u64 x18.till), (Value.bool x18.cursor)] 88), blk b19 (.cells #[(Value.int .u64 x18.id), (Value.int .i64 x18.owner), (Value.int .u64 x18.epoch), (Value.int .u64 x18.till), (Value.bool x18.cursor)] 88), blk b7 (.cells #[v_, (Value.int .i64 most), (Value.int .u64 last)] 80), own 88 5 v115 ((((xs.take k_).filter fun (x : Lease) => !(partP kn n ow x)) ++ ([x18] : List Lease)).length) ((((xs.take k_).filter fun (x : Lease) => !(partP kn n ow x)) ++ ([x18] : List Lease)).flatMap leaseE), own 88 5 g_ (((xs.take k_).filter (partP kn n ow)).length) (((xs.take k_).filter (partP kn n ow)).flatMap leaseE), blk b5 (.cells #[(Value.slice none 0 0), (Value.int .i64 0), (Value.int .u64 0)] 80), blk b3 (.cells #[v, (Value.int .i64 most), (Value.int .u64 last)] 80)] [SlAt 5 v xs.length (xs.flatMap leaseE)] _ := M
          have sl117 : IsSl v115 := SlAt.isSl (own_slAt (M.chunk 3 rfl).inv)
          refine WL.step (v := (Value.pointer (some ⟨b7, 0, none⟩))) rfl (Step.pure (by kernel_rfl)) ?_
          refine WL.store (v := v115) (cs := [v115]) (c' := #[v115, (Value.int .i64 most), (Value.int .u64 last)]) M 2 rfl rfl Try.el78.sized rfl rfl (IsSl.list sl117) rfl (Nat.le_of_ble_eq_true rfl) (cel_cons (IsSl.cel sl117) cel_nil) rfl rfl (fun w118 M => ?_)
          refine WL.nil ?_
          refine W.region rfl ?_
          refine WL.step (v := (Value.int .i64 ↑k_)) rfl (Step.move rfl) ?_
          refine WL.step (v := (Value.int .i64 (↑k_ + 1))) rfl (Step.add rfl rfl (wrap_i64 (by omega))) ?_
          refine WL.step (v := (Value.int .i64 (↑k_ + 1))) rfl (Step.assign rfl) ?_
          refine WL.nil ?_
          have hP : partP kn n ow x18 = false := by first | (exfalso; omega) | simp [partP, h15p, hx18, h22p, h74p, h100p]
          replace M := M.rechunk 3 (c' := own 88 5 v115 (((xs.take (k_ + 1)).filter fun (x : Lease) => !(partP kn n ow x)).length) (((xs.take (k_ + 1)).filter fun (x : Lease) => !(partP kn n ow x)).flatMap leaseE)) rfl (by rw [filter_snY hx18 (by simp [hP])])
          replace M : Mem _ _ _ [blk b113 (.cells #[(Value.int .u64 x18.id), (Value.int .i64 x18.owner), (Value.int .u64 x18.epoch), (Value.int .u64 x18.till), (Value.bool x18.cursor)] 88), blk b19 (.cells #[(Value.int .u64 x18.id), (Value.int .i64 x18.owner), (Value.int .u64 x18.epoch), (Value.int .u64 x18.till), (Value.bool x18.cursor)] 88), blk b7 (.cells #[v115, (Value.int .i64 most), (Value.int .u64 last)] 80), own 88 5 v115 (((xs.take (k_ + 1)).filter fun (x : Lease) => !(partP kn n ow x)).length) (((xs.take (k_ + 1)).filter fun (x : Lease) => !(partP kn n ow x)).flatMap leaseE), own 88 5 g_ (((xs.take k_).filter (partP kn n ow)).length) (((xs.take k_).filter (partP kn n ow)).flatMap leaseE), blk b5 (.cells #[(Value.slice none 0 0), (Value.int .i64 0), (Value.int .u64 0)] 80), blk b3 (.cells #[v, (Value.int .i64 most), (Value.int .u64 last)] 80)] [SlAt 5 v xs.length (xs.flatMap leaseE)] _ := M
          replace M := M.rechunk 4 (c' := own 88 5 g_ (((xs.take (k_ + 1)).filter (partP kn n ow)).length) (((xs.take (k_ + 1)).filter (partP kn n ow)).flatMap leaseE)) rfl (by rw [filter_snN hx18 (by simp [hP])])
          replace M : Mem _ _ _ [blk b113 (.cells #[(Value.int .u64 x18.id), (Value.int .i64 x18.owner), (Value.int .u64 x18.epoch), (Value.int .u64 x18.till), (Value.bool x18.cursor)] 88), blk b19 (.cells #[(Value.int .u64 x18.id), (Value.int .i64 x18.owner), (Value.int .u64 x18.epoch), (Value.int .u64 x18.till), (Value.bool x18.cursor)] 88), blk b7 (.cells #[v115, (Value.int .i64 most), (Value.int .u64 last)] 80), own 88 5 v115 (((xs.take (k_ + 1)).filter fun (x : Lease) => !(partP kn n ow x)).length) (((xs.take (k_ + 1)).filter fun (x : Lease) => !(partP kn n ow x)).flatMap leaseE), own 88 5 g_ (((xs.take (k_ + 1)).filter (partP kn n ow)).length) (((xs.take (k_ + 1)).filter (partP kn n ow)).flatMap leaseE), blk b5 (.cells #[(Value.slice none 0 0), (Value.int .i64 0), (Value.int .u64 0)] 80), blk b3 (.cells #[v, (Value.int .i64 most), (Value.int .u64 last)] 80)] [SlAt 5 v xs.length (xs.flatMap leaseE)] _ := M
          replace M := M.sel (L' := [blk b7 (.cells #[v115, (Value.int .i64 most), (Value.int .u64 last)] 80), own 88 5 v115 (((xs.take (k_ + 1)).filter fun (x : Lease) => !(partP kn n ow x)).length) (((xs.take (k_ + 1)).filter fun (x : Lease) => !(partP kn n ow x)).flatMap leaseE), own 88 5 g_ (((xs.take (k_ + 1)).filter (partP kn n ow)).length) (((xs.take (k_ + 1)).filter (partP kn n ow)).flatMap leaseE), blk b5 (.cells #[(Value.slice none 0 0), (Value.int .i64 0), (Value.int .u64 0)] 80), blk b3 (.cells #[v, (Value.int .i64 most), (Value.int .u64 last)] 80)]) [2, 3, 4, 5, 6] rfl (by decide)
          exact ⟨_, (by omega), k_ + 1, _, _, ⟨(by omega), rfl⟩, ⟨rfl, rfl, rfl, rfl, rfl, rfl, rfl, rfl, rfl, rfl, rfl⟩, M⟩
  ·
    have h15p := of_decide_eq_false h15
    refine W.exit ?_
    refine thn_exit ?_
    refine thn_exit ?_
    refine inBlk_hit ?_
    refine W.seq' ?_
    refine W.region rfl ?_
    refine WL.step (v := (Value.agg #[v_, (Value.int .i64 most), (Value.int .u64 last)])) rfl (Step.loadN Try.ag80 rfl (M.blk 0 rfl) (Nat.le_of_ble_eq_true rfl) rfl) ?_
    refine WL.step (v := g_) rfl (Step.move rfl) ?_
    refine WL.store (v := (Value.agg #[v_, (Value.int .i64 most), (Value.int .u64 last)])) (cs := [v_, (Value.int .i64 most), (Value.int .u64 last)]) (c' := #[v_, (Value.int .i64 most), (Value.int .u64 last)]) M 3 rfl rfl Try.el80.sized rfl rfl rfl rfl (Nat.le_of_ble_eq_true rfl) (cel_cons (IsSl.cel sl13) (cel_cons rfl (cel_cons rfl cel_nil))) rfl rfl (fun w119 M => ?_)
    refine WL.step (v := g_) rfl (Step.assign rfl) ?_
    refine WL.nil ?_
    refine W.ret ?_
    refine ⟨.inl rfl, (Value.tuple #[(Value.agg #[v_, (Value.int .i64 most), (Value.int .u64 last)]), g_]), ?_, ?_⟩
    · exact ⟨rfl, (Res.r2 (RV.cellN Try.ag80 rfl (M.blk 3 rfl) rfl) (show RV _ _ _ (.tmp 9) g_ from by exact rfl))⟩
    replace M := M.shareOwn 1 rfl
    replace M : Mem _ _ _ [blk b7 (.cells #[v_, (Value.int .i64 most), (Value.int .u64 last)] 80), own 88 5 g_ (((xs.take k_).filter (partP kn n ow)).length) (((xs.take k_).filter (partP kn n ow)).flatMap leaseE), blk b5 (.cells #[v_, (Value.int .i64 most), (Value.int .u64 last)] 80), blk b3 (.cells #[v, (Value.int .i64 most), (Value.int .u64 last)] 80)] [SlAt 5 v_ ((xs.take k_).filter fun (x : Lease) => !(partP kn n ow x)).length (((xs.take k_).filter fun (x : Lease) => !(partP kn n ow x)).flatMap leaseE), SlAt 5 v xs.length (xs.flatMap leaseE)] _ := M
    replace M := M.shareOwn 1 rfl
    replace M : Mem _ _ _ [blk b7 (.cells #[v_, (Value.int .i64 most), (Value.int .u64 last)] 80), blk b5 (.cells #[v_, (Value.int .i64 most), (Value.int .u64 last)] 80), blk b3 (.cells #[v, (Value.int .i64 most), (Value.int .u64 last)] 80)] [SlAt 5 g_ ((xs.take k_).filter (partP kn n ow)).length (((xs.take k_).filter (partP kn n ow)).flatMap leaseE), SlAt 5 v_ ((xs.take k_).filter fun (x : Lease) => !(partP kn n ow x)).length (((xs.take k_).filter fun (x : Lease) => !(partP kn n ow x)).flatMap leaseE), SlAt 5 v xs.length (xs.flatMap leaseE)] _ := M
    have e120 : (xs.filter fun (x : Lease) => !(partP kn n ow x)) = ((xs.take k_).filter fun (x : Lease) => !(partP kn n ow x)) := by
      rw [show k_ = xs.length by omega, List.take_length]
    have hf121 := Sh.reList e120 (M.shr' 1 rfl)
    have e122 : xs.filter (partP kn n ow) = (xs.take k_).filter (partP kn n ow) := by
      rw [show k_ = xs.length by omega, List.take_length]
    have hf123 := Sh.reList e122 (M.shr' 0 rfl)
    refine ⟨v_, g_, ?_, M.close [] rfl (by decide) ⟨hf121, hf123, trivial⟩⟩
    rfl

theorem ref_release {G : Nat → Prop} {w : World} (v : Value) (xs : List Lease) (most : Int) (last : Int) (o : Int) (i : Int) (c : Bool)  (hb : xs.length ≤ 1000000) (hu : idsP xs) (M : Mem G (fun _ => False) w [] [SlAt 5 v xs.length (xs.flatMap leaseE)] w) : Rets Try.prog 92 #[(Value.agg #[v, (Value.int .i64 most), (Value.int .u64 last)]), (Value.int .i64 o), (Value.int .u64 i), (Value.bool c)] w fun r w' => ∃ (v' : Value), r = (Value.tuple #[(Value.agg #[v', (Value.int .i64 most), (Value.int .u64 last)]), (Value.int .i64 ((relV xs o i c).2))]) ∧ Mem G (fun _ => False) w [] [SlAt 5 v' ((relV xs o i c).1).length (((relV xs o i c).1).flatMap leaseE)] w' := by
  refine Rets.enter 33 _ Try.func92 rfl Try.ntmps92 Try.results92 (by simp) ?_
  have hle1 := SlAt.le' (M.rep 0 rfl)
  have sl2 : IsSl v := SlAt.isSl (Mem.rep M 0 rfl)
  refine W.seq' ?_
  refine W.region rfl ?_
  refine WL.box (v := (Value.agg #[v, (Value.int .i64 most), (Value.int .u64 last)])) (c := #[v, (Value.int .i64 most), (Value.int .u64 last)]) M rfl rfl rfl (fun b3 w4 hb3 M => ?_)
  refine WL.alloc (c := #[(Value.slice none 0 0), (Value.int .i64 0), (Value.int .u64 0)]) M rfl Try.el80.zero rfl (fun b5 w6 hb5 M => ?_)
  refine WL.step (v := (Value.int .i64 0)) rfl (Step.assign rfl) ?_
  refine WL.nil ?_
  refine W.seq' ?_
  refine W.region rfl ?_
  refine WL.step (v := (Value.agg #[v, (Value.int .i64 most), (Value.int .u64 last)])) rfl (Step.loadN Try.ag80 rfl (M.blk 1 rfl) (Nat.le_of_ble_eq_true rfl) rfl) ?_
  refine WL.step (v := (Value.int .i64 o)) rfl (Step.move rfl) ?_
  refine WL.step (v := (Value.int .u64 i)) rfl (Step.move rfl) ?_
  refine WL.step (v := (Value.bool c)) rfl (Step.move rfl) ?_
  rcases Bool.eq_false_or_eq_true (hasL xs o i c) with h7 | h7
  ·
    refine WL.callX rfl (ref_getw v xs most last o i c h7 (M.enterW0 ⟨(M.wideR0 0 rfl), trivial⟩)) (CallsF.func Try.en90 rfl) ?_
    rintro _ w8 ⟨rfl, m⟩
    replace M := M.leaveW0 m
    clear m
    replace M : Mem _ _ _ [blk b5 (.cells #[(Value.slice none 0 0), (Value.int .i64 0), (Value.int .u64 0)] 80), blk b3 (.cells #[v, (Value.int .i64 most), (Value.int .u64 last)] 80)] [SlAt 5 v xs.length (xs.flatMap leaseE)] _ := M
    refine WL.step (v := (Value.tuple #[(Value.agg #[(Value.int .u64 ((theL xs o i c).id)), (Value.int .i64 ((theL xs o i c).owner)), (Value.int .u64 ((theL xs o i c).epoch)), (Value.int .u64 ((theL xs o i c).till)), (Value.bool ((theL xs o i c).cursor))]), (Value.int .i64 0)])) rfl (Step.move rfl) ?_
    refine WL.step (v := (Value.agg #[(Value.int .u64 ((theL xs o i c).id)), (Value.int .i64 ((theL xs o i c).owner)), (Value.int .u64 ((theL xs o i c).epoch)), (Value.int .u64 ((theL xs o i c).till)), (Value.bool ((theL xs o i c).cursor))])) rfl (Step.pure (by kernel_rfl)) ?_
    refine WL.step (v := (Value.int .i64 0)) rfl (Step.pure (by kernel_rfl)) ?_
    refine WL.alloc (c := #[(Value.int .u64 0), (Value.int .i64 0), (Value.int .u64 0), (Value.int .u64 0), (Value.bool false)]) M rfl Try.el88.zero rfl (fun b9 w10 hb9 M => ?_)
    refine WL.store (v := (Value.agg #[(Value.int .u64 ((theL xs o i c).id)), (Value.int .i64 ((theL xs o i c).owner)), (Value.int .u64 ((theL xs o i c).epoch)), (Value.int .u64 ((theL xs o i c).till)), (Value.bool ((theL xs o i c).cursor))])) (cs := [(Value.int .u64 ((theL xs o i c).id)), (Value.int .i64 ((theL xs o i c).owner)), (Value.int .u64 ((theL xs o i c).epoch)), (Value.int .u64 ((theL xs o i c).till)), (Value.bool ((theL xs o i c).cursor))]) (c' := #[(Value.int .u64 ((theL xs o i c).id)), (Value.int .i64 ((theL xs o i c).owner)), (Value.int .u64 ((theL xs o i c).epoch)), (Value.int .u64 ((theL xs o i c).till)), (Value.bool ((theL xs o i c).cursor))]) M 0 rfl rfl Try.el88.sized rfl rfl rfl rfl (Nat.le_of_ble_eq_true rfl) (cel_cons rfl (cel_cons rfl (cel_cons rfl (cel_cons rfl (cel_cons rfl cel_nil))))) rfl rfl (fun w11 M => ?_)
    refine WL.step (v := (Value.int .i64 0)) rfl (Step.assign rfl) ?_
    refine WL.nil ?_
    refine W.seq' ?_
    refine W.seq' ?_
    refine W.region rfl ?_
    refine WL.step (v := (Value.int .i64 0)) rfl (Step.move rfl) ?_
    refine WL.step (v := (Value.bool false)) rfl (Step.pure (by kernel_rfl)) ?_
    refine WL.nil ?_
    refine W.cond (t := false) rfl (fun h => by cases h) (fun _ => ?_)
    refine W.skip ?_
    refine W.seq' ?_
    refine W.region rfl ?_
    refine WL.step (v := (Value.agg #[v, (Value.int .i64 most), (Value.int .u64 last)])) rfl (Step.loadN Try.ag80 rfl (M.blk 2 rfl) (Nat.le_of_ble_eq_true rfl) rfl) ?_
    refine WL.step (v := (Value.int .u64 i)) rfl (Step.move rfl) ?_
    refine WL.callX rfl (ref_part v xs most last 2 i 0 (by first | omega | assumption | decide | (simp only [List.length_nil, List.length_cons, List.length_take, List.length_drop]; omega)) (M.enter0 ⟨(M.shr' 0 rfl), trivial⟩)) (CallsF.func Try.en94 rfl) ?_
    rintro _ w14 ⟨v12, g13, rfl, m⟩
    replace M := M.leave0 m
    clear m
    replace M : Mem _ _ _ [blk b9 (.cells #[(Value.int .u64 ((theL xs o i c).id)), (Value.int .i64 ((theL xs o i c).owner)), (Value.int .u64 ((theL xs o i c).epoch)), (Value.int .u64 ((theL xs o i c).till)), (Value.bool ((theL xs o i c).cursor))] 88), blk b5 (.cells #[(Value.slice none 0 0), (Value.int .i64 0), (Value.int .u64 0)] 80), blk b3 (.cells #[v, (Value.int .i64 most), (Value.int .u64 last)] 80)] [SlAt 5 v12 (xs.filter fun (x : Lease) => !(partP 2 i 0 x)).length ((xs.filter fun (x : Lease) => !(partP 2 i 0 x)).flatMap leaseE), SlAt 5 g13 (xs.filter (partP 2 i 0)).length ((xs.filter (partP 2 i 0)).flatMap leaseE), SlAt 5 v xs.length (xs.flatMap leaseE)] _ := M
    have sl15 : IsSl v12 := SlAt.isSl (Mem.rep M 0 rfl)
    have sl16 : IsSl g13 := SlAt.isSl (Mem.rep M 1 rfl)
    have hle17 := SlAt.le' (M.rep 0 rfl)
    have hle18 := SlAt.le' (M.rep 1 rfl)
    refine WL.step (v := (Value.tuple #[(Value.agg #[v12, (Value.int .i64 most), (Value.int .u64 last)]), g13])) rfl (Step.move rfl) ?_
    refine WL.step (v := (Value.agg #[v12, (Value.int .i64 most), (Value.int .u64 last)])) rfl (Step.pure (by kernel_rfl)) ?_
    refine WL.step (v := g13) rfl (Step.pure (by kernel_rfl)) ?_
    refine WL.alloc (c := #[(Value.slice none 0 0), (Value.int .i64 0), (Value.int .u64 0)]) M rfl Try.el80.zero rfl (fun b19 w20 hb19 M => ?_)
    refine WL.store (v := (Value.agg #[v12, (Value.int .i64 most), (Value.int .u64 last)])) (cs := [v12, (Value.int .i64 most), (Value.int .u64 last)]) (c' := #[v12, (Value.int .i64 most), (Value.int .u64 last)]) M 0 rfl rfl Try.el80.sized rfl rfl rfl rfl (Nat.le_of_ble_eq_true rfl) (cel_cons (IsSl.cel sl15) (cel_cons rfl (cel_cons rfl cel_nil))) rfl rfl (fun w21 M => ?_)
    refine WL.step (v := g13) rfl (Step.assign rfl) ?_
    refine WL.nil ?_
    refine W.seq' ?_
    refine W.region rfl ?_
    refine WL.step (v := (Value.agg #[v12, (Value.int .i64 most), (Value.int .u64 last)])) rfl (Step.loadN Try.ag80 rfl (M.blk 0 rfl) (Nat.le_of_ble_eq_true rfl) rfl) ?_
    refine WL.store (v := (Value.agg #[v12, (Value.int .i64 most), (Value.int .u64 last)])) (cs := [v12, (Value.int .i64 most), (Value.int .u64 last)]) (c' := #[v12, (Value.int .i64 most), (Value.int .u64 last)]) M 2 rfl rfl Try.el80.sized rfl rfl rfl rfl (Nat.le_of_ble_eq_true rfl) (cel_cons (IsSl.cel sl15) (cel_cons rfl (cel_cons rfl cel_nil))) rfl rfl (fun w22 M => ?_)
    refine WL.step (v := (Value.int .i64 0)) rfl (Step.assign rfl) ?_
    refine WL.nil ?_
    refine W.ret ?_
    refine ⟨.inl rfl, (Value.tuple #[(Value.agg #[v12, (Value.int .i64 most), (Value.int .u64 last)]), (Value.int .i64 0)]), ?_, ?_⟩
    · exact ⟨rfl, (Res.r2 (RV.cellN Try.ag80 rfl (M.blk 2 rfl) rfl) (show RV _ _ _ (.tmp 9) (Value.int .i64 0) from by exact rfl))⟩
    have e23 : (relV xs o i c).1 = (xs.filter fun (x : Lease) => !(partP 2 i 0 x)) := by
      first | (simp [relV, leaseZ, noE, h7]; done) | (simp only [relV, if_true, h7]; exact (rel_eq hu h7).symm)
    have hf24 := Sh.reList e23 (M.shr' 0 rfl)
    refine ⟨v12, ?_, M.close [] rfl (by decide) ⟨hf24, trivial⟩⟩
    first | (simp [relV, leaseZ, noE, h7]; done) | (simp only [relV, if_true, h7]; exact (rel_eq hu h7).symm)
  ·
    refine WL.callX rfl (ref_getnow v xs most last o i c h7 (M.enterW0 ⟨(M.wideR0 0 rfl), trivial⟩)) (CallsF.func Try.en90 rfl) ?_
    rintro _ w25 ⟨rfl, m⟩
    replace M := M.leaveW0 m
    clear m
    replace M : Mem _ _ _ [blk b5 (.cells #[(Value.slice none 0 0), (Value.int .i64 0), (Value.int .u64 0)] 80), blk b3 (.cells #[v, (Value.int .i64 most), (Value.int .u64 last)] 80)] [SlAt 5 v xs.length (xs.flatMap leaseE)] _ := M
    refine WL.step (v := (Value.tuple #[(Value.agg #[(Value.int .u64 leaseZ.id), (Value.int .i64 leaseZ.owner), (Value.int .u64 leaseZ.epoch), (Value.int .u64 leaseZ.till), (Value.bool leaseZ.cursor)]), (Value.int .i64 (noE c))])) rfl (Step.move rfl) ?_
    refine WL.step (v := (Value.agg #[(Value.int .u64 leaseZ.id), (Value.int .i64 leaseZ.owner), (Value.int .u64 leaseZ.epoch), (Value.int .u64 leaseZ.till), (Value.bool leaseZ.cursor)])) rfl (Step.pure (by kernel_rfl)) ?_
    refine WL.step (v := (Value.int .i64 (noE c))) rfl (Step.pure (by kernel_rfl)) ?_
    refine WL.alloc (c := #[(Value.int .u64 0), (Value.int .i64 0), (Value.int .u64 0), (Value.int .u64 0), (Value.bool false)]) M rfl Try.el88.zero rfl (fun b26 w27 hb26 M => ?_)
    refine WL.store (v := (Value.agg #[(Value.int .u64 leaseZ.id), (Value.int .i64 leaseZ.owner), (Value.int .u64 leaseZ.epoch), (Value.int .u64 leaseZ.till), (Value.bool leaseZ.cursor)])) (cs := [(Value.int .u64 leaseZ.id), (Value.int .i64 leaseZ.owner), (Value.int .u64 leaseZ.epoch), (Value.int .u64 leaseZ.till), (Value.bool leaseZ.cursor)]) (c' := #[(Value.int .u64 leaseZ.id), (Value.int .i64 leaseZ.owner), (Value.int .u64 leaseZ.epoch), (Value.int .u64 leaseZ.till), (Value.bool leaseZ.cursor)]) M 0 rfl rfl Try.el88.sized rfl rfl rfl rfl (Nat.le_of_ble_eq_true rfl) (cel_cons rfl (cel_cons rfl (cel_cons rfl (cel_cons rfl (cel_cons rfl cel_nil))))) rfl rfl (fun w28 M => ?_)
    refine WL.step (v := (Value.int .i64 (noE c))) rfl (Step.assign rfl) ?_
    refine WL.nil ?_
    refine W.seq' ?_
    refine W.seq' ?_
    refine W.region rfl ?_
    refine WL.step (v := (Value.int .i64 (noE c))) rfl (Step.move rfl) ?_
    refine WL.step (v := (Value.bool true)) rfl (Step.cast (congrArg Value.bool (show ((noE c : Int) != (0 : Int)) = true by unfold noE; split <;> rfl)) (Step.pure (by kernel_rfl))) ?_
    refine WL.nil ?_
    refine W.cond (t := true) rfl (fun _ => ?_) (fun h => by cases h)
    refine W.seq' ?_
    refine W.region rfl ?_
    refine WL.step (v := (Value.agg #[v, (Value.int .i64 most), (Value.int .u64 last)])) rfl (Step.loadN Try.ag80 rfl (M.blk 2 rfl) (Nat.le_of_ble_eq_true rfl) rfl) ?_
    refine WL.step (v := (Value.int .i64 (noE c))) rfl (Step.move rfl) ?_
    refine WL.store (v := (Value.agg #[v, (Value.int .i64 most), (Value.int .u64 last)])) (cs := [v, (Value.int .i64 most), (Value.int .u64 last)]) (c' := #[v, (Value.int .i64 most), (Value.int .u64 last)]) M 1 rfl rfl Try.el80.sized rfl rfl rfl rfl (Nat.le_of_ble_eq_true rfl) (cel_cons (IsSl.cel sl2) (cel_cons rfl (cel_cons rfl cel_nil))) rfl rfl (fun w29 M => ?_)
    refine WL.step (v := (Value.int .i64 (noE c))) rfl (Step.assign rfl) ?_
    refine WL.nil ?_
    refine W.ret ?_
    refine ⟨.inl rfl, (Value.tuple #[(Value.agg #[v, (Value.int .i64 most), (Value.int .u64 last)]), (Value.int .i64 (noE c))]), ?_, ?_⟩
    · exact ⟨rfl, (Res.r2 (RV.cellN Try.ag80 rfl (M.blk 1 rfl) rfl) (show RV _ _ _ (.tmp 9) (Value.int .i64 (noE c)) from by exact rfl))⟩
    have e30 : (relV xs o i c).1 = xs := by
      first | (simp [relV, leaseZ, noE, h7]; done) | (simp only [relV, if_true, h7]; exact (rel_eq hu h7).symm)
    have hf31 := Sh.reList e30 (M.shr' 0 rfl)
    refine ⟨v, ?_, M.close [] rfl (by decide) ⟨hf31, trivial⟩⟩
    first | (simp [relV, leaseZ, noE, h7]; done) | (simp only [relV, if_true, h7]; exact (rel_eq hu h7).symm)

theorem ref_least {G : Nat → Prop} {w : World} (v : Value) (xs : List Lease) (most : Int) (last : Int)   (M : Mem G (fun _ => False) w [] [SlAt 5 v xs.length (xs.flatMap leaseE)] w) : Rets Try.prog 101 #[(Value.agg #[v, (Value.int .i64 most), (Value.int .u64 last)])] w fun r w' => r = (Value.tuple #[(Value.int .u64 ((leastV xs).1)), (Value.bool ((leastV xs).2))]) ∧ Mem G (fun _ => False) w [] [] w' := by
  refine Rets.enter 36 _ Try.func101 rfl Try.ntmps101 Try.results101 (by simp) ?_
  have hle1 := SlAt.le' (M.rep 0 rfl)
  have sl2 : IsSl v := SlAt.isSl (Mem.rep M 0 rfl)
  refine W.seq' ?_
  refine W.region rfl ?_
  refine WL.box (v := (Value.agg #[v, (Value.int .i64 most), (Value.int .u64 last)])) (c := #[v, (Value.int .i64 most), (Value.int .u64 last)]) M rfl rfl rfl (fun b3 w4 hb3 M => ?_)
  refine WL.step (v := (Value.int .u64 0)) rfl (Step.assign rfl) ?_
  refine WL.step (v := (Value.bool false)) rfl (Step.assign rfl) ?_
  refine WL.nil ?_
  refine W.seq' ?_
  refine W.region rfl ?_
  refine WL.step (v := (Value.int .u64 0)) rfl (Step.assign rfl) ?_
  refine WL.nil ?_
  refine W.seq' ?_
  refine W.seq' ?_
  refine W.region rfl ?_
  refine WL.step (v := (Value.int .i64 0)) rfl (Step.assign rfl) ?_
  refine WL.nil ?_
  refine W.block ?_
  refine W.loop (fun kk ρ w' => ∃ (k_ : Nat) (b_ : Int), ((k_ ≤ xs.length) ∧ (b_ = (leastV (xs.take k_)).1) ∧ kk = xs.length - k_) ∧ ρ.has [(1, (Value.pointer (some ⟨b3, 0, none⟩))), (2, (Value.int .u64 0)), (3, (Value.bool false)), (4, (Value.int .u64 b_)), (5, (Value.int .i64 ↑k_))] ∧ Mem G (fun _ => False) w [blk b3 (.cells #[v, (Value.int .i64 most), (Value.int .u64 last)] 80)] [SlAt 5 v xs.length (xs.flatMap leaseE)]  w') _ ⟨0, 0, ⟨(Nat.zero_le _), rfl, rfl⟩, ⟨rfl, rfl, rfl, rfl, rfl, rfl, rfl⟩, M⟩ ?_
  rintro _ ρ6 w5 ⟨k_, b_, ⟨hi7, hi8, rfl⟩, hρ, M⟩
  obtain ⟨ρ6, rfl⟩ := hρ.know
  clear hρ
  refine W.seq' ?_
  refine W.seq' ?_
  refine W.region rfl ?_
  refine WL.step (v := (Value.int .i64 ↑k_)) rfl (Step.move rfl) ?_
  refine WL.step (v := (Value.pointer (some ⟨b3, 0, none⟩))) rfl (Step.pure (by kernel_rfl)) ?_
  refine WL.step (v := v) rfl (Step.load1 Try.sc78 rfl ((M.cell 0 rfl 0).trans rfl)) ?_
  refine WL.step (v := (Value.int .i64 ↑xs.length)) rfl (Step.lenSl Try.un78 rfl (M.rep 0 rfl)) ?_
  refine WL.step (v := (Value.bool (decide ((↑k_ : Int) < (↑xs.length : Int))))) rfl (Step.pure (by kernel_rfl)) ?_
  refine WL.nil ?_
  refine W.cond (t := decide ((↑k_ : Int) < (↑xs.length : Int))) rfl (fun h9 => ?_) (fun h9 => ?_)
  ·
    have h9p := of_decide_eq_true h9
    refine W.skip ?_
    refine W.seq' ?_
    refine W.block ?_
    refine W.seq' ?_
    refine W.region rfl ?_
    refine WL.step (v := (Value.int .i64 ↑k_)) rfl (Step.move rfl) ?_
    refine WL.step (v := (Value.bool ((↑k_ : Int) == (0 : Int)))) rfl (Step.pure (by kernel_rfl)) ?_
    refine WL.step (v := (Value.bool ((↑k_ : Int) == (0 : Int)))) rfl (Step.move rfl) ?_
    rcases Bool.eq_false_or_eq_true ((↑k_ : Int) == (0 : Int)) with h10 | h10
    ·
      have h10p : (↑k_ : Int) = (0 : Int) := by simpa using h10
      rw [h10]
      refine WL.pass rfl ?_
      refine WL.pass rfl ?_
      refine WL.pass rfl ?_
      refine WL.pass rfl ?_
      refine WL.pass rfl ?_
      refine WL.pass rfl ?_
      refine WL.pass rfl ?_
      refine WL.pass rfl ?_
      refine WL.step (v := (Value.bool true)) rfl (Step.pick (t := true) rfl rfl) ?_
      refine WL.nil ?_
      refine W.cond (t := true) rfl (fun _ => ?_) (fun h => by cases h)
      refine W.region rfl ?_
      refine WL.step (v := (Value.pointer (some ⟨b3, 0, none⟩))) rfl (Step.pure (by kernel_rfl)) ?_
      refine WL.step (v := v) rfl (Step.load1 Try.sc78 rfl ((M.cell 0 rfl 0).trans rfl)) ?_
      refine WL.step (v := (Value.int .i64 ↑k_)) rfl (Step.move rfl) ?_
      obtain ⟨cap12, hb11⟩ := SlAt.base (M.rep 0 rfl) (by omega)
      obtain ⟨x13, hx13⟩ := elem_of_lt (xs := xs) (i := k_) (by omega)
      refine WL.step (v := (Value.pointer (some ⟨(sBlk v), sOff v + k_ * 5, none⟩))) rfl (Step.indexAddr (i := k_) (Try.un78).run Try.el88.sized rfl rfl (by omega) hb11 (by omega)) ?_
      refine WL.step (v := (Value.pointer (some ⟨(sBlk v), sOff v + k_ * 5 + 2, none⟩))) rfl (Step.pure (by kernel_rfl)) ?_
      refine WL.step (v := (Value.int .u64 x13.epoch)) rfl (Step.loadE (k := 2) Try.sc23 (flat_ec (M.rep 0 rfl) hx13 leaseE_len) (by decide) rfl rfl) ?_
      refine WL.step (v := (Value.int .u64 x13.epoch)) rfl (Step.assign rfl) ?_
      refine WL.nil ?_
      refine W.region rfl ?_
      refine WL.step (v := (Value.int .i64 ↑k_)) rfl (Step.move rfl) ?_
      refine WL.step (v := (Value.int .i64 (↑k_ + 1))) rfl (Step.add rfl rfl (wrap_i64 (by omega))) ?_
      refine WL.step (v := (Value.int .i64 (↑k_ + 1))) rfl (Step.assign rfl) ?_
      refine WL.nil ?_
      exact ⟨_, (by omega), k_ + 1, x13.epoch, ⟨(by omega), (least_first hi8 hx13 (by omega)), rfl⟩, ⟨rfl, rfl, rfl, rfl, rfl, rfl, rfl⟩, M⟩
    ·
      have h10p : ¬ (↑k_ : Int) = (0 : Int) := by simpa using h10
      rw [h10]
      refine WL.step (v := (Value.pointer (some ⟨b3, 0, none⟩))) rfl (Step.pure (by kernel_rfl)) ?_
      refine WL.step (v := v) rfl (Step.load1 Try.sc78 rfl ((M.cell 0 rfl 0).trans rfl)) ?_
      refine WL.step (v := (Value.int .i64 ↑k_)) rfl (Step.move rfl) ?_
      obtain ⟨cap15, hb14⟩ := SlAt.base (M.rep 0 rfl) (by omega)
      obtain ⟨x16, hx16⟩ := elem_of_lt (xs := xs) (i := k_) (by omega)
      refine WL.step (v := (Value.pointer (some ⟨(sBlk v), sOff v + k_ * 5, none⟩))) rfl (Step.indexAddr (i := k_) (Try.un78).run Try.el88.sized rfl rfl (by omega) hb14 (by omega)) ?_
      refine WL.step (v := (Value.pointer (some ⟨(sBlk v), sOff v + k_ * 5 + 2, none⟩))) rfl (Step.pure (by kernel_rfl)) ?_
      refine WL.step (v := (Value.int .u64 x16.epoch)) rfl (Step.loadE (k := 2) Try.sc23 (flat_ec (M.rep 0 rfl) hx16 leaseE_len) (by decide) rfl rfl) ?_
      refine WL.step (v := (Value.int .u64 b_)) rfl (Step.move rfl) ?_
      refine WL.step (v := (Value.bool (decide ((x16.epoch : Int) < (b_ : Int))))) rfl (Step.pure (by kernel_rfl)) ?_
      refine WL.step (v := (Value.bool (decide ((x16.epoch : Int) < (b_ : Int))))) rfl (Step.pick (t := false) rfl rfl) ?_
      refine WL.nil ?_
      refine W.cond (t := decide ((x16.epoch : Int) < (b_ : Int))) rfl (fun h17 => ?_) (fun h17 => ?_)
      ·
        have h17p := of_decide_eq_true h17
        refine W.region rfl ?_
        refine WL.step (v := (Value.pointer (some ⟨b3, 0, none⟩))) rfl (Step.pure (by kernel_rfl)) ?_
        refine WL.step (v := v) rfl (Step.load1 Try.sc78 rfl ((M.cell 0 rfl 0).trans rfl)) ?_
        refine WL.step (v := (Value.int .i64 ↑k_)) rfl (Step.move rfl) ?_
        refine WL.step (v := (Value.pointer (some ⟨(sBlk v), sOff v + k_ * 5, none⟩))) rfl (Step.indexAddr (i := k_) (Try.un78).run Try.el88.sized rfl rfl (by omega) hb14 (by omega)) ?_
        refine WL.step (v := (Value.pointer (some ⟨(sBlk v), sOff v + k_ * 5 + 2, none⟩))) rfl (Step.pure (by kernel_rfl)) ?_
        refine WL.step (v := (Value.int .u64 x16.epoch)) rfl (Step.loadE (k := 2) Try.sc23 (flat_ec (M.rep 0 rfl) hx16 leaseE_len) (by decide) rfl rfl) ?_
        refine WL.step (v := (Value.int .u64 x16.epoch)) rfl (Step.assign rfl) ?_
        refine WL.nil ?_
        refine W.region rfl ?_
        refine WL.step (v := (Value.int .i64 ↑k_)) rfl (Step.move rfl) ?_
        refine WL.step (v := (Value.int .i64 (↑k_ + 1))) rfl (Step.add rfl rfl (wrap_i64 (by omega))) ?_
        refine WL.step (v := (Value.int .i64 (↑k_ + 1))) rfl (Step.assign rfl) ?_
        refine WL.nil ?_
        exact ⟨_, (by omega), k_ + 1, x16.epoch, ⟨(by omega), (least_less hi8 hx16 (by omega) (by omega)), rfl⟩, ⟨rfl, rfl, rfl, rfl, rfl, rfl, rfl⟩, M⟩
      ·
        have h17p := of_decide_eq_false h17
        refine W.skip ?_
        refine W.region rfl ?_
        refine WL.step (v := (Value.int .i64 ↑k_)) rfl (Step.move rfl) ?_
        refine WL.step (v := (Value.int .i64 (↑k_ + 1))) rfl (Step.add rfl rfl (wrap_i64 (by omega))) ?_
        refine WL.step (v := (Value.int .i64 (↑k_ + 1))) rfl (Step.assign rfl) ?_
        refine WL.nil ?_
        exact ⟨_, (by omega), k_ + 1, b_, ⟨(by omega), (least_more hi8 hx16 (by omega) (by omega)), rfl⟩, ⟨rfl, rfl, rfl, rfl, rfl, rfl, rfl⟩, M⟩
  ·
    have h9p := of_decide_eq_false h9
    refine W.exit ?_
    refine thn_exit ?_
    refine thn_exit ?_
    refine inBlk_hit ?_
    refine W.seq' ?_
    refine W.drawn M [0, 1, 2, 3, 4, 5, 6] [] [] [blk b3 (.cells #[v, (Value.int .i64 most), (Value.int .u64 last)] 80)] [SlAt 5 v xs.length (xs.flatMap leaseE)] (List.Sublist.cons_cons _ List.Sublist.slnil) (fun _ h => h) Try.mixed (by kernel_rfl) ?_
    refine TW.pure (v := (Value.int .u64 b_)) rfl (by decide) (by decide) rfl (fun w => (Step.move rfl)) ?_
    refine TW.pure (v := (Value.pointer (some ⟨b3, 0, none⟩))) rfl (by decide) (by decide) rfl (fun w => (Step.pure (by kernel_rfl))) ?_
    refine TW.read (v := v) rfl (by decide) (by decide) rfl (fun A w M => (Step.load1 Try.sc78 rfl ((M.cell 1 rfl 0).trans rfl))) ?_
    refine TW.read (v := (Value.int .i64 ↑xs.length)) rfl (by decide) (by decide) rfl (fun A w M => (Step.lenSl Try.un78 rfl (M.rep 0 rfl))) ?_
    refine TW.pure (v := (Value.bool (decide ((↑xs.length : Int) > (0 : Int))))) rfl (by decide) (by decide) rfl (fun w => (Step.pure (by kernel_rfl))) ?_
    refine TW.pure (v := (Value.int .u64 b_)) rfl (by decide) (by decide) rfl (fun w => (Step.assign rfl)) ?_
    refine TW.pure (v := (Value.bool (decide ((↑xs.length : Int) > (0 : Int))))) rfl (by decide) (by decide) rfl (fun w => (Step.assign rfl)) ?_
    refine TW.done (fun w18 M => ?_)
    refine W.ret ?_
    refine ⟨.inl rfl, (Value.tuple #[(Value.int .u64 b_), (Value.bool (decide ((↑xs.length : Int) > (0 : Int))))]), ?_, ?_⟩
    · exact ⟨rfl, (Res.r2 (show RV _ _ _ (.tmp 2) (Value.int .u64 b_) from by exact rfl) (show RV _ _ _ (.tmp 3) (Value.bool (decide ((↑xs.length : Int) > (0 : Int)))) from by exact rfl))⟩
    refine ⟨?_, M.close [] rfl (by decide) trivial⟩
    have hkk : k_ = xs.length := by omega
    rw [hi8, hkk, List.take_length]
    refine congrArg (fun b => Value.tuple #[_, Value.bool b]) ?_
    exact leastV_snd.symm
end Go.Proofs
