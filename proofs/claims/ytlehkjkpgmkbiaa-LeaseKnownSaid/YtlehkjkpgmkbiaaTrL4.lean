/- Walks. -/
import Derived.Test.YtlehkjkpgmkbiaaTrL3
set_option maxRecDepth 100000
set_option linter.all false
namespace Go.Proofs
open Go Tp
theorem Try.el23 : Elem Try.prog 23 (Value.int .u64 0) 1 8 := Elem.mk (by kernel_rfl)
theorem Try.el100 : Elem Try.prog 100 (Value.slice none 0 0) 1 24 := Elem.mk (by kernel_rfl)
theorem Try.en102 : Enters Try.prog 102 := fun _ _ => by kernel_rfl

theorem le_renew {G X : Nat → Prop} {w : World} (lb : Nat) (v : Value) (xs : List Lease) (most : Int) (last : Int) (o : Int) (i : Int) (u : Int) (c : Bool)   (M : Mem G X w [blk lb (.cells #[v, (Value.int .i64 most), (Value.int .u64 last)] 147), own 85 5 v xs.length (xs.flatMap leaseE)] [] w) : Rets Try.prog 52 #[(Value.pointer (some ⟨lb, 0, none⟩)), (Value.int .i64 o), (Value.int .u64 i), (Value.int .u64 u), (Value.bool c)] w fun r w' => ∃ (v' : Value), r = (Value.tuple #[(Value.agg #[(Value.int .u64 (((renewV xs o i u c).2.1).id)), (Value.int .i64 (((renewV xs o i u c).2.1).owner)), (Value.int .u64 (((renewV xs o i u c).2.1).epoch)), (Value.int .u64 (((renewV xs o i u c).2.1).till)), (Value.bool (((renewV xs o i u c).2.1).cursor))]), (Value.int .i64 ((renewV xs o i u c).2.2))]) ∧ Mem G X w [blk lb (.cells #[v', (Value.int .i64 most), (Value.int .u64 last)] 147), own 85 5 v' (((renewV xs o i u c).1).length) (((renewV xs o i u c).1).flatMap leaseE)] [] w' := by
  refine Rets.enter 50 _ Try.func52 rfl Try.ntmps52 Try.results52 (by simp) ?_
  have sl1 : IsSl v := SlAt.isSl (own_slAt (Mem.chunk M 1 rfl).inv)
  have hle2 := SlAt.le' (own_slAt (Mem.chunk M 1 rfl).inv)
  refine W.seq' ?_
  refine W.region rfl ?_
  refine WL.alloc (c := #[(Value.int .u64 0), (Value.int .i64 0), (Value.int .u64 0), (Value.int .u64 0), (Value.bool false)]) M rfl Try.el85.zero rfl (fun b3 w4 hb3 M => ?_)
  refine WL.step (v := (Value.int .i64 0)) rfl (Step.assign rfl) ?_
  refine WL.nil ?_
  refine W.seq' ?_
  refine W.region rfl ?_
  refine WL.step (v := (Value.pointer (some ⟨lb, 0, none⟩))) rfl (Step.move rfl) ?_
  refine WL.step (v := (Value.int .i64 o)) rfl (Step.move rfl) ?_
  refine WL.step (v := (Value.int .u64 i)) rfl (Step.move rfl) ?_
  refine WL.step (v := (Value.bool c)) rfl (Step.move rfl) ?_
  rcases Bool.eq_false_or_eq_true (hasL xs o i c) with h5 | h5
  ·
    refine WL.callX rfl (le_find lb v xs most last o i c h5 (M.enterW0 ⟨(M.wideC0 1 rfl), ((M.wideC0 2 rfl).imp fun _ h => own_slAt h), trivial⟩)) (CallsF.func Try.en97 rfl) ?_
    rintro _ w6 ⟨rfl, m⟩
    replace M := M.leaveW0 m
    clear m
    replace M : Mem _ _ _ [blk b3 (.cells #[(Value.int .u64 0), (Value.int .i64 0), (Value.int .u64 0), (Value.int .u64 0), (Value.bool false)] 85), blk lb (.cells #[v, (Value.int .i64 most), (Value.int .u64 last)] 147), own 85 5 v xs.length (xs.flatMap leaseE)] [] _ := M
    have hlt_ := atL_lt (show hasL xs o i c = true by assumption)
    refine WL.step (v := (Value.tuple #[(Value.int .i64 (↑(atL xs o i c))), (Value.int .i64 0)])) rfl (Step.move rfl) ?_
    refine WL.step (v := (Value.int .i64 (↑(atL xs o i c)))) rfl (Step.pure (by kernel_rfl)) ?_
    refine WL.step (v := (Value.int .i64 0)) rfl (Step.pure (by kernel_rfl)) ?_
    refine WL.step (v := (Value.int .i64 (↑(atL xs o i c)))) rfl (Step.assign rfl) ?_
    refine WL.step (v := (Value.int .i64 0)) rfl (Step.assign rfl) ?_
    refine WL.nil ?_
    refine W.seq' ?_
    refine W.seq' ?_
    refine W.region rfl ?_
    refine WL.step (v := (Value.int .i64 0)) rfl (Step.move rfl) ?_
    refine WL.step (v := (Value.bool false)) rfl (Step.pure (by kernel_rfl)) ?_
    refine WL.nil ?_
    refine W.cond (t := false) rfl (fun h => by cases h) (fun _ => ?_)
    refine W.skip ?_
    refine W.seq' ?_
    obtain ⟨cap8, hb7⟩ := SlAt.base (own_slAt (M.chunk 2 rfl).inv) (by omega)
    obtain ⟨x9, hx9⟩ := elem_of_lt (xs := xs) (i := atL xs o i c) (by omega)
    have hthe_ := theL_eq hx9
    obtain ⟨pre10, post11, hcs12, hpre13, hback14⟩ := flat_open leaseE_len hx9
    replace M := M.rechunk 2 (c' := own 85 5 v xs.length (pre10 ++ ([(Value.int .u64 x9.id), (Value.int .i64 x9.owner), (Value.int .u64 x9.epoch), (Value.int .u64 x9.till), (Value.bool x9.cursor)] ++ post11))) rfl (by rw [hcs12]; rfl)
    replace M : Mem _ _ _ [blk b3 (.cells #[(Value.int .u64 0), (Value.int .i64 0), (Value.int .u64 0), (Value.int .u64 0), (Value.bool false)] 85), blk lb (.cells #[v, (Value.int .i64 most), (Value.int .u64 last)] 147), own 85 5 v xs.length (pre10 ++ ([(Value.int .u64 x9.id), (Value.int .i64 x9.owner), (Value.int .u64 x9.epoch), (Value.int .u64 x9.till), (Value.bool x9.cursor)] ++ post11))] [] _ := M
    refine W.drawn M [0, 1, 2, 3, 4, 5, 6, 7, 8, 9, 10, 11, 12, 13, 14, 15, 16, 17] [12, 17] [] [blk b3 (.cells #[(Value.int .u64 0), (Value.int .i64 0), (Value.int .u64 0), (Value.int .u64 0), (Value.bool false)] 85), blk lb (.cells #[v, (Value.int .i64 most), (Value.int .u64 last)] 147)] [] (List.Sublist.cons_cons _ (List.Sublist.cons_cons _ (List.Sublist.cons _ List.Sublist.slnil))) (fun _ h => h) Try.mixed (by kernel_rfl) ?_
    refine TW.pure (v := (Value.pointer (some ⟨lb, 0, none⟩))) rfl (by decide) (by decide) rfl (fun w => (Step.move rfl)) ?_
    refine TW.pure (v := (Value.pointer (some ⟨lb, 0, none⟩))) rfl (by decide) (by decide) rfl (fun w => (Step.pure (by kernel_rfl))) ?_
    refine TW.pure (v := (Value.pointer (some ⟨lb, 0, none⟩))) rfl (by decide) (by decide) rfl (fun w => (Step.pure (by kernel_rfl))) ?_
    refine TW.read (v := v) rfl (by decide) (by decide) rfl (fun A w M => (Step.load1 Try.sc100 rfl ((M.cell 2 rfl 0).trans rfl))) ?_
    refine TW.pure (v := (Value.int .i64 (↑(atL xs o i c)))) rfl (by decide) (by decide) rfl (fun w => (Step.move rfl)) ?_
    refine TW.pure (v := (Value.pointer (some ⟨lb, 0, none⟩))) rfl (by decide) (by decide) rfl (fun w => (Step.move rfl)) ?_
    refine TW.pure (v := (Value.pointer (some ⟨lb, 0, none⟩))) rfl (by decide) (by decide) rfl (fun w => (Step.pure (by kernel_rfl))) ?_
    refine TW.pure (v := (Value.pointer (some ⟨lb, 0, none⟩))) rfl (by decide) (by decide) rfl (fun w => (Step.pure (by kernel_rfl))) ?_
    refine TW.read (v := v) rfl (by decide) (by decide) rfl (fun A w M => (Step.load1 Try.sc100 rfl ((M.cell 2 rfl 0).trans rfl))) ?_
    refine TW.pure (v := (Value.int .i64 (↑(atL xs o i c)))) rfl (by decide) (by decide) rfl (fun w => (Step.move rfl)) ?_
    refine TW.pure (v := (Value.pointer (some ⟨(sBlk v), sOff v + (atL xs o i c) * 5, none⟩))) rfl (by decide) (by decide) rfl (fun w => (Step.indexAddr (i := atL xs o i c) (Try.un100).run Try.el85.sized rfl rfl (by omega) hb7 (by omega))) ?_
    refine TW.pure (v := (Value.pointer (some ⟨(sBlk v), sOff v + (atL xs o i c) * 5 + 3, none⟩))) rfl (by decide) (by decide) rfl (fun w => (Step.pure (by kernel_rfl))) ?_
    refine TW.readL (v := (Value.int .u64 x9.till)) rfl (by decide) rfl (List.Sublist.cons_cons _ (List.Sublist.cons_cons _ (List.Sublist.cons _ List.Sublist.slnil))) (fun r h => h) (fun A w M => (Step.loadE (k := 3) Try.sc23 (ec_open (own_slAt (M.chunk 3 rfl).inv) hpre13 rfl (by first | omega | (simp only [List.length_set, List.length_append, List.length_cons, List.length_nil]; omega))) (by decide) rfl rfl)) ?_
    refine TW.pure (v := (Value.int .u64 u)) rfl (by decide) (by decide) rfl (fun w => (Step.move rfl)) ?_
    refine TW.pure (v := (Value.int .u64 (max (x9.till : Int) (u : Int)))) rfl (by decide) (by decide) rfl (fun w => (Step.maxI rfl rfl)) ?_
    refine TW.pure (v := (Value.pointer (some ⟨(sBlk v), sOff v + (atL xs o i c) * 5, none⟩))) rfl (by decide) (by decide) rfl (fun w => (Step.indexAddr (i := atL xs o i c) (Try.un100).run Try.el85.sized rfl rfl (by omega) hb7 (by omega))) ?_
    refine TW.pure (v := (Value.pointer (some ⟨(sBlk v), sOff v + (atL xs o i c) * 5 + 3, none⟩))) rfl (by decide) (by decide) rfl (fun w => (Step.pure (by kernel_rfl))) ?_
    refine TW.act (c' := own 85 5 v xs.length (pre10 ++ ([(Value.int .u64 x9.id), (Value.int .i64 x9.owner), (Value.int .u64 x9.epoch), (Value.int .u64 (max (x9.till : Int) (u : Int))), (Value.bool x9.cursor)] ++ post11))) 2 rfl rfl (by decide) rfl (List.Sublist.cons_cons _ (List.Sublist.cons_cons _ (List.Sublist.cons _ List.Sublist.slnil))) (fun r h => h) (fun A w M => M.storeAt (cells := [(Value.int .u64 x9.id), (Value.int .i64 x9.owner), (Value.int .u64 x9.epoch), (Value.int .u64 x9.till), (Value.bool x9.cursor)]) (cells' := [(Value.int .u64 x9.id), (Value.int .i64 x9.owner), (Value.int .u64 x9.epoch), (Value.int .u64 (max (x9.till : Int) (u : Int))), (Value.bool x9.cursor)]) (new := [(Value.int .u64 (max (x9.till : Int) (u : Int)))]) (k := 3) 3 rfl hpre13 Try.el23.sized rfl rfl rfl (cel_cons rfl cel_nil) (by first | omega | (simp only [List.length_set, List.length_append, List.length_cons, List.length_nil]; omega)) (Nat.le_of_ble_eq_true rfl) rfl rfl) ?_
    refine TW.done (fun w15 M => ?_)
    refine W.seq' ?_
    refine W.region rfl ?_
    refine WL.step (v := (Value.pointer (some ⟨lb, 0, none⟩))) rfl (Step.move rfl) ?_
    refine WL.step (v := (Value.pointer (some ⟨lb, 0, none⟩))) rfl (Step.pure (by kernel_rfl)) ?_
    refine WL.step (v := (Value.pointer (some ⟨lb, 0, none⟩))) rfl (Step.pure (by kernel_rfl)) ?_
    refine WL.step (v := v) rfl (Step.load1 Try.sc100 rfl ((M.cell 1 rfl 0).trans rfl)) ?_
    refine WL.step (v := (Value.int .i64 (↑(atL xs o i c)))) rfl (Step.move rfl) ?_
    refine WL.step (v := (Value.pointer (some ⟨(sBlk v), sOff v + (atL xs o i c) * 5, none⟩))) rfl (Step.indexAddr (i := atL xs o i c) (Try.un100).run Try.el85.sized rfl rfl (by omega) hb7 (by omega)) ?_
    refine WL.step (v := (Value.agg #[(Value.int .u64 x9.id), (Value.int .i64 x9.owner), (Value.int .u64 x9.epoch), (Value.int .u64 (max (x9.till : Int) (u : Int))), (Value.bool x9.cursor)])) rfl (Step.loadEN (k := 0) (cs' := [(Value.int .u64 x9.id), (Value.int .i64 x9.owner), (Value.int .u64 x9.epoch), (Value.int .u64 (max (x9.till : Int) (u : Int))), (Value.bool x9.cursor)]) Try.ag85 (ec_open (own_slAt (M.chunk 2 rfl).inv) hpre13 rfl (by first | omega | (simp only [List.length_set, List.length_append, List.length_cons, List.length_nil]; omega))) (by decide) rfl rfl rfl) ?_
    refine WL.store (v := (Value.agg #[(Value.int .u64 x9.id), (Value.int .i64 x9.owner), (Value.int .u64 x9.epoch), (Value.int .u64 (max (x9.till : Int) (u : Int))), (Value.bool x9.cursor)])) (cs := [(Value.int .u64 x9.id), (Value.int .i64 x9.owner), (Value.int .u64 x9.epoch), (Value.int .u64 (max (x9.till : Int) (u : Int))), (Value.bool x9.cursor)]) (c' := #[(Value.int .u64 x9.id), (Value.int .i64 x9.owner), (Value.int .u64 x9.epoch), (Value.int .u64 (max (x9.till : Int) (u : Int))), (Value.bool x9.cursor)]) M 0 rfl rfl Try.el85.sized rfl rfl rfl rfl (Nat.le_of_ble_eq_true rfl) (cel_cons rfl (cel_cons rfl (cel_cons rfl (cel_cons rfl (cel_cons rfl cel_nil))))) rfl rfl (fun w16 M => ?_)
    refine WL.step (v := (Value.int .i64 0)) rfl (Step.assign rfl) ?_
    refine WL.nil ?_
    refine W.ret ?_
    refine ⟨.inl rfl, (Value.tuple #[(Value.agg #[(Value.int .u64 x9.id), (Value.int .i64 x9.owner), (Value.int .u64 x9.epoch), (Value.int .u64 (max (x9.till : Int) (u : Int))), (Value.bool x9.cursor)]), (Value.int .i64 0)]), ?_, ?_⟩
    · exact ⟨rfl, (Res.r2 (RV.cellN Try.ag85 rfl (M.blk 0 rfl) rfl) (show RV _ _ _ (.tmp 11) (Value.int .i64 0) from by exact rfl))⟩
    replace M := M.rechunk 2 (c' := own 85 5 v (xs.length) ((xs.set (atL xs o i c) (⟨x9.id, x9.owner, x9.epoch, max (x9.till : Int) (u : Int), x9.cursor⟩ : Lease)).flatMap leaseE)) rfl (by rw [← hback14]; rfl)
    replace M := M.rechunk 2 (c' := own 85 5 v ((xs.set (atL xs o i c) (⟨x9.id, x9.owner, x9.epoch, max (x9.till : Int) (u : Int), x9.cursor⟩ : Lease)).length) ((xs.set (atL xs o i c) (⟨x9.id, x9.owner, x9.epoch, max (x9.till : Int) (u : Int), x9.cursor⟩ : Lease)).flatMap leaseE)) rfl (by rw [List.length_set])
    replace M : Mem _ _ _ [blk b3 (.cells #[(Value.int .u64 x9.id), (Value.int .i64 x9.owner), (Value.int .u64 x9.epoch), (Value.int .u64 (max (x9.till : Int) (u : Int))), (Value.bool x9.cursor)] 85), blk lb (.cells #[v, (Value.int .i64 most), (Value.int .u64 last)] 147), own 85 5 v ((xs.set (atL xs o i c) (⟨x9.id, x9.owner, x9.epoch, max (x9.till : Int) (u : Int), x9.cursor⟩ : Lease)).length) ((xs.set (atL xs o i c) (⟨x9.id, x9.owner, x9.epoch, max (x9.till : Int) (u : Int), x9.cursor⟩ : Lease)).flatMap leaseE)] [] _ := M
    have e17 : (renewV xs o i u c).1 = xs.set (atL xs o i c) (⟨x9.id, x9.owner, x9.epoch, max (x9.till : Int) (u : Int), x9.cursor⟩ : Lease) := by
      simp [renewV, leaseZ, h5, hthe_]
    replace M := M.rechunk 2 (c' := own 85 5 v (((renewV xs o i u c).1).length) (((renewV xs o i u c).1).flatMap leaseE)) rfl (congrArg (fun z => own 85 5 v z.length (z.flatMap leaseE)) e17.symm)
    replace M : Mem _ _ _ [blk b3 (.cells #[(Value.int .u64 x9.id), (Value.int .i64 x9.owner), (Value.int .u64 x9.epoch), (Value.int .u64 (max (x9.till : Int) (u : Int))), (Value.bool x9.cursor)] 85), blk lb (.cells #[v, (Value.int .i64 most), (Value.int .u64 last)] 147), own 85 5 v (((renewV xs o i u c).1).length) (((renewV xs o i u c).1).flatMap leaseE)] [] _ := M
    refine ⟨v, ?_, M.close [1, 2] rfl (by decide) trivial⟩
    simp [renewV, leaseZ, h5, hthe_]
  ·
    refine WL.callX rfl (le_findno lb v xs most last o i c h5 (M.enterW0 ⟨(M.wideC0 1 rfl), ((M.wideC0 2 rfl).imp fun _ h => own_slAt h), trivial⟩)) (CallsF.func Try.en97 rfl) ?_
    rintro _ w18 ⟨rfl, m⟩
    replace M := M.leaveW0 m
    clear m
    replace M : Mem _ _ _ [blk b3 (.cells #[(Value.int .u64 0), (Value.int .i64 0), (Value.int .u64 0), (Value.int .u64 0), (Value.bool false)] 85), blk lb (.cells #[v, (Value.int .i64 most), (Value.int .u64 last)] 147), own 85 5 v xs.length (xs.flatMap leaseE)] [] _ := M
    refine WL.step (v := (Value.tuple #[(Value.int .i64 0), (Value.int .i64 (noE c))])) rfl (Step.move rfl) ?_
    refine WL.step (v := (Value.int .i64 0)) rfl (Step.pure (by kernel_rfl)) ?_
    refine WL.step (v := (Value.int .i64 (noE c))) rfl (Step.pure (by kernel_rfl)) ?_
    refine WL.step (v := (Value.int .i64 0)) rfl (Step.assign rfl) ?_
    refine WL.step (v := (Value.int .i64 (noE c))) rfl (Step.assign rfl) ?_
    refine WL.nil ?_
    refine W.seq' ?_
    refine W.seq' ?_
    refine W.region rfl ?_
    refine WL.step (v := (Value.int .i64 (noE c))) rfl (Step.move rfl) ?_
    refine WL.step (v := (Value.bool true)) rfl (Step.cast (congrArg Value.bool (show ((noE c : Int) != (0 : Int)) = true by unfold noE; split <;> rfl)) (Step.pure (by kernel_rfl))) ?_
    refine WL.nil ?_
    refine W.cond (t := true) rfl (fun _ => ?_) (fun h => by cases h)
    refine W.seq' ?_
    refine W.region rfl ?_
    refine WL.step (v := (Value.agg #[(Value.int .u64 0), (Value.int .i64 0), (Value.int .u64 0), (Value.int .u64 0), (Value.bool false)])) rfl (Step.pure (by kernel_rfl)) ?_
    refine WL.step (v := (Value.int .i64 (noE c))) rfl (Step.move rfl) ?_
    refine WL.store (v := (Value.agg #[(Value.int .u64 0), (Value.int .i64 0), (Value.int .u64 0), (Value.int .u64 0), (Value.bool false)])) (cs := [(Value.int .u64 0), (Value.int .i64 0), (Value.int .u64 0), (Value.int .u64 0), (Value.bool false)]) (c' := #[(Value.int .u64 0), (Value.int .i64 0), (Value.int .u64 0), (Value.int .u64 0), (Value.bool false)]) M 0 rfl rfl Try.el85.sized rfl rfl rfl rfl (Nat.le_of_ble_eq_true rfl) (cel_cons rfl (cel_cons rfl (cel_cons rfl (cel_cons rfl (cel_cons rfl cel_nil))))) rfl rfl (fun w19 M => ?_)
    refine WL.step (v := (Value.int .i64 (noE c))) rfl (Step.assign rfl) ?_
    refine WL.nil ?_
    refine W.ret ?_
    refine ⟨.inl rfl, (Value.tuple #[(Value.agg #[(Value.int .u64 0), (Value.int .i64 0), (Value.int .u64 0), (Value.int .u64 0), (Value.bool false)]), (Value.int .i64 (noE c))]), ?_, ?_⟩
    · exact ⟨rfl, (Res.r2 (RV.cellN Try.ag85 rfl (M.blk 0 rfl) rfl) (show RV _ _ _ (.tmp 11) (Value.int .i64 (noE c)) from by exact rfl))⟩
    have e20 : (renewV xs o i u c).1 = xs := by
      simp [renewV, leaseZ, h5]
    replace M := M.rechunk 2 (c' := own 85 5 v (((renewV xs o i u c).1).length) (((renewV xs o i u c).1).flatMap leaseE)) rfl (congrArg (fun z => own 85 5 v z.length (z.flatMap leaseE)) e20.symm)
    replace M : Mem _ _ _ [blk b3 (.cells #[(Value.int .u64 0), (Value.int .i64 0), (Value.int .u64 0), (Value.int .u64 0), (Value.bool false)] 85), blk lb (.cells #[v, (Value.int .i64 most), (Value.int .u64 last)] 147), own 85 5 v (((renewV xs o i u c).1).length) (((renewV xs o i u c).1).flatMap leaseE)] [] _ := M
    refine ⟨v, ?_, M.close [1, 2] rfl (by decide) trivial⟩
    simp [renewV, leaseZ, h5]

theorem le_release {G X : Nat → Prop} {w : World} (lb : Nat) (v : Value) (xs : List Lease) (most : Int) (last : Int) (o : Int) (i : Int) (c : Bool)   (M : Mem G X w [blk lb (.cells #[v, (Value.int .i64 most), (Value.int .u64 last)] 147), own 85 5 v xs.length (xs.flatMap leaseE)] [] w) : Rets Try.prog 54 #[(Value.pointer (some ⟨lb, 0, none⟩)), (Value.int .i64 o), (Value.int .u64 i), (Value.bool c)] w fun r w' => ∃ (v' : Value), r = (Value.int .i64 ((relV xs o i c).2)) ∧ Mem G X w [blk lb (.cells #[v', (Value.int .i64 most), (Value.int .u64 last)] 147), own 85 5 v' (((relV xs o i c).1).length) (((relV xs o i c).1).flatMap leaseE)] [] w' := by
  refine Rets.enter 33 _ Try.func54 rfl Try.ntmps54 Try.results54 (by simp) ?_
  have sl1 : IsSl v := SlAt.isSl (own_slAt (Mem.chunk M 1 rfl).inv)
  have hle2 := SlAt.le' (own_slAt (Mem.chunk M 1 rfl).inv)
  refine W.seq' ?_
  refine W.region rfl ?_
  refine WL.step (v := (Value.int .i64 0)) rfl (Step.assign rfl) ?_
  refine WL.nil ?_
  refine W.seq' ?_
  refine W.region rfl ?_
  refine WL.step (v := (Value.pointer (some ⟨lb, 0, none⟩))) rfl (Step.move rfl) ?_
  refine WL.step (v := (Value.int .i64 o)) rfl (Step.move rfl) ?_
  refine WL.step (v := (Value.int .u64 i)) rfl (Step.move rfl) ?_
  refine WL.step (v := (Value.bool c)) rfl (Step.move rfl) ?_
  rcases Bool.eq_false_or_eq_true (hasL xs o i c) with h3 | h3
  ·
    refine WL.callX rfl (le_find lb v xs most last o i c h3 (M.enterW0 ⟨(M.wideC0 0 rfl), ((M.wideC0 1 rfl).imp fun _ h => own_slAt h), trivial⟩)) (CallsF.func Try.en97 rfl) ?_
    rintro _ w4 ⟨rfl, m⟩
    replace M := M.leaveW0 m
    clear m
    replace M : Mem _ _ _ [blk lb (.cells #[v, (Value.int .i64 most), (Value.int .u64 last)] 147), own 85 5 v xs.length (xs.flatMap leaseE)] [] _ := M
    have hlt_ := atL_lt (show hasL xs o i c = true by assumption)
    refine WL.step (v := (Value.tuple #[(Value.int .i64 (↑(atL xs o i c))), (Value.int .i64 0)])) rfl (Step.move rfl) ?_
    refine WL.step (v := (Value.int .i64 (↑(atL xs o i c)))) rfl (Step.pure (by kernel_rfl)) ?_
    refine WL.step (v := (Value.int .i64 0)) rfl (Step.pure (by kernel_rfl)) ?_
    refine WL.step (v := (Value.int .i64 (↑(atL xs o i c)))) rfl (Step.assign rfl) ?_
    refine WL.step (v := (Value.int .i64 0)) rfl (Step.assign rfl) ?_
    refine WL.nil ?_
    refine W.seq' ?_
    refine W.seq' ?_
    refine W.region rfl ?_
    refine WL.step (v := (Value.int .i64 0)) rfl (Step.move rfl) ?_
    refine WL.step (v := (Value.bool true)) rfl (Step.pure (by kernel_rfl)) ?_
    refine WL.nil ?_
    refine W.cond (t := true) rfl (fun _ => ?_) (fun h => by cases h)
    refine W.region rfl ?_
    refine WL.step (v := (Value.pointer (some ⟨lb, 0, none⟩))) rfl (Step.move rfl) ?_
    refine WL.step (v := (Value.pointer (some ⟨lb, 0, none⟩))) rfl (Step.move rfl) ?_
    refine WL.step (v := (Value.pointer (some ⟨lb, 0, none⟩))) rfl (Step.pure (by kernel_rfl)) ?_
    refine WL.step (v := (Value.pointer (some ⟨lb, 0, none⟩))) rfl (Step.pure (by kernel_rfl)) ?_
    refine WL.step (v := v) rfl (Step.load1 Try.sc100 rfl ((M.cell 0 rfl 0).trans rfl)) ?_
    refine WL.step (v := (Value.int .i64 (↑(atL xs o i c)))) rfl (Step.move rfl) ?_
    refine WL.step (v := (Value.int .i64 (↑(atL xs o i c)))) rfl (Step.move rfl) ?_
    refine WL.step (v := (Value.int .i64 (↑(atL xs o i c) + 1))) rfl (Step.add rfl rfl (wrap_i64 (by omega))) ?_
    refine WL.callX rfl (delete_lease v xs (↑(atL xs o i c)) (↑(atL xs o i c) + 1) (by omega) (M.enterW (C := [own 85 5 v xs.length (xs.flatMap leaseE)]) (D := [blk lb (.cells #[v, (Value.int .i64 most), (Value.int .u64 last)] 147)]) [1, 0] rfl (by decide) trivial)) (CallsF.func Try.en102 rfl) ?_
    rintro v5 w6 ⟨_, rfl, m⟩
    replace M := M.leaveW (C := [own 85 5 v xs.length (xs.flatMap leaseE)]) (D := [blk lb (.cells #[v, (Value.int .i64 most), (Value.int .u64 last)] 147)]) [1, 0] rfl (by decide) m
    clear m
    replace M : Mem _ _ _ [own 85 5 v5 ((xs.take (Int.toNat (↑(atL xs o i c))) ++ xs.drop (Int.toNat (↑(atL xs o i c) + 1))).length) ((xs.take (Int.toNat (↑(atL xs o i c))) ++ xs.drop (Int.toNat (↑(atL xs o i c) + 1))).flatMap leaseE), blk lb (.cells #[v, (Value.int .i64 most), (Value.int .u64 last)] 147)] [] _ := M
    have sl7 : IsSl v5 := SlAt.isSl (own_slAt (Mem.chunk M 0 rfl).inv)
    have hle8 := SlAt.le' (own_slAt (Mem.chunk M 0 rfl).inv)
    refine WL.step (v := (Value.pointer (some ⟨lb, 0, none⟩))) rfl (Step.pure (by kernel_rfl)) ?_
    refine WL.step (v := (Value.pointer (some ⟨lb, 0, none⟩))) rfl (Step.pure (by kernel_rfl)) ?_
    refine WL.store (v := v5) (cs := [v5]) (c' := #[v5, (Value.int .i64 most), (Value.int .u64 last)]) M 1 rfl rfl Try.el100.sized rfl rfl (IsSl.list sl7) rfl (Nat.le_of_ble_eq_true rfl) (cel_cons (IsSl.cel sl7) cel_nil) rfl rfl (fun w9 M => ?_)
    refine WL.nil ?_
    refine W.seq' ?_
    refine W.region rfl ?_
    refine WL.step (v := (Value.int .i64 0)) rfl (Step.move rfl) ?_
    refine WL.step (v := (Value.int .i64 0)) rfl (Step.assign rfl) ?_
    refine WL.nil ?_
    refine W.ret ?_
    refine ⟨.inl rfl, (Value.int .i64 0), ?_, ?_⟩
    · exact ⟨rfl, (Res.r1 (show RV _ _ _ (.tmp 8) (Value.int .i64 0) from by exact rfl))⟩
    have e10 : (relV xs o i c).1 = xs.take (Int.toNat (↑(atL xs o i c))) ++ xs.drop (Int.toNat (↑(atL xs o i c) + 1)) := by
      simp [relV, h3]
      try simpa using (erase_td xs (atL xs o i c)).symm
    replace M := M.rechunk 0 (c' := own 85 5 v5 (((relV xs o i c).1).length) (((relV xs o i c).1).flatMap leaseE)) rfl (congrArg (fun z => own 85 5 v5 z.length (z.flatMap leaseE)) e10.symm)
    replace M : Mem _ _ _ [own 85 5 v5 (((relV xs o i c).1).length) (((relV xs o i c).1).flatMap leaseE), blk lb (.cells #[v5, (Value.int .i64 most), (Value.int .u64 last)] 147)] [] _ := M
    refine ⟨v5, ?_, M.close [1, 0] rfl (by decide) trivial⟩
    simp [relV, h3]
    try simpa using (erase_td xs (atL xs o i c)).symm
  ·
    refine WL.callX rfl (le_findno lb v xs most last o i c h3 (M.enterW0 ⟨(M.wideC0 0 rfl), ((M.wideC0 1 rfl).imp fun _ h => own_slAt h), trivial⟩)) (CallsF.func Try.en97 rfl) ?_
    rintro _ w11 ⟨rfl, m⟩
    replace M := M.leaveW0 m
    clear m
    replace M : Mem _ _ _ [blk lb (.cells #[v, (Value.int .i64 most), (Value.int .u64 last)] 147), own 85 5 v xs.length (xs.flatMap leaseE)] [] _ := M
    refine WL.step (v := (Value.tuple #[(Value.int .i64 0), (Value.int .i64 (noE c))])) rfl (Step.move rfl) ?_
    refine WL.step (v := (Value.int .i64 0)) rfl (Step.pure (by kernel_rfl)) ?_
    refine WL.step (v := (Value.int .i64 (noE c))) rfl (Step.pure (by kernel_rfl)) ?_
    refine WL.step (v := (Value.int .i64 0)) rfl (Step.assign rfl) ?_
    refine WL.step (v := (Value.int .i64 (noE c))) rfl (Step.assign rfl) ?_
    refine WL.nil ?_
    refine W.seq' ?_
    refine W.seq' ?_
    refine W.region rfl ?_
    refine WL.step (v := (Value.int .i64 (noE c))) rfl (Step.move rfl) ?_
    refine WL.step (v := (Value.bool false)) rfl (Step.cast (congrArg Value.bool (show ((noE c : Int) == (0 : Int)) = false by unfold noE; split <;> rfl)) (Step.pure (by kernel_rfl))) ?_
    refine WL.nil ?_
    refine W.cond (t := false) rfl (fun h => by cases h) (fun _ => ?_)
    refine W.skip ?_
    refine W.seq' ?_
    refine W.region rfl ?_
    refine WL.step (v := (Value.int .i64 (noE c))) rfl (Step.move rfl) ?_
    refine WL.step (v := (Value.int .i64 (noE c))) rfl (Step.assign rfl) ?_
    refine WL.nil ?_
    refine W.ret ?_
    refine ⟨.inl rfl, (Value.int .i64 (noE c)), ?_, ?_⟩
    · exact ⟨rfl, (Res.r1 (show RV _ _ _ (.tmp 8) (Value.int .i64 (noE c)) from by exact rfl))⟩
    have e12 : (relV xs o i c).1 = xs := by
      simp [relV, h3]
    replace M := M.rechunk 1 (c' := own 85 5 v (((relV xs o i c).1).length) (((relV xs o i c).1).flatMap leaseE)) rfl (congrArg (fun z => own 85 5 v z.length (z.flatMap leaseE)) e12.symm)
    replace M : Mem _ _ _ [blk lb (.cells #[v, (Value.int .i64 most), (Value.int .u64 last)] 147), own 85 5 v (((relV xs o i c).1).length) (((relV xs o i c).1).flatMap leaseE)] [] _ := M
    refine ⟨v, ?_, M.close [0, 1] rfl (by decide) trivial⟩
    simp [relV, h3]

theorem le_move {G X : Nat → Prop} {w : World} (lb : Nat) (v : Value) (xs : List Lease) (most : Int) (last : Int) (o : Int) (i : Int) (e : Int)   (M : Mem G X w [blk lb (.cells #[v, (Value.int .i64 most), (Value.int .u64 last)] 147), own 85 5 v xs.length (xs.flatMap leaseE)] [] w) : Rets Try.prog 53 #[(Value.pointer (some ⟨lb, 0, none⟩)), (Value.int .i64 o), (Value.int .u64 i), (Value.int .u64 e)] w fun r w' => ∃ (v' : Value), r = (Value.tuple #[(Value.agg #[(Value.int .u64 (((moveV xs o i e).2.1).id)), (Value.int .i64 (((moveV xs o i e).2.1).owner)), (Value.int .u64 (((moveV xs o i e).2.1).epoch)), (Value.int .u64 (((moveV xs o i e).2.1).till)), (Value.bool (((moveV xs o i e).2.1).cursor))]), (Value.int .i64 ((moveV xs o i e).2.2))]) ∧ Mem G X w [blk lb (.cells #[v', (Value.int .i64 most), (Value.int .u64 last)] 147), own 85 5 v' (((moveV xs o i e).1).length) (((moveV xs o i e).1).flatMap leaseE)] [] w' := by
  refine Rets.enter 52 _ Try.func53 rfl Try.ntmps53 Try.results53 (by simp) ?_
  have sl1 : IsSl v := SlAt.isSl (own_slAt (Mem.chunk M 1 rfl).inv)
  have hle2 := SlAt.le' (own_slAt (Mem.chunk M 1 rfl).inv)
  refine W.seq' ?_
  refine W.region rfl ?_
  refine WL.alloc (c := #[(Value.int .u64 0), (Value.int .i64 0), (Value.int .u64 0), (Value.int .u64 0), (Value.bool false)]) M rfl Try.el85.zero rfl (fun b3 w4 hb3 M => ?_)
  refine WL.step (v := (Value.int .i64 0)) rfl (Step.assign rfl) ?_
  refine WL.nil ?_
  refine W.seq' ?_
  refine W.region rfl ?_
  refine WL.step (v := (Value.pointer (some ⟨lb, 0, none⟩))) rfl (Step.move rfl) ?_
  refine WL.step (v := (Value.int .i64 o)) rfl (Step.move rfl) ?_
  refine WL.step (v := (Value.int .u64 i)) rfl (Step.move rfl) ?_
  rcases Bool.eq_false_or_eq_true (hasL xs o i true) with h5 | h5
  ·
    refine WL.callX rfl (le_find lb v xs most last o i true h5 (M.enterW0 ⟨(M.wideC0 1 rfl), ((M.wideC0 2 rfl).imp fun _ h => own_slAt h), trivial⟩)) (CallsF.func Try.en97 rfl) ?_
    rintro _ w6 ⟨rfl, m⟩
    replace M := M.leaveW0 m
    clear m
    replace M : Mem _ _ _ [blk b3 (.cells #[(Value.int .u64 0), (Value.int .i64 0), (Value.int .u64 0), (Value.int .u64 0), (Value.bool false)] 85), blk lb (.cells #[v, (Value.int .i64 most), (Value.int .u64 last)] 147), own 85 5 v xs.length (xs.flatMap leaseE)] [] _ := M
    have hlt_ := atL_lt (show hasL xs o i true = true by assumption)
    refine WL.step (v := (Value.tuple #[(Value.int .i64 (↑(atL xs o i true))), (Value.int .i64 0)])) rfl (Step.move rfl) ?_
    refine WL.step (v := (Value.int .i64 (↑(atL xs o i true)))) rfl (Step.pure (by kernel_rfl)) ?_
    refine WL.step (v := (Value.int .i64 0)) rfl (Step.pure (by kernel_rfl)) ?_
    refine WL.step (v := (Value.int .i64 (↑(atL xs o i true)))) rfl (Step.assign rfl) ?_
    refine WL.step (v := (Value.int .i64 0)) rfl (Step.assign rfl) ?_
    refine WL.nil ?_
    refine W.seq' ?_
    refine W.seq' ?_
    refine W.region rfl ?_
    refine WL.step (v := (Value.int .i64 0)) rfl (Step.move rfl) ?_
    refine WL.step (v := (Value.bool true)) rfl (Step.pure (by kernel_rfl)) ?_
    refine WL.step (v := (Value.bool true)) rfl (Step.move rfl) ?_
    refine WL.step (v := (Value.int .u64 e)) rfl (Step.move rfl) ?_
    refine WL.step (v := (Value.pointer (some ⟨lb, 0, none⟩))) rfl (Step.move rfl) ?_
    refine WL.step (v := (Value.pointer (some ⟨lb, 0, none⟩))) rfl (Step.pure (by kernel_rfl)) ?_
    refine WL.step (v := (Value.pointer (some ⟨lb, 0, none⟩))) rfl (Step.pure (by kernel_rfl)) ?_
    refine WL.step (v := v) rfl (Step.load1 Try.sc100 rfl ((M.cell 1 rfl 0).trans rfl)) ?_
    refine WL.step (v := (Value.int .i64 (↑(atL xs o i true)))) rfl (Step.move rfl) ?_
    obtain ⟨cap8, hb7⟩ := SlAt.base (own_slAt (M.chunk 2 rfl).inv) (by omega)
    obtain ⟨x9, hx9⟩ := elem_of_lt (xs := xs) (i := atL xs o i true) (by omega)
    have hthe_ := theL_eq hx9
    refine WL.step (v := (Value.pointer (some ⟨(sBlk v), sOff v + (atL xs o i true) * 5, none⟩))) rfl (Step.indexAddr (i := atL xs o i true) (Try.un100).run Try.el85.sized rfl rfl (by omega) hb7 (by omega)) ?_
    refine WL.step (v := (Value.pointer (some ⟨(sBlk v), sOff v + (atL xs o i true) * 5 + 2, none⟩))) rfl (Step.pure (by kernel_rfl)) ?_
    refine WL.step (v := (Value.int .u64 x9.epoch)) rfl (Step.loadE (k := 2) Try.sc23 (flat_ec (own_slAt (M.chunk 2 rfl).inv) hx9 leaseE_len) (by decide) rfl rfl) ?_
    refine WL.step (v := (Value.bool (decide ((e : Int) < (x9.epoch : Int))))) rfl (Step.pure (by kernel_rfl)) ?_
    refine WL.step (v := (Value.bool (decide ((e : Int) < (x9.epoch : Int))))) rfl (Step.pick (t := true) rfl rfl) ?_
    refine WL.nil ?_
    refine W.cond (t := decide ((e : Int) < (x9.epoch : Int))) rfl (fun h10 => ?_) (fun h10 => ?_)
    ·
      have h10p := of_decide_eq_true h10
      refine W.region rfl ?_
      refine WL.step (v := (Value.int .i64 2)) rfl (Step.assign rfl) ?_
      refine WL.nil ?_
      refine W.seq' ?_
      refine W.seq' ?_
      refine W.region rfl ?_
      refine WL.step (v := (Value.int .i64 2)) rfl (Step.move rfl) ?_
      refine WL.step (v := (Value.bool true)) rfl (Step.pure (by kernel_rfl)) ?_
      refine WL.nil ?_
      refine W.cond (t := true) rfl (fun _ => ?_) (fun h => by cases h)
      refine W.seq' ?_
      refine W.region rfl ?_
      refine WL.step (v := (Value.agg #[(Value.int .u64 0), (Value.int .i64 0), (Value.int .u64 0), (Value.int .u64 0), (Value.bool false)])) rfl (Step.pure (by kernel_rfl)) ?_
      refine WL.step (v := (Value.int .i64 2)) rfl (Step.move rfl) ?_
      refine WL.store (v := (Value.agg #[(Value.int .u64 0), (Value.int .i64 0), (Value.int .u64 0), (Value.int .u64 0), (Value.bool false)])) (cs := [(Value.int .u64 0), (Value.int .i64 0), (Value.int .u64 0), (Value.int .u64 0), (Value.bool false)]) (c' := #[(Value.int .u64 0), (Value.int .i64 0), (Value.int .u64 0), (Value.int .u64 0), (Value.bool false)]) M 0 rfl rfl Try.el85.sized rfl rfl rfl rfl (Nat.le_of_ble_eq_true rfl) (cel_cons rfl (cel_cons rfl (cel_cons rfl (cel_cons rfl (cel_cons rfl cel_nil))))) rfl rfl (fun w11 M => ?_)
      refine WL.step (v := (Value.int .i64 2)) rfl (Step.assign rfl) ?_
      refine WL.nil ?_
      refine W.ret ?_
      refine ⟨.inl rfl, (Value.tuple #[(Value.agg #[(Value.int .u64 0), (Value.int .i64 0), (Value.int .u64 0), (Value.int .u64 0), (Value.bool false)]), (Value.int .i64 2)]), ?_, ?_⟩
      · exact ⟨rfl, (Res.r2 (RV.cellN Try.ag85 rfl (M.blk 0 rfl) rfl) (show RV _ _ _ (.tmp 9) (Value.int .i64 2) from by exact rfl))⟩
      have e12 : (moveV xs o i e).1 = xs := by
        simp [moveV, noE, leaseZ, h5, h10p, hthe_]
      replace M := M.rechunk 2 (c' := own 85 5 v (((moveV xs o i e).1).length) (((moveV xs o i e).1).flatMap leaseE)) rfl (congrArg (fun z => own 85 5 v z.length (z.flatMap leaseE)) e12.symm)
      replace M : Mem _ _ _ [blk b3 (.cells #[(Value.int .u64 0), (Value.int .i64 0), (Value.int .u64 0), (Value.int .u64 0), (Value.bool false)] 85), blk lb (.cells #[v, (Value.int .i64 most), (Value.int .u64 last)] 147), own 85 5 v (((moveV xs o i e).1).length) (((moveV xs o i e).1).flatMap leaseE)] [] _ := M
      refine ⟨v, ?_, M.close [1, 2] rfl (by decide) trivial⟩
      simp [moveV, noE, leaseZ, h5, h10p, hthe_]
    ·
      have h10p := of_decide_eq_false h10
      refine W.skip ?_
      refine W.seq' ?_
      refine W.seq' ?_
      refine W.region rfl ?_
      refine WL.step (v := (Value.int .i64 0)) rfl (Step.move rfl) ?_
      refine WL.step (v := (Value.bool false)) rfl (Step.pure (by kernel_rfl)) ?_
      refine WL.nil ?_
      refine W.cond (t := false) rfl (fun h => by cases h) (fun _ => ?_)
      refine W.skip ?_
      refine W.seq' ?_
      refine W.region rfl ?_
      refine WL.step (v := (Value.pointer (some ⟨lb, 0, none⟩))) rfl (Step.move rfl) ?_
      refine WL.step (v := (Value.pointer (some ⟨lb, 0, none⟩))) rfl (Step.pure (by kernel_rfl)) ?_
      refine WL.step (v := (Value.pointer (some ⟨lb, 0, none⟩))) rfl (Step.pure (by kernel_rfl)) ?_
      refine WL.step (v := v) rfl (Step.load1 Try.sc100 rfl ((M.cell 1 rfl 0).trans rfl)) ?_
      refine WL.step (v := (Value.int .i64 (↑(atL xs o i true)))) rfl (Step.move rfl) ?_
      refine WL.step (v := (Value.int .u64 e)) rfl (Step.move rfl) ?_
      refine WL.step (v := (Value.pointer (some ⟨(sBlk v), sOff v + (atL xs o i true) * 5, none⟩))) rfl (Step.indexAddr (i := atL xs o i true) (Try.un100).run Try.el85.sized rfl rfl (by omega) hb7 (by omega)) ?_
      refine WL.step (v := (Value.pointer (some ⟨(sBlk v), sOff v + (atL xs o i true) * 5 + 2, none⟩))) rfl (Step.pure (by kernel_rfl)) ?_
      obtain ⟨pre13, post14, hcs15, hpre16, hback17⟩ := flat_open leaseE_len hx9
      replace M := M.rechunk 2 (c' := own 85 5 v xs.length (pre13 ++ ([(Value.int .u64 x9.id), (Value.int .i64 x9.owner), (Value.int .u64 x9.epoch), (Value.int .u64 x9.till), (Value.bool x9.cursor)] ++ post14))) rfl (by rw [hcs15]; rfl)
      replace M : Mem _ _ _ [blk b3 (.cells #[(Value.int .u64 0), (Value.int .i64 0), (Value.int .u64 0), (Value.int .u64 0), (Value.bool false)] 85), blk lb (.cells #[v, (Value.int .i64 most), (Value.int .u64 last)] 147), own 85 5 v xs.length (pre13 ++ ([(Value.int .u64 x9.id), (Value.int .i64 x9.owner), (Value.int .u64 x9.epoch), (Value.int .u64 x9.till), (Value.bool x9.cursor)] ++ post14))] [] _ := M
      refine WL.act rfl (M.storeAt (cells := [(Value.int .u64 x9.id), (Value.int .i64 x9.owner), (Value.int .u64 x9.epoch), (Value.int .u64 x9.till), (Value.bool x9.cursor)]) (cells' := [(Value.int .u64 x9.id), (Value.int .i64 x9.owner), (Value.int .u64 e), (Value.int .u64 x9.till), (Value.bool x9.cursor)]) (new := [(Value.int .u64 e)]) (k := 2) 2 rfl hpre16 Try.el23.sized rfl rfl rfl (cel_cons rfl cel_nil) (by first | omega | (simp only [List.length_set, List.length_append, List.length_cons, List.length_nil]; omega)) (Nat.le_of_ble_eq_true rfl) rfl rfl) ?_
      rintro w18 ⟨M, -⟩
      replace M : Mem _ _ _ [blk b3 (.cells #[(Value.int .u64 0), (Value.int .i64 0), (Value.int .u64 0), (Value.int .u64 0), (Value.bool false)] 85), blk lb (.cells #[v, (Value.int .i64 most), (Value.int .u64 last)] 147), own 85 5 v xs.length (pre13 ++ ([(Value.int .u64 x9.id), (Value.int .i64 x9.owner), (Value.int .u64 e), (Value.int .u64 x9.till), (Value.bool x9.cursor)] ++ post14))] [] _ := M
      refine WL.nil ?_
      refine W.seq' ?_
      refine W.region rfl ?_
      refine WL.step (v := (Value.pointer (some ⟨lb, 0, none⟩))) rfl (Step.move rfl) ?_
      refine WL.step (v := (Value.pointer (some ⟨lb, 0, none⟩))) rfl (Step.pure (by kernel_rfl)) ?_
      refine WL.step (v := (Value.pointer (some ⟨lb, 0, none⟩))) rfl (Step.pure (by kernel_rfl)) ?_
      refine WL.step (v := v) rfl (Step.load1 Try.sc100 rfl ((M.cell 1 rfl 0).trans rfl)) ?_
      refine WL.step (v := (Value.int .i64 (↑(atL xs o i true)))) rfl (Step.move rfl) ?_
      refine WL.step (v := (Value.pointer (some ⟨(sBlk v), sOff v + (atL xs o i true) * 5, none⟩))) rfl (Step.indexAddr (i := atL xs o i true) (Try.un100).run Try.el85.sized rfl rfl (by omega) hb7 (by omega)) ?_
      refine WL.step (v := (Value.agg #[(Value.int .u64 x9.id), (Value.int .i64 x9.owner), (Value.int .u64 e), (Value.int .u64 x9.till), (Value.bool x9.cursor)])) rfl (Step.loadEN (k := 0) (cs' := [(Value.int .u64 x9.id), (Value.int .i64 x9.owner), (Value.int .u64 e), (Value.int .u64 x9.till), (Value.bool x9.cursor)]) Try.ag85 (ec_open (own_slAt (M.chunk 2 rfl).inv) hpre16 rfl (by first | omega | (simp only [List.length_set, List.length_append, List.length_cons, List.length_nil]; omega))) (by decide) rfl rfl rfl) ?_
      refine WL.store (v := (Value.agg #[(Value.int .u64 x9.id), (Value.int .i64 x9.owner), (Value.int .u64 e), (Value.int .u64 x9.till), (Value.bool x9.cursor)])) (cs := [(Value.int .u64 x9.id), (Value.int .i64 x9.owner), (Value.int .u64 e), (Value.int .u64 x9.till), (Value.bool x9.cursor)]) (c' := #[(Value.int .u64 x9.id), (Value.int .i64 x9.owner), (Value.int .u64 e), (Value.int .u64 x9.till), (Value.bool x9.cursor)]) M 0 rfl rfl Try.el85.sized rfl rfl rfl rfl (Nat.le_of_ble_eq_true rfl) (cel_cons rfl (cel_cons rfl (cel_cons rfl (cel_cons rfl (cel_cons rfl cel_nil))))) rfl rfl (fun w19 M => ?_)
      refine WL.step (v := (Value.int .i64 0)) rfl (Step.assign rfl) ?_
      refine WL.nil ?_
      refine W.ret ?_
      refine ⟨.inl rfl, (Value.tuple #[(Value.agg #[(Value.int .u64 x9.id), (Value.int .i64 x9.owner), (Value.int .u64 e), (Value.int .u64 x9.till), (Value.bool x9.cursor)]), (Value.int .i64 0)]), ?_, ?_⟩
      · exact ⟨rfl, (Res.r2 (RV.cellN Try.ag85 rfl (M.blk 0 rfl) rfl) (show RV _ _ _ (.tmp 9) (Value.int .i64 0) from by exact rfl))⟩
      replace M := M.rechunk 2 (c' := own 85 5 v (xs.length) ((xs.set (atL xs o i true) (⟨x9.id, x9.owner, e, x9.till, x9.cursor⟩ : Lease)).flatMap leaseE)) rfl (by rw [← hback17]; rfl)
      replace M := M.rechunk 2 (c' := own 85 5 v ((xs.set (atL xs o i true) (⟨x9.id, x9.owner, e, x9.till, x9.cursor⟩ : Lease)).length) ((xs.set (atL xs o i true) (⟨x9.id, x9.owner, e, x9.till, x9.cursor⟩ : Lease)).flatMap leaseE)) rfl (by rw [List.length_set])
      replace M : Mem _ _ _ [blk b3 (.cells #[(Value.int .u64 x9.id), (Value.int .i64 x9.owner), (Value.int .u64 e), (Value.int .u64 x9.till), (Value.bool x9.cursor)] 85), blk lb (.cells #[v, (Value.int .i64 most), (Value.int .u64 last)] 147), own 85 5 v ((xs.set (atL xs o i true) (⟨x9.id, x9.owner, e, x9.till, x9.cursor⟩ : Lease)).length) ((xs.set (atL xs o i true) (⟨x9.id, x9.owner, e, x9.till, x9.cursor⟩ : Lease)).flatMap leaseE)] [] _ := M
      have e20 : (moveV xs o i e).1 = xs.set (atL xs o i true) (⟨x9.id, x9.owner, e, x9.till, x9.cursor⟩ : Lease) := by
        simp [moveV, noE, leaseZ, h5, h10p, hthe_]
      replace M := M.rechunk 2 (c' := own 85 5 v (((moveV xs o i e).1).length) (((moveV xs o i e).1).flatMap leaseE)) rfl (congrArg (fun z => own 85 5 v z.length (z.flatMap leaseE)) e20.symm)
      replace M : Mem _ _ _ [blk b3 (.cells #[(Value.int .u64 x9.id), (Value.int .i64 x9.owner), (Value.int .u64 e), (Value.int .u64 x9.till), (Value.bool x9.cursor)] 85), blk lb (.cells #[v, (Value.int .i64 most), (Value.int .u64 last)] 147), own 85 5 v (((moveV xs o i e).1).length) (((moveV xs o i e).1).flatMap leaseE)] [] _ := M
      refine ⟨v, ?_, M.close [1, 2] rfl (by decide) trivial⟩
      simp [moveV, noE, leaseZ, h5, h10p, hthe_]
  ·
    refine WL.callX rfl (le_findno lb v xs most last o i true h5 (M.enterW0 ⟨(M.wideC0 1 rfl), ((M.wideC0 2 rfl).imp fun _ h => own_slAt h), trivial⟩)) (CallsF.func Try.en97 rfl) ?_
    rintro _ w21 ⟨rfl, m⟩
    replace M := M.leaveW0 m
    clear m
    replace M : Mem _ _ _ [blk b3 (.cells #[(Value.int .u64 0), (Value.int .i64 0), (Value.int .u64 0), (Value.int .u64 0), (Value.bool false)] 85), blk lb (.cells #[v, (Value.int .i64 most), (Value.int .u64 last)] 147), own 85 5 v xs.length (xs.flatMap leaseE)] [] _ := M
    refine WL.step (v := (Value.tuple #[(Value.int .i64 0), (Value.int .i64 (noE true))])) rfl (Step.move rfl) ?_
    refine WL.step (v := (Value.int .i64 0)) rfl (Step.pure (by kernel_rfl)) ?_
    refine WL.step (v := (Value.int .i64 (noE true))) rfl (Step.pure (by kernel_rfl)) ?_
    refine WL.step (v := (Value.int .i64 0)) rfl (Step.assign rfl) ?_
    refine WL.step (v := (Value.int .i64 (noE true))) rfl (Step.assign rfl) ?_
    refine WL.nil ?_
    refine W.seq' ?_
    refine W.seq' ?_
    refine W.region rfl ?_
    refine WL.step (v := (Value.int .i64 (noE true))) rfl (Step.move rfl) ?_
    refine WL.step (v := (Value.bool false)) rfl (Step.cast (congrArg Value.bool (show ((noE true : Int) == (0 : Int)) = false by unfold noE; split <;> rfl)) (Step.pure (by kernel_rfl))) ?_
    refine WL.step (v := (Value.bool false)) rfl (Step.move rfl) ?_
    refine WL.pass rfl ?_
    refine WL.pass rfl ?_
    refine WL.pass rfl ?_
    refine WL.pass rfl ?_
    refine WL.pass rfl ?_
    refine WL.pass rfl ?_
    refine WL.pass rfl ?_
    refine WL.pass rfl ?_
    refine WL.pass rfl ?_
    refine WL.pass rfl ?_
    refine WL.step (v := (Value.bool false)) rfl (Step.pick (t := false) rfl rfl) ?_
    refine WL.nil ?_
    refine W.cond (t := false) rfl (fun h => by cases h) (fun _ => ?_)
    refine W.skip ?_
    refine W.seq' ?_
    refine W.seq' ?_
    refine W.region rfl ?_
    refine WL.step (v := (Value.int .i64 (noE true))) rfl (Step.move rfl) ?_
    refine WL.step (v := (Value.bool true)) rfl (Step.cast (congrArg Value.bool (show ((noE true : Int) != (0 : Int)) = true by unfold noE; split <;> rfl)) (Step.pure (by kernel_rfl))) ?_
    refine WL.nil ?_
    refine W.cond (t := true) rfl (fun _ => ?_) (fun h => by cases h)
    refine W.seq' ?_
    refine W.region rfl ?_
    refine WL.step (v := (Value.agg #[(Value.int .u64 0), (Value.int .i64 0), (Value.int .u64 0), (Value.int .u64 0), (Value.bool false)])) rfl (Step.pure (by kernel_rfl)) ?_
    refine WL.step (v := (Value.int .i64 (noE true))) rfl (Step.move rfl) ?_
    refine WL.store (v := (Value.agg #[(Value.int .u64 0), (Value.int .i64 0), (Value.int .u64 0), (Value.int .u64 0), (Value.bool false)])) (cs := [(Value.int .u64 0), (Value.int .i64 0), (Value.int .u64 0), (Value.int .u64 0), (Value.bool false)]) (c' := #[(Value.int .u64 0), (Value.int .i64 0), (Value.int .u64 0), (Value.int .u64 0), (Value.bool false)]) M 0 rfl rfl Try.el85.sized rfl rfl rfl rfl (Nat.le_of_ble_eq_true rfl) (cel_cons rfl (cel_cons rfl (cel_cons rfl (cel_cons rfl (cel_cons rfl cel_nil))))) rfl rfl (fun w22 M => ?_)
    refine WL.step (v := (Value.int .i64 (noE true))) rfl (Step.assign rfl) ?_
    refine WL.nil ?_
    refine W.ret ?_
    refine ⟨.inl rfl, (Value.tuple #[(Value.agg #[(Value.int .u64 0), (Value.int .i64 0), (Value.int .u64 0), (Value.int .u64 0), (Value.bool false)]), (Value.int .i64 (noE true))]), ?_, ?_⟩
    · exact ⟨rfl, (Res.r2 (RV.cellN Try.ag85 rfl (M.blk 0 rfl) rfl) (show RV _ _ _ (.tmp 9) (Value.int .i64 (noE true)) from by exact rfl))⟩
    have e23 : (moveV xs o i e).1 = xs := by
      simp [moveV, noE, leaseZ, h5]
    replace M := M.rechunk 2 (c' := own 85 5 v (((moveV xs o i e).1).length) (((moveV xs o i e).1).flatMap leaseE)) rfl (congrArg (fun z => own 85 5 v z.length (z.flatMap leaseE)) e23.symm)
    replace M : Mem _ _ _ [blk b3 (.cells #[(Value.int .u64 0), (Value.int .i64 0), (Value.int .u64 0), (Value.int .u64 0), (Value.bool false)] 85), blk lb (.cells #[v, (Value.int .i64 most), (Value.int .u64 last)] 147), own 85 5 v (((moveV xs o i e).1).length) (((moveV xs o i e).1).flatMap leaseE)] [] _ := M
    refine ⟨v, ?_, M.close [1, 2] rfl (by decide) trivial⟩
    simp [moveV, noE, leaseZ, h5]

theorem le_grant {G X : Nat → Prop} {w : World} (lb : Nat) (v : Value) (xs : List Lease) (most : Int) (last : Int) (o : Int) (e : Int) (u : Int) (c : Bool)  (hb : xs.length ≤ 1000000) (hl : 0 ≤ last ∧ last ≤ 1000000) (M : Mem G X w [blk lb (.cells #[v, (Value.int .i64 most), (Value.int .u64 last)] 147), own 85 5 v xs.length (xs.flatMap leaseE)] [] w) : Rets Try.prog 46 #[(Value.pointer (some ⟨lb, 0, none⟩)), (Value.int .i64 o), (Value.int .u64 e), (Value.int .u64 u), (Value.bool c)] w fun r w' => ∃ (v' : Value), r = (Value.tuple #[(Value.agg #[(Value.int .u64 (((grantV xs most last o e u c).2.2.1).id)), (Value.int .i64 (((grantV xs most last o e u c).2.2.1).owner)), (Value.int .u64 (((grantV xs most last o e u c).2.2.1).epoch)), (Value.int .u64 (((grantV xs most last o e u c).2.2.1).till)), (Value.bool (((grantV xs most last o e u c).2.2.1).cursor))]), (Value.int .i64 ((grantV xs most last o e u c).2.2.2))]) ∧ Mem G X w [blk lb (.cells #[v', (Value.int .i64 most), (Value.int .u64 ((grantV xs most last o e u c).2.1))] 147), own 85 5 v' (((grantV xs most last o e u c).1).length) (((grantV xs most last o e u c).1).flatMap leaseE)] [] w' := by
  refine Rets.enter 56 _ Try.func46 rfl Try.ntmps46 Try.results46 (by simp) ?_
  have sl1 : IsSl v := SlAt.isSl (own_slAt (Mem.chunk M 1 rfl).inv)
  have hle2 := SlAt.le' (own_slAt (Mem.chunk M 1 rfl).inv)
  refine W.seq' ?_
  refine W.region rfl ?_
  refine WL.alloc (c := #[(Value.int .u64 0), (Value.int .i64 0), (Value.int .u64 0), (Value.int .u64 0), (Value.bool false)]) M rfl Try.el85.zero rfl (fun b3 w4 hb3 M => ?_)
  refine WL.step (v := (Value.int .i64 0)) rfl (Step.assign rfl) ?_
  refine WL.nil ?_
  refine W.seq' ?_
  refine W.block ?_
  refine W.seq' ?_
  refine W.region rfl ?_
  refine WL.step (v := (Value.pointer (some ⟨lb, 0, none⟩))) rfl (Step.move rfl) ?_
  refine WL.step (v := (Value.bool false)) rfl (Step.pure (by kernel_rfl)) ?_
  refine WL.step (v := (Value.bool false)) rfl (Step.assign rfl) ?_
  refine WL.nil ?_
  refine W.cond (t := false) rfl (fun h => by cases h) (fun _ => ?_)
  refine W.seq' ?_
  refine W.drawn M [0, 1, 2, 3, 4, 5, 6, 7, 8, 9, 10] [] [] [blk b3 (.cells #[(Value.int .u64 0), (Value.int .i64 0), (Value.int .u64 0), (Value.int .u64 0), (Value.bool false)] 85), blk lb (.cells #[v, (Value.int .i64 most), (Value.int .u64 last)] 147), own 85 5 v xs.length (xs.flatMap leaseE)] [] (List.Sublist.cons_cons _ (List.Sublist.cons_cons _ (List.Sublist.cons_cons _ List.Sublist.slnil))) (fun _ h => h) Try.mixed (by kernel_rfl) ?_
  refine TW.pure (v := (Value.pointer (some ⟨lb, 0, none⟩))) rfl (by decide) (by decide) rfl (fun w => (Step.move rfl)) ?_
  refine TW.pure (v := (Value.pointer (some ⟨lb, 0, none⟩))) rfl (by decide) (by decide) rfl (fun w => (Step.pure (by kernel_rfl))) ?_
  refine TW.pure (v := (Value.pointer (some ⟨lb, 0, none⟩))) rfl (by decide) (by decide) rfl (fun w => (Step.pure (by kernel_rfl))) ?_
  refine TW.read (v := v) rfl (by decide) (by decide) rfl (fun A w M => (Step.load1 Try.sc100 rfl ((M.cell 2 rfl 0).trans rfl))) ?_
  refine TW.read (v := (Value.int .i64 ↑xs.length)) rfl (by decide) (by decide) rfl (fun A w M => (Step.lenSl Try.un100 rfl (own_slAt (M.chunk 3 rfl).inv))) ?_
  refine TW.pure (v := (Value.pointer (some ⟨lb, 0, none⟩))) rfl (by decide) (by decide) rfl (fun w => (Step.move rfl)) ?_
  refine TW.pure (v := (Value.pointer (some ⟨lb, 0, none⟩))) rfl (by decide) (by decide) rfl (fun w => (Step.pure (by kernel_rfl))) ?_
  refine TW.pure (v := (Value.pointer (some ⟨lb, 1, none⟩))) rfl (by decide) (by decide) rfl (fun w => (Step.pure (by kernel_rfl))) ?_
  refine TW.read (v := (Value.int .i64 most)) rfl (by decide) (by decide) rfl (fun A w M => (Step.load1 Try.sc3 rfl ((M.cell 2 rfl 1).trans rfl))) ?_
  refine TW.pure (v := (Value.bool (decide ((↑xs.length : Int) ≥ (most : Int))))) rfl (by decide) (by decide) rfl (fun w => (Step.pure (by kernel_rfl))) ?_
  refine TW.pure (v := (Value.bool (decide ((↑xs.length : Int) ≥ (most : Int))))) rfl (by decide) (by decide) rfl (fun w => (Step.assign rfl)) ?_
  refine TW.done (fun w5 M => ?_)
  refine W.cond (t := decide ((↑xs.length : Int) ≥ (most : Int))) rfl (fun h6 => ?_) (fun h6 => ?_)
  ·
    have h6p := of_decide_eq_true h6
    refine W.seq' ?_
    refine W.region rfl ?_
    refine WL.step (v := (Value.agg #[(Value.int .u64 0), (Value.int .i64 0), (Value.int .u64 0), (Value.int .u64 0), (Value.bool false)])) rfl (Step.pure (by kernel_rfl)) ?_
    refine WL.store (v := (Value.agg #[(Value.int .u64 0), (Value.int .i64 0), (Value.int .u64 0), (Value.int .u64 0), (Value.bool false)])) (cs := [(Value.int .u64 0), (Value.int .i64 0), (Value.int .u64 0), (Value.int .u64 0), (Value.bool false)]) (c' := #[(Value.int .u64 0), (Value.int .i64 0), (Value.int .u64 0), (Value.int .u64 0), (Value.bool false)]) M 0 rfl rfl Try.el85.sized rfl rfl rfl rfl (Nat.le_of_ble_eq_true rfl) (cel_cons rfl (cel_cons rfl (cel_cons rfl (cel_cons rfl (cel_cons rfl cel_nil))))) rfl rfl (fun w7 M => ?_)
    refine WL.step (v := (Value.int .i64 280)) rfl (Step.assign rfl) ?_
    refine WL.nil ?_
    refine W.ret ?_
    refine ⟨.inl rfl, (Value.tuple #[(Value.agg #[(Value.int .u64 0), (Value.int .i64 0), (Value.int .u64 0), (Value.int .u64 0), (Value.bool false)]), (Value.int .i64 280)]), ?_, ?_⟩
    · exact ⟨rfl, (Res.r2 (RV.cellN Try.ag85 rfl (M.blk 0 rfl) rfl) (show RV _ _ _ (.tmp 11) (Value.int .i64 280) from by exact rfl))⟩
    have e8 : (blk lb (.cells #[v, (Value.int .i64 most), (Value.int .u64 ((grantV xs most last o e u c).2.1))] 147) : Chunk) = (blk lb (.cells #[v, (Value.int .i64 most), (Value.int .u64 last)] 147) : Chunk) := by
      simp [grantV, leaseZ, h6p]
    replace M := M.rechunk 1 (c' := blk lb (.cells #[v, (Value.int .i64 most), (Value.int .u64 ((grantV xs most last o e u c).2.1))] 147)) rfl e8.symm
    replace M : Mem _ _ _ [blk b3 (.cells #[(Value.int .u64 0), (Value.int .i64 0), (Value.int .u64 0), (Value.int .u64 0), (Value.bool false)] 85), blk lb (.cells #[v, (Value.int .i64 most), (Value.int .u64 ((grantV xs most last o e u c).2.1))] 147), own 85 5 v xs.length (xs.flatMap leaseE)] [] _ := M
    have e9 : (grantV xs most last o e u c).1 = xs := by
      simp [grantV, leaseZ, h6p]
    replace M := M.rechunk 2 (c' := own 85 5 v (((grantV xs most last o e u c).1).length) (((grantV xs most last o e u c).1).flatMap leaseE)) rfl (congrArg (fun z => own 85 5 v z.length (z.flatMap leaseE)) e9.symm)
    replace M : Mem _ _ _ [blk b3 (.cells #[(Value.int .u64 0), (Value.int .i64 0), (Value.int .u64 0), (Value.int .u64 0), (Value.bool false)] 85), blk lb (.cells #[v, (Value.int .i64 most), (Value.int .u64 ((grantV xs most last o e u c).2.1))] 147), own 85 5 v (((grantV xs most last o e u c).1).length) (((grantV xs most last o e u c).1).flatMap leaseE)] [] _ := M
    refine ⟨v, ?_, M.close [1, 2] rfl (by decide) trivial⟩
    simp [grantV, leaseZ, h6p]
  ·
    have h6p := of_decide_eq_false h6
    refine W.skip ?_
    refine W.seq' ?_
    refine W.region rfl ?_
    refine WL.step (v := (Value.pointer (some ⟨lb, 0, none⟩))) rfl (Step.move rfl) ?_
    refine WL.step (v := (Value.pointer (some ⟨lb, 0, none⟩))) rfl (Step.pure (by kernel_rfl)) ?_
    refine WL.step (v := (Value.pointer (some ⟨lb, 2, none⟩))) rfl (Step.pure (by kernel_rfl)) ?_
    refine WL.step (v := (Value.int .u64 last)) rfl (Step.load1 Try.sc23 rfl ((M.cell 1 rfl 2).trans rfl)) ?_
    refine WL.step (v := (Value.int .u64 (last + 1))) rfl (Step.add rfl rfl (wrap_u64 (by omega))) ?_
    refine WL.step (v := (Value.pointer (some ⟨lb, 0, none⟩))) rfl (Step.pure (by kernel_rfl)) ?_
    refine WL.step (v := (Value.pointer (some ⟨lb, 2, none⟩))) rfl (Step.pure (by kernel_rfl)) ?_
    refine WL.store (v := (Value.int .u64 (last + 1))) (cs := [(Value.int .u64 (last + 1))]) (c' := #[v, (Value.int .i64 most), (Value.int .u64 (last + 1))]) M 1 rfl rfl Try.el23.sized rfl rfl rfl rfl (Nat.le_of_ble_eq_true rfl) (cel_cons rfl cel_nil) rfl rfl (fun w10 M => ?_)
    refine WL.nil ?_
    refine W.seq' ?_
    refine W.region rfl ?_
    refine WL.step (v := (Value.pointer (some ⟨lb, 0, none⟩))) rfl (Step.move rfl) ?_
    refine WL.step (v := (Value.pointer (some ⟨lb, 0, none⟩))) rfl (Step.pure (by kernel_rfl)) ?_
    refine WL.step (v := (Value.pointer (some ⟨lb, 2, none⟩))) rfl (Step.pure (by kernel_rfl)) ?_
    refine WL.step (v := (Value.int .u64 (last + 1))) rfl (Step.load1 Try.sc23 rfl ((M.cell 1 rfl 2).trans rfl)) ?_
    refine WL.step (v := (Value.int .i64 o)) rfl (Step.move rfl) ?_
    refine WL.step (v := (Value.int .u64 e)) rfl (Step.move rfl) ?_
    refine WL.step (v := (Value.int .u64 u)) rfl (Step.move rfl) ?_
    refine WL.step (v := (Value.bool c)) rfl (Step.move rfl) ?_
    refine WL.step (v := (Value.agg #[(Value.int .u64 (last + 1)), (Value.int .i64 o), (Value.int .u64 e), (Value.int .u64 u), (Value.bool c)])) rfl (Step.pure (by kernel_rfl)) ?_
    refine WL.alloc (c := #[(Value.int .u64 0), (Value.int .i64 0), (Value.int .u64 0), (Value.int .u64 0), (Value.bool false)]) M rfl Try.el85.zero rfl (fun b11 w12 hb11 M => ?_)
    refine WL.store (v := (Value.agg #[(Value.int .u64 (last + 1)), (Value.int .i64 o), (Value.int .u64 e), (Value.int .u64 u), (Value.bool c)])) (cs := [(Value.int .u64 (last + 1)), (Value.int .i64 o), (Value.int .u64 e), (Value.int .u64 u), (Value.bool c)]) (c' := #[(Value.int .u64 (last + 1)), (Value.int .i64 o), (Value.int .u64 e), (Value.int .u64 u), (Value.bool c)]) M 0 rfl rfl Try.el85.sized rfl rfl rfl rfl (Nat.le_of_ble_eq_true rfl) (cel_cons rfl (cel_cons rfl (cel_cons rfl (cel_cons rfl (cel_cons rfl cel_nil))))) rfl rfl (fun w13 M => ?_)
    refine WL.nil ?_
    refine W.seq' ?_
    refine W.drawn M [0, 1, 2, 3, 4, 5, 6, 7, 8, 9, 10] [4, 7, 10] [6] [blk b11 (.cells #[(Value.int .u64 (last + 1)), (Value.int .i64 o), (Value.int .u64 e), (Value.int .u64 u), (Value.bool c)] 85), blk b3 (.cells #[(Value.int .u64 0), (Value.int .i64 0), (Value.int .u64 0), (Value.int .u64 0), (Value.bool false)] 85)] [] (List.Sublist.cons_cons _ (List.Sublist.cons_cons _ (List.Sublist.cons _ (List.Sublist.cons _ List.Sublist.slnil)))) (fun _ h => h) Try.mixed (by kernel_rfl) ?_
    refine TW.pure (v := (Value.pointer (some ⟨lb, 0, none⟩))) rfl (by decide) (by decide) rfl (fun w => (Step.move rfl)) ?_
    refine TW.pure (v := (Value.pointer (some ⟨lb, 0, none⟩))) rfl (by decide) (by decide) rfl (fun w => (Step.move rfl)) ?_
    refine TW.pure (v := (Value.pointer (some ⟨lb, 0, none⟩))) rfl (by decide) (by decide) rfl (fun w => (Step.pure (by kernel_rfl))) ?_
    refine TW.pure (v := (Value.pointer (some ⟨lb, 0, none⟩))) rfl (by decide) (by decide) rfl (fun w => (Step.pure (by kernel_rfl))) ?_
    refine TW.readL (v := v) rfl (by decide) rfl (List.Sublist.cons_cons _ (List.Sublist.cons_cons _ (List.Sublist.cons _ (List.Sublist.cons _ List.Sublist.slnil)))) (fun r h => h) (fun A w M => (Step.load1 Try.sc100 rfl ((M.cell 3 rfl 0).trans rfl))) ?_
    refine TW.read (v := (Value.agg #[(Value.int .u64 (last + 1)), (Value.int .i64 o), (Value.int .u64 e), (Value.int .u64 u), (Value.bool c)])) rfl (by decide) (by decide) rfl (fun A w M => (Step.loadN Try.ag85 rfl (M.blk 1 rfl) (Nat.le_of_ble_eq_true rfl) rfl)) ?_
    refine TW.new (obj := .cells #[(Value.int .u64 (last + 1)), (Value.int .i64 o), (Value.int .u64 e), (Value.int .u64 u), (Value.bool c)] 85) (fun b => .slice (some ⟨b, 0, none⟩) 1 1) rfl (by decide) (by decide) rfl (fun w => Step.make (by kernel_rfl)) (fun b24 => ?_)
    refine TW.doesM (fun v_ => own 85 5 v_ ((xs ++ ([(⟨last + 1, o, e, u, c⟩ : Lease)] : List Lease)).length) ((xs ++ ([(⟨last + 1, o, e, u, c⟩ : Lease)] : List Lease)).flatMap leaseE)) 4 rfl rfl (by decide) rfl (fun v_ => (List.Sublist.cons _ (List.Sublist.cons_cons _ (List.Sublist.cons_cons _ (List.Sublist.cons _ (List.Sublist.cons _ List.Sublist.slnil)))))) (fun r h => h) (fun A w M => M.appendF' xs ([(⟨last + 1, o, e, u, c⟩ : Lease)] : List Lease) (sv := (Value.slice (some ⟨b24, 0, none⟩) 1 1)) 5 Try.un100 Try.el85 rfl (by decide) rfl rfl rfl (SlAt.of_blk (M.blk 1 rfl) rfl (by decide)) leaseE_cel (by have := hb; simp only [maxLen, List.length_nil, List.length_cons, List.length_append]; omega) (by have := hb; (try simp only [List.length_nil, List.length_cons, List.length_append]); omega)) (fun v25 hin => ?_)
    obtain ⟨_, _, hin⟩ := hin
    have sl27 : IsSl v25 := SlAt.isSl (own_slAt (Mem.chunk hin 5 rfl).inv)
    clear hin
    change TW _ _ _ _ _ _ _ _ (MemA _ _ _ [blk b24 (.cells #[(Value.int .u64 (last + 1)), (Value.int .i64 o), (Value.int .u64 e), (Value.int .u64 u), (Value.bool c)] 85), blk b11 (.cells #[(Value.int .u64 (last + 1)), (Value.int .i64 o), (Value.int .u64 e), (Value.int .u64 u), (Value.bool c)] 85), blk b3 (.cells #[(Value.int .u64 0), (Value.int .i64 0), (Value.int .u64 0), (Value.int .u64 0), (Value.bool false)] 85), blk lb (.cells #[v, (Value.int .i64 most), (Value.int .u64 (last + 1))] 147), own 85 5 v25 ((xs ++ ([(⟨last + 1, o, e, u, c⟩ : Lease)] : List Lease)).length) ((xs ++ ([(⟨last + 1, o, e, u, c⟩ : Lease)] : List Lease)).flatMap leaseE)] [])
    refine TW.pure (v := (Value.pointer (some ⟨lb, 0, none⟩))) rfl (by decide) (by decide) rfl (fun w => (Step.pure (by kernel_rfl))) ?_
    refine TW.pure (v := (Value.pointer (some ⟨lb, 0, none⟩))) rfl (by decide) (by decide) rfl (fun w => (Step.pure (by kernel_rfl))) ?_
    refine TW.store (v := v25) (cs := [v25]) (c' := #[v25, (Value.int .i64 most), (Value.int .u64 (last + 1))]) 3 rfl rfl (by decide) rfl Try.el100.sized rfl rfl (IsSl.list sl27) rfl (Nat.le_of_ble_eq_true rfl) (cel_cons (IsSl.cel sl27) cel_nil) rfl rfl (List.Sublist.cons _ (List.Sublist.cons_cons _ (List.Sublist.cons_cons _ (List.Sublist.cons _ (List.Sublist.cons _ List.Sublist.slnil))))) (fun r h => h) ?_
    refine TW.done (fun w28 M => ?_)
    refine W.seq' ?_
    refine W.region rfl ?_
    refine WL.step (v := (Value.agg #[(Value.int .u64 (last + 1)), (Value.int .i64 o), (Value.int .u64 e), (Value.int .u64 u), (Value.bool c)])) rfl (Step.loadN Try.ag85 rfl (M.blk 1 rfl) (Nat.le_of_ble_eq_true rfl) rfl) ?_
    refine WL.store (v := (Value.agg #[(Value.int .u64 (last + 1)), (Value.int .i64 o), (Value.int .u64 e), (Value.int .u64 u), (Value.bool c)])) (cs := [(Value.int .u64 (last + 1)), (Value.int .i64 o), (Value.int .u64 e), (Value.int .u64 u), (Value.bool c)]) (c' := #[(Value.int .u64 (last + 1)), (Value.int .i64 o), (Value.int .u64 e), (Value.int .u64 u), (Value.bool c)]) M 2 rfl rfl Try.el85.sized rfl rfl rfl rfl (Nat.le_of_ble_eq_true rfl) (cel_cons rfl (cel_cons rfl (cel_cons rfl (cel_cons rfl (cel_cons rfl cel_nil))))) rfl rfl (fun w29 M => ?_)
    refine WL.step (v := (Value.int .i64 0)) rfl (Step.assign rfl) ?_
    refine WL.nil ?_
    refine W.ret ?_
    refine ⟨.inl rfl, (Value.tuple #[(Value.agg #[(Value.int .u64 (last + 1)), (Value.int .i64 o), (Value.int .u64 e), (Value.int .u64 u), (Value.bool c)]), (Value.int .i64 0)]), ?_, ?_⟩
    · exact ⟨rfl, (Res.r2 (RV.cellN Try.ag85 rfl (M.blk 2 rfl) rfl) (show RV _ _ _ (.tmp 11) (Value.int .i64 0) from by exact rfl))⟩
    have e30 : (blk lb (.cells #[v25, (Value.int .i64 most), (Value.int .u64 ((grantV xs most last o e u c).2.1))] 147) : Chunk) = (blk lb (.cells #[v25, (Value.int .i64 most), (Value.int .u64 (last + 1))] 147) : Chunk) := by
      simp [grantV, leaseZ, h6p]
    replace M := M.rechunk 3 (c' := blk lb (.cells #[v25, (Value.int .i64 most), (Value.int .u64 ((grantV xs most last o e u c).2.1))] 147)) rfl e30.symm
    replace M : Mem _ _ _ [blk b24 (.cells #[(Value.int .u64 (last + 1)), (Value.int .i64 o), (Value.int .u64 e), (Value.int .u64 u), (Value.bool c)] 85), blk b11 (.cells #[(Value.int .u64 (last + 1)), (Value.int .i64 o), (Value.int .u64 e), (Value.int .u64 u), (Value.bool c)] 85), blk b3 (.cells #[(Value.int .u64 (last + 1)), (Value.int .i64 o), (Value.int .u64 e), (Value.int .u64 u), (Value.bool c)] 85), blk lb (.cells #[v25, (Value.int .i64 most), (Value.int .u64 ((grantV xs most last o e u c).2.1))] 147), own 85 5 v25 ((xs ++ ([(⟨last + 1, o, e, u, c⟩ : Lease)] : List Lease)).length) ((xs ++ ([(⟨last + 1, o, e, u, c⟩ : Lease)] : List Lease)).flatMap leaseE)] [] _ := M
    have e31 : (grantV xs most last o e u c).1 = xs ++ ([(⟨last + 1, o, e, u, c⟩ : Lease)] : List Lease) := by
      simp [grantV, leaseZ, h6p]
    replace M := M.rechunk 4 (c' := own 85 5 v25 (((grantV xs most last o e u c).1).length) (((grantV xs most last o e u c).1).flatMap leaseE)) rfl (congrArg (fun z => own 85 5 v25 z.length (z.flatMap leaseE)) e31.symm)
    replace M : Mem _ _ _ [blk b24 (.cells #[(Value.int .u64 (last + 1)), (Value.int .i64 o), (Value.int .u64 e), (Value.int .u64 u), (Value.bool c)] 85), blk b11 (.cells #[(Value.int .u64 (last + 1)), (Value.int .i64 o), (Value.int .u64 e), (Value.int .u64 u), (Value.bool c)] 85), blk b3 (.cells #[(Value.int .u64 (last + 1)), (Value.int .i64 o), (Value.int .u64 e), (Value.int .u64 u), (Value.bool c)] 85), blk lb (.cells #[v25, (Value.int .i64 most), (Value.int .u64 ((grantV xs most last o e u c).2.1))] 147), own 85 5 v25 (((grantV xs most last o e u c).1).length) (((grantV xs most last o e u c).1).flatMap leaseE)] [] _ := M
    refine ⟨v25, ?_, M.close [3, 4] rfl (by decide) trivial⟩
    simp [grantV, leaseZ, h6p]
end Go.Proofs
