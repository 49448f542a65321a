/- Walks. -/
import Derived.Test.YtlehkjkpgmkbiaaTrL11
set_option maxRecDepth 100000
set_option linter.all false
namespace Go.Proofs
open Go Tp
theorem Try.un73 : Und Try.prog 73 (.slice 75) := by unfold Und; kernel_rfl
theorem Try.ag75 : Aggr Try.prog 75 6 := ⟨fun _ => by kernel_rfl, fun _ => by kernel_rfl⟩
theorem Try.el75 : Elem Try.prog 75 (Value.agg #[(Value.int .i64 0), (Value.int .i64 0), (Value.int .u64 0), (Value.int .u64 0), (Value.int .u64 0), (Value.bool false)]) 6 48 := Elem.mk (by kernel_rfl)
theorem Try.en43 : Enters Try.prog 43 := fun _ _ => by kernel_rfl
theorem Try.en44 : Enters Try.prog 44 := fun _ _ => by kernel_rfl
theorem Try.en51 : Enters Try.prog 51 := fun _ _ => by kernel_rfl

set_option maxHeartbeats 4000000 in
theorem law_plays {G : Nat → Prop} {w : World} (most : Int) (v : Value) (acts : List LAct)   (M : Mem G (fun _ => False) w [] [SlAt 6 v acts.length (acts.flatMap lactE)] w) : Rets Try.prog 9 #[(Value.int .i64 most), v] w fun r w' => r = (Value.bool true) ∧ Mem G (fun _ => False) w [] [] w' := by
  refine Rets.enter 49 _ Try.func9 rfl Try.ntmps9 Try.results9 (by simp) ?_
  have hle1 := SlAt.le' (M.rep 0 rfl)
  have sl2 : IsSl v := SlAt.isSl (Mem.rep M 0 rfl)
  refine W.seq' ?_
  refine W.region rfl ?_
  refine WL.step (v := (Value.bool false)) rfl (Step.assign rfl) ?_
  refine WL.nil ?_
  refine W.seq' ?_
  refine W.seq' ?_
  refine W.region rfl ?_
  refine WL.step (v := v) rfl (Step.move rfl) ?_
  refine WL.step (v := (Value.int .i64 ↑acts.length)) rfl (Step.lenSl Try.un73 rfl (M.rep 0 rfl)) ?_
  refine WL.step (v := (Value.bool (decide ((↑acts.length : Int) > (60 : Int))))) rfl (Step.pure (by kernel_rfl)) ?_
  refine WL.nil ?_
  refine W.cond (t := decide ((↑acts.length : Int) > (60 : Int))) rfl (fun h3 => ?_) (fun h3 => ?_)
  ·
    have h3p := of_decide_eq_true h3
    refine W.seq' ?_
    refine W.region rfl ?_
    refine WL.callX rfl (law_works  (M.enterW0 trivial)) (CallsF.func Try.en41 rfl) ?_
    rintro _ w4 ⟨rfl, m⟩
    replace M := M.leaveW0 m
    clear m
    replace M : Mem _ _ _ [] [SlAt 6 v acts.length (acts.flatMap lactE)] _ := M
    refine WL.step (v := (Value.bool true)) rfl (Step.assign rfl) ?_
    refine WL.nil ?_
    refine W.ret ?_
    refine ⟨.inl rfl, (Value.bool true), ?_, ?_⟩
    · exact ⟨rfl, (Res.r1 (show RV _ _ _ (.tmp 4) (Value.bool true) from by exact rfl))⟩
    refine ⟨?_, M.close [] rfl (by decide) trivial⟩
    rfl
  ·
    have h3p := of_decide_eq_false h3
    refine W.skip ?_
    refine W.seq' ?_
    refine W.region rfl ?_
    refine WL.step (v := (Value.int .i64 most)) rfl (Step.move rfl) ?_
    refine WL.callX rfl (le_new most (M.enterW0 trivial)) (CallsF.func Try.en42 rfl) ?_
    rintro _ w6 ⟨lb5, rfl, m⟩
    replace M := M.leaveW0 m
    clear m
    replace M : Mem _ _ _ [blk lb5 (.cells #[(Value.slice none 0 0), (Value.int .i64 (max (0 : Int) (most : Int))), (Value.int .u64 0)] 147)] [SlAt 6 v acts.length (acts.flatMap lactE)] _ := M
    refine WL.step (v := (Value.pointer (some ⟨lb5, 0, none⟩))) rfl (Step.assign rfl) ?_
    refine WL.nil ?_
    refine W.seq' ?_
    refine W.region rfl ?_
    refine WL.step (v := (Value.int .i64 most)) rfl (Step.move rfl) ?_
    refine WL.callX rfl (ref_new most (M.enterW0 trivial)) (CallsF.func Try.en43 rfl) ?_
    rintro _ w7 ⟨rfl, m⟩
    replace M := M.leaveW0 m
    clear m
    replace M : Mem _ _ _ [blk lb5 (.cells #[(Value.slice none 0 0), (Value.int .i64 (max (0 : Int) (most : Int))), (Value.int .u64 0)] 147)] [SlAt 6 v acts.length (acts.flatMap lactE)] _ := M
    refine WL.alloc (c := #[(Value.slice none 0 0), (Value.int .i64 0), (Value.int .u64 0)]) M rfl Try.el80.zero rfl (fun b8 w9 hb8 M => ?_)
    refine WL.store (v := (Value.agg #[(Value.slice none 0 0), (Value.int .i64 (max (0 : Int) (most : Int))), (Value.int .u64 0)])) (cs := [(Value.slice none 0 0), (Value.int .i64 (max (0 : Int) (most : Int))), (Value.int .u64 0)]) (c' := #[(Value.slice none 0 0), (Value.int .i64 (max (0 : Int) (most : Int))), (Value.int .u64 0)]) M 0 rfl rfl Try.el80.sized rfl rfl rfl rfl (Nat.le_of_ble_eq_true rfl) (cel_cons rfl (cel_cons rfl (cel_cons rfl cel_nil))) rfl rfl (fun w10 M => ?_)
    refine WL.nil ?_
    refine W.seq' ?_
    refine W.seq' ?_
    refine W.region rfl ?_
    refine WL.step (v := (Value.int .i64 0)) rfl (Step.assign rfl) ?_
    refine WL.nil ?_
    refine W.block ?_
    replace M := M.add_pure (r' := SlAt 5 (Value.slice none 0 0) ([] : List Lease).length (([] : List Lease).flatMap leaseE)) (fun w => SlAt.nil 5 w)
    replace M : Mem _ _ _ [blk b8 (.cells #[(Value.slice none 0 0), (Value.int .i64 (max (0 : Int) (most : Int))), (Value.int .u64 0)] 80), blk lb5 (.cells #[(Value.slice none 0 0), (Value.int .i64 (max (0 : Int) (most : Int))), (Value.int .u64 0)] 147)] [SlAt 5 (Value.slice none 0 0) ([] : List Lease).length (([] : List Lease).flatMap leaseE), SlAt 6 v acts.length (acts.flatMap lactE)] _ := M
    replace M := M.ownNil 85 5
    replace M : Mem _ _ _ [own 85 5 (Value.slice none 0 0) (([] : List Lease).length) (([] : List Lease).flatMap leaseE), blk b8 (.cells #[(Value.slice none 0 0), (Value.int .i64 (max (0 : Int) (most : Int))), (Value.int .u64 0)] 80), blk lb5 (.cells #[(Value.slice none 0 0), (Value.int .i64 (max (0 : Int) (most : Int))), (Value.int .u64 0)] 147)] [SlAt 5 (Value.slice none 0 0) ([] : List Lease).length (([] : List Lease).flatMap leaseE), SlAt 6 v acts.length (acts.flatMap lactE)] _ := M
    replace M := M.sel (L' := [blk lb5 (.cells #[(Value.slice none 0 0), (Value.int .i64 (max (0 : Int) (most : Int))), (Value.int .u64 0)] 147), own 85 5 (Value.slice none 0 0) (([] : List Lease).length) (([] : List Lease).flatMap leaseE), blk b8 (.cells #[(Value.slice none 0 0), (Value.int .i64 (max (0 : Int) (most : Int))), (Value.int .u64 0)] 80)]) [2, 0, 1] rfl (by decide)
    replace M : Mem _ _ _ [blk lb5 (.cells #[(Value.slice none 0 0), (Value.int .i64 (max (0 : Int) (most : Int))), (Value.int .u64 0)] 147), own 85 5 (Value.slice none 0 0) (([] : List Lease).length) (([] : List Lease).flatMap leaseE), blk b8 (.cells #[(Value.slice none 0 0), (Value.int .i64 (max (0 : Int) (most : Int))), (Value.int .u64 0)] 80)] [SlAt 5 (Value.slice none 0 0) ([] : List Lease).length (([] : List Lease).flatMap leaseE), SlAt 6 v acts.length (acts.flatMap lactE)] _ := M
    refine W.loop (fun kk ρ w' => ∃ (i_ : Nat) (ls_ : List Lease) (la_ : Int) (lv_ : Value) (rv_ : Value), ((i_ ≤ acts.length) ∧ (LInv i_ ls_ la_) ∧ kk = acts.length - i_) ∧ ρ.has [(1, v), (5, (Value.pointer (some ⟨lb5, 0, none⟩))), (6, (Value.pointer (some ⟨b8, 0, none⟩))), (7, (Value.int .i64 ↑i_))] ∧ Mem G (fun _ => False) w [blk lb5 (.cells #[lv_, (Value.int .i64 (max (0 : Int) (most : Int))), (Value.int .u64 la_)] 147), own 85 5 lv_ ls_.length (ls_.flatMap leaseE), blk b8 (.cells #[rv_, (Value.int .i64 (max (0 : Int) (most : Int))), (Value.int .u64 la_)] 80)] [SlAt 5 rv_ ls_.length (ls_.flatMap leaseE), SlAt 6 v acts.length (acts.flatMap lactE)]  w') _ ⟨0, ([] : List Lease), 0, _, _, ⟨(Nat.zero_le _), LInv.nil, rfl⟩, ⟨rfl, rfl, rfl, rfl, rfl, rfl⟩, M⟩ ?_
    rintro _ ρ12 w11 ⟨i_, ls_, la_, lv_, rv_, ⟨hi13, hi14, rfl⟩, hρ, M⟩
    obtain ⟨ρ12, rfl⟩ := hρ.know
    clear hρ
    have hli_ := hi14
    have hli1 := hli_.ids
    have hli2 := hli_.pos
    have hli3 := hli_.few
    have hli4 := hli_.len
    refine W.seq' ?_
    refine W.seq' ?_
    refine W.region rfl ?_
    refine WL.step (v := (Value.int .i64 ↑i_)) rfl (Step.move rfl) ?_
    refine WL.step (v := v) rfl (Step.move rfl) ?_
    refine WL.step (v := (Value.int .i64 ↑acts.length)) rfl (Step.lenSl Try.un73 rfl (M.rep 1 rfl)) ?_
    refine WL.step (v := (Value.bool (decide ((↑i_ : Int) < (↑acts.length : Int))))) rfl (Step.pure (by kernel_rfl)) ?_
    refine WL.nil ?_
    refine W.cond (t := decide ((↑i_ : Int) < (↑acts.length : Int))) rfl (fun h15 => ?_) (fun h15 => ?_)
    ·
      have h15p := of_decide_eq_true h15
      refine W.skip ?_
      refine W.seq' ?_
      refine W.block ?_
      refine W.seq' ?_
      obtain ⟨cap17, hb16⟩ := SlAt.base (M.rep 1 rfl) (by omega)
      obtain ⟨x18, hx18⟩ := elem_of_lt (xs := acts) (i := i_) (by omega)
      have hst_ := (LInv.step (most := max (0 : Int) (most : Int)) (a := x18) hli_).len
      refine W.drawn M [0, 1, 2, 3, 4, 5, 6, 7, 8, 9, 10, 11, 12] [6, 11] [10] [blk b8 (.cells #[rv_, (Value.int .i64 (max (0 : Int) (most : Int))), (Value.int .u64 la_)] 80)] [SlAt 5 rv_ ls_.length (ls_.flatMap leaseE), SlAt 6 v acts.length (acts.flatMap lactE)] (List.Sublist.cons _ (List.Sublist.cons _ (List.Sublist.cons_cons _ List.Sublist.slnil))) (fun _ h => h) Try.mixed (by kernel_rfl) ?_
      refine TW.pure (v := (Value.pointer (some ⟨lb5, 0, none⟩))) rfl (by decide) (by decide) rfl (fun w => (Step.move rfl)) ?_
      refine TW.read (v := (Value.agg #[rv_, (Value.int .i64 (max (0 : Int) (most : Int))), (Value.int .u64 la_)])) rfl (by decide) (by decide) rfl (fun A w M => (Step.loadN Try.ag80 rfl (M.blk 1 rfl) (Nat.le_of_ble_eq_true rfl) rfl)) ?_
      refine TW.pure (v := v) rfl (by decide) (by decide) rfl (fun w => (Step.move rfl)) ?_
      refine TW.pure (v := (Value.int .i64 ↑i_)) rfl (by decide) (by decide) rfl (fun w => (Step.move rfl)) ?_
      refine TW.pure (v := (Value.pointer (some ⟨(sBlk v), sOff v + i_ * 6, none⟩))) rfl (by decide) (by decide) rfl (fun w => (Step.indexAddr (i := i_) (Try.un73).run Try.el75.sized rfl rfl (by omega) hb16 (by omega))) ?_
      refine TW.read (v := (Value.agg #[(Value.int .i64 x18.op), (Value.int .i64 x18.owner), (Value.int .u64 x18.id), (Value.int .u64 x18.n), (Value.int .u64 x18.till), (Value.bool x18.cursor)])) rfl (by decide) (by decide) rfl (fun A w M => (Step.loadEN (k := 0) (cs' := [(Value.int .i64 x18.op), (Value.int .i64 x18.owner), (Value.int .u64 x18.id), (Value.int .u64 x18.n), (Value.int .u64 x18.till), (Value.bool x18.cursor)]) Try.ag75 (flat_ec (M.rep 1 rfl) hx18 lactE_len) (by decide) rfl rfl rfl)) ?_
      refine TW.callX (ι := Value × Value) (fun jx v_ => v_ = (Value.tuple #[(Value.agg #[jx.1, (Value.int .i64 (max (0 : Int) (most : Int))), (Value.int .u64 ((stepL ls_ (max (0 : Int) (most : Int)) la_ x18).2))]), (Value.bool true)])) (fun jx => [blk lb5 (.cells #[jx.2, (Value.int .i64 (max (0 : Int) (most : Int))), (Value.int .u64 ((stepL ls_ (max (0 : Int) (most : Int)) la_ x18).2))] 147), own 85 5 jx.2 (((stepL ls_ (max (0 : Int) (most : Int)) la_ x18).1).length) (((stepL ls_ (max (0 : Int) (most : Int)) la_ x18).1).flatMap leaseE), blk b8 (.cells #[rv_, (Value.int .i64 (max (0 : Int) (most : Int))), (Value.int .u64 la_)] 80)]) (fun jx => [SlAt 5 jx.1 ((stepL ls_ (max (0 : Int) (most : Int)) la_ x18).1).length (((stepL ls_ (max (0 : Int) (most : Int)) la_ x18).1).flatMap leaseE), SlAt 5 rv_ ls_.length (ls_.flatMap leaseE), SlAt 6 v acts.length (acts.flatMap lactE)]) rfl (by decide) rfl (fun jx => (List.Sublist.cons _ (List.Sublist.cons _ (List.Sublist.cons_cons _ List.Sublist.slnil)))) (fun jx r h => (List.mem_cons_of_mem _ h)) (fun A w M => Rets.mono (law_does lb5 lv_ ls_ (max (0 : Int) (most : Int)) la_ rv_ x18 (by first | omega | assumption | decide | (simp only [List.length_nil, List.length_cons, List.length_take, List.length_drop]; omega)) (by omega) (by assumption) (M.enter (C := [blk lb5 (.cells #[lv_, (Value.int .i64 (max (0 : Int) (most : Int))), (Value.int .u64 la_)] 147), own 85 5 lv_ ls_.length (ls_.flatMap leaseE)]) (D := [fl A, blk b8 (.cells #[rv_, (Value.int .i64 (max (0 : Int) (most : Int))), (Value.int .u64 la_)] 80)]) [1, 2, 0, 3] rfl (by decide) ⟨(M.shr' 0 rfl), trivial⟩)) (fun v_ w_ ⟨rv29, v30, e_, m⟩ => ⟨(rv29, v30), e_, (M.leave (C := [blk lb5 (.cells #[lv_, (Value.int .i64 (max (0 : Int) (most : Int))), (Value.int .u64 la_)] 147), own 85 5 lv_ ls_.length (ls_.flatMap leaseE)]) (D := [fl A, blk b8 (.cells #[rv_, (Value.int .i64 (max (0 : Int) (most : Int))), (Value.int .u64 la_)] 80)]) [1, 2, 0, 3] rfl (by decide) m).sel (L' := [fl A, blk lb5 (.cells #[v30, (Value.int .i64 (max (0 : Int) (most : Int))), (Value.int .u64 ((stepL ls_ (max (0 : Int) (most : Int)) la_ x18).2))] 147), own 85 5 v30 (((stepL ls_ (max (0 : Int) (most : Int)) la_ x18).1).length) (((stepL ls_ (max (0 : Int) (most : Int)) la_ x18).1).flatMap leaseE), blk b8 (.cells #[rv_, (Value.int .i64 (max (0 : Int) (most : Int))), (Value.int .u64 la_)] 80)]) [2, 0, 1, 3] rfl (by decide), fun b hb => M.kept (C := [blk lb5 (.cells #[lv_, (Value.int .i64 (max (0 : Int) (most : Int))), (Value.int .u64 la_)] 147), own 85 5 lv_ ls_.length (ls_.flatMap leaseE)]) (D := [fl A, blk b8 (.cells #[rv_, (Value.int .i64 (max (0 : Int) (most : Int))), (Value.int .u64 la_)] 80)]) [1, 2, 0, 3] rfl (by decide) m (fl A) (List.mem_cons_self ..) b hb⟩)) (fun w => CallsF.func Try.en44 rfl) (fun jx v hp hin => ?_)
      obtain ⟨rv29, v30⟩ := jx
      replace hp := hp.symm; subst hp
      obtain ⟨_, _, hin⟩ := hin
      have sl31 : IsSl rv29 := SlAt.isSl (Mem.rep hin 0 rfl)
      have sl32 : IsSl v30 := SlAt.isSl (own_slAt (Mem.chunk hin 2 rfl).inv)
      have hle33 := SlAt.le' (own_slAt (Mem.chunk hin 2 rfl).inv)
      clear hin
      change TW _ _ _ _ _ _ _ _ (MemA _ _ _ [blk lb5 (.cells #[v30, (Value.int .i64 (max (0 : Int) (most : Int))), (Value.int .u64 ((stepL ls_ (max (0 : Int) (most : Int)) la_ x18).2))] 147), own 85 5 v30 (((stepL ls_ (max (0 : Int) (most : Int)) la_ x18).1).length) (((stepL ls_ (max (0 : Int) (most : Int)) la_ x18).1).flatMap leaseE), blk b8 (.cells #[rv_, (Value.int .i64 (max (0 : Int) (most : Int))), (Value.int .u64 la_)] 80)] [SlAt 5 rv29 ((stepL ls_ (max (0 : Int) (most : Int)) la_ x18).1).length (((stepL ls_ (max (0 : Int) (most : Int)) la_ x18).1).flatMap leaseE), SlAt 5 rv_ ls_.length (ls_.flatMap leaseE), SlAt 6 v acts.length (acts.flatMap lactE)])
      refine TW.pure (v := (Value.tuple #[(Value.agg #[rv29, (Value.int .i64 (max (0 : Int) (most : Int))), (Value.int .u64 ((stepL ls_ (max (0 : Int) (most : Int)) la_ x18).2))]), (Value.bool true)])) rfl (by decide) (by decide) rfl (fun w => (Step.move rfl)) ?_
      refine TW.pure (v := (Value.agg #[rv29, (Value.int .i64 (max (0 : Int) (most : Int))), (Value.int .u64 ((stepL ls_ (max (0 : Int) (most : Int)) la_ x18).2))])) rfl (by decide) (by decide) rfl (fun w => (Step.pure (by kernel_rfl))) ?_
      refine TW.pure (v := (Value.bool true)) rfl (by decide) (by decide) rfl (fun w => (Step.pure (by kernel_rfl))) ?_
      refine TW.new (obj := .cells #[(Value.slice none 0 0), (Value.int .i64 0), (Value.int .u64 0)] 80) (fun b => .pointer (some ⟨b, 0, none⟩)) rfl (by decide) (by decide) rfl (fun w => Step.alloc Try.el80.zero) (fun b34 => ?_)
      refine TW.store (v := (Value.agg #[rv29, (Value.int .i64 (max (0 : Int) (most : Int))), (Value.int .u64 ((stepL ls_ (max (0 : Int) (most : Int)) la_ x18).2))])) (cs := [rv29, (Value.int .i64 (max (0 : Int) (most : Int))), (Value.int .u64 ((stepL ls_ (max (0 : Int) (most : Int)) la_ x18).2))]) (c' := #[rv29, (Value.int .i64 (max (0 : Int) (most : Int))), (Value.int .u64 ((stepL ls_ (max (0 : Int) (most : Int)) la_ x18).2))]) 0 rfl rfl (by decide) rfl Try.el80.sized rfl rfl rfl rfl (Nat.le_of_ble_eq_true rfl) (cel_cons (IsSl.cel sl31) (cel_cons rfl (cel_cons rfl cel_nil))) rfl rfl (List.Sublist.cons _ (List.Sublist.cons _ (List.Sublist.cons _ (List.Sublist.cons_cons _ List.Sublist.slnil)))) (fun r h => (List.mem_cons_of_mem _ h)) ?_
      refine TW.pure (v := (Value.bool true)) rfl (by decide) (by decide) rfl (fun w => (Step.assign rfl)) ?_
      refine TW.done (fun w35 M => ?_)
      refine W.seq' ?_
      refine W.region rfl ?_
      refine WL.step (v := (Value.agg #[rv29, (Value.int .i64 (max (0 : Int) (most : Int))), (Value.int .u64 ((stepL ls_ (max (0 : Int) (most : Int)) la_ x18).2))])) rfl (Step.loadN Try.ag80 rfl (M.blk 0 rfl) (Nat.le_of_ble_eq_true rfl) rfl) ?_
      refine WL.store (v := (Value.agg #[rv29, (Value.int .i64 (max (0 : Int) (most : Int))), (Value.int .u64 ((stepL ls_ (max (0 : Int) (most : Int)) la_ x18).2))])) (cs := [rv29, (Value.int .i64 (max (0 : Int) (most : Int))), (Value.int .u64 ((stepL ls_ (max (0 : Int) (most : Int)) la_ x18).2))]) (c' := #[rv29, (Value.int .i64 (max (0 : Int) (most : Int))), (Value.int .u64 ((stepL ls_ (max (0 : Int) (most : Int)) la_ x18).2))]) M 3 rfl rfl Try.el80.sized rfl rfl rfl rfl (Nat.le_of_ble_eq_true rfl) (cel_cons (IsSl.cel sl31) (cel_cons rfl (cel_cons rfl cel_nil))) rfl rfl (fun w36 M => ?_)
      refine WL.nil ?_
      refine W.seq' ?_
      refine W.region rfl ?_
      refine WL.step (v := (Value.bool true)) rfl (Step.move rfl) ?_
      refine WL.step (v := (Value.bool false)) rfl (Step.pure (by kernel_rfl)) ?_
      refine WL.step (v := (Value.bool false)) rfl (Step.move rfl) ?_
      refine WL.step (v := (Value.pointer (some ⟨lb5, 0, none⟩))) rfl (Step.move rfl) ?_
      refine WL.step (v := (Value.agg #[rv29, (Value.int .i64 (max (0 : Int) (most : Int))), (Value.int .u64 ((stepL ls_ (max (0 : Int) (most : Int)) la_ x18).2))])) rfl (Step.loadN Try.ag80 rfl (M.blk 3 rfl) (Nat.le_of_ble_eq_true rfl) rfl) ?_
      refine WL.callX rfl (law_is lb5 v30 ((stepL ls_ (max (0 : Int) (most : Int)) la_ x18).1) (max (0 : Int) (most : Int)) ((stepL ls_ (max (0 : Int) (most : Int)) la_ x18).2) rv29 (by first | omega | assumption | decide | (simp only [List.length_nil, List.length_cons, List.length_take, List.length_drop]; omega)) (M.enterW0 ⟨(M.wideC0 1 rfl), ((M.wideC0 2 rfl).imp fun _ h => own_slAt h), (M.wideR0 0 rfl), trivial⟩)) (CallsF.func Try.en51 rfl) ?_
      rintro _ w37 ⟨rfl, m⟩
      replace M := M.leaveW0 m
      clear m
      replace M : Mem _ _ _ [blk b34 (.cells #[rv29, (Value.int .i64 (max (0 : Int) (most : Int))), (Value.int .u64 ((stepL ls_ (max (0 : Int) (most : Int)) la_ x18).2))] 80), blk lb5 (.cells #[v30, (Value.int .i64 (max (0 : Int) (most : Int))), (Value.int .u64 ((stepL ls_ (max (0 : Int) (most : Int)) la_ x18).2))] 147), own 85 5 v30 (((stepL ls_ (max (0 : Int) (most : Int)) la_ x18).1).length) (((stepL ls_ (max (0 : Int) (most : Int)) la_ x18).1).flatMap leaseE), blk b8 (.cells #[rv29, (Value.int .i64 (max (0 : Int) (most : Int))), (Value.int .u64 ((stepL ls_ (max (0 : Int) (most : Int)) la_ x18).2))] 80)] [SlAt 5 rv29 ((stepL ls_ (max (0 : Int) (most : Int)) la_ x18).1).length (((stepL ls_ (max (0 : Int) (most : Int)) la_ x18).1).flatMap leaseE), SlAt 5 rv_ ls_.length (ls_.flatMap leaseE), SlAt 6 v acts.length (acts.flatMap lactE)] _ := M
      refine WL.step (v := (Value.bool false)) rfl (Step.pure (by kernel_rfl)) ?_
      refine WL.step (v := (Value.bool false)) rfl (Step.pick (t := false) rfl rfl) ?_
      refine WL.nil ?_
      refine W.cond (t := false) rfl (fun h => by cases h) (fun _ => ?_)
      refine W.skip ?_
      refine W.region rfl ?_
      refine WL.step (v := (Value.int .i64 ↑i_)) rfl (Step.move rfl) ?_
      refine WL.step (v := (Value.int .i64 (↑i_ + 1))) rfl (Step.add rfl rfl (wrap_i64 (by omega))) ?_
      refine WL.step (v := (Value.int .i64 (↑i_ + 1))) rfl (Step.assign rfl) ?_
      refine WL.nil ?_
      replace M := M.sel (L' := [blk lb5 (.cells #[v30, (Value.int .i64 (max (0 : Int) (most : Int))), (Value.int .u64 ((stepL ls_ (max (0 : Int) (most : Int)) la_ x18).2))] 147), own 85 5 v30 (((stepL ls_ (max (0 : Int) (most : Int)) la_ x18).1).length) (((stepL ls_ (max (0 : Int) (most : Int)) la_ x18).1).flatMap leaseE), blk b8 (.cells #[rv29, (Value.int .i64 (max (0 : Int) (most : Int))), (Value.int .u64 ((stepL ls_ (max (0 : Int) (most : Int)) la_ x18).2))] 80)]) [1, 2, 3] rfl (by decide)
      replace M := M.facts (R' := [SlAt 5 rv29 ((stepL ls_ (max (0 : Int) (most : Int)) la_ x18).1).length (((stepL ls_ (max (0 : Int) (most : Int)) la_ x18).1).flatMap leaseE), SlAt 6 v acts.length (acts.flatMap lactE)]) (Facts.all ⟨M.shr' 0 rfl, M.shr' 2 rfl, trivial⟩)
      exact ⟨_, (by omega), i_ + 1, (stepL ls_ (max (0 : Int) (most : Int)) la_ x18).1, ((stepL ls_ (max (0 : Int) (most : Int)) la_ x18).2), _, _, ⟨(by omega), hli_.step, rfl⟩, ⟨rfl, rfl, rfl, rfl, rfl, rfl⟩, M⟩
    ·
      have h15p := of_decide_eq_false h15
      refine W.exit ?_
      refine thn_exit ?_
      refine thn_exit ?_
      refine inBlk_hit ?_
      refine W.seq' ?_
      refine W.region rfl ?_
      refine WL.step (v := (Value.pointer (some ⟨lb5, 0, none⟩))) rfl (Step.move rfl) ?_
      refine WL.step (v := (Value.agg #[rv_, (Value.int .i64 (max (0 : Int) (most : Int))), (Value.int .u64 la_)])) rfl (Step.loadN Try.ag80 rfl (M.blk 2 rfl) (Nat.le_of_ble_eq_true rfl) rfl) ?_
      refine WL.callX rfl (law_is lb5 lv_ ls_ (max (0 : Int) (most : Int)) la_ rv_ (by first | omega | assumption | decide | (simp only [List.length_nil, List.length_cons, List.length_take, List.length_drop]; omega)) (M.enterW0 ⟨(M.wideC0 0 rfl), ((M.wideC0 1 rfl).imp fun _ h => own_slAt h), (M.wideR0 0 rfl), trivial⟩)) (CallsF.func Try.en51 rfl) ?_
      rintro _ w38 ⟨rfl, m⟩
      replace M := M.leaveW0 m
      clear m
      replace M : Mem _ _ _ [blk lb5 (.cells #[lv_, (Value.int .i64 (max (0 : Int) (most : Int))), (Value.int .u64 la_)] 147), own 85 5 lv_ ls_.length (ls_.flatMap leaseE), blk b8 (.cells #[rv_, (Value.int .i64 (max (0 : Int) (most : Int))), (Value.int .u64 la_)] 80)] [SlAt 5 rv_ ls_.length (ls_.flatMap leaseE), SlAt 6 v acts.length (acts.flatMap lactE)] _ := M
      refine WL.step (v := (Value.bool true)) rfl (Step.move rfl) ?_
      refine WL.callX rfl (law_works  (M.enterW0 trivial)) (CallsF.func Try.en41 rfl) ?_
      rintro _ w39 ⟨rfl, m⟩
      replace M := M.leaveW0 m
      clear m
      replace M : Mem _ _ _ [blk lb5 (.cells #[lv_, (Value.int .i64 (max (0 : Int) (most : Int))), (Value.int .u64 la_)] 147), own 85 5 lv_ ls_.length (ls_.flatMap leaseE), blk b8 (.cells #[rv_, (Value.int .i64 (max (0 : Int) (most : Int))), (Value.int .u64 la_)] 80)] [SlAt 5 rv_ ls_.length (ls_.flatMap leaseE), SlAt 6 v acts.length (acts.flatMap lactE)] _ := M
      refine WL.step (v := (Value.bool true)) rfl (Step.pick (t := true) rfl rfl) ?_
      refine WL.step (v := (Value.bool true)) rfl (Step.assign rfl) ?_
      refine WL.nil ?_
      refine W.ret ?_
      refine ⟨.inl rfl, (Value.bool true), ?_, ?_⟩
      · exact ⟨rfl, (Res.r1 (show RV _ _ _ (.tmp 4) (Value.bool true) from by exact rfl))⟩
      refine ⟨?_, M.close [] rfl (by decide) trivial⟩
      rfl
end Go.Proofs
