/- Walks. -/
import Derived.Test.YtlehkjkpgmkbiaaTrL12
import Derived.Test.YtlehkjkpgmkbiaaTrLease4
set_option maxRecDepth 100000
set_option linter.all false
namespace Go.Proofs
open Go Tp


set_option maxHeartbeats 16000000 in
theorem law_stays {G : Nat → Prop} {w : World} (most : Int) (v : Value) (ahead : List LAct) (u : Value) (behind : List LAct) (a : LAct)   (M : Mem G (fun _ => False) w [] [SlAt 6 v ahead.length (ahead.flatMap lactE), SlAt 6 u behind.length (behind.flatMap lactE)] w) : Rets Try.prog 8 #[(Value.int .i64 most), v, u, (Value.agg #[(Value.int .i64 a.op), (Value.int .i64 a.owner), (Value.int .u64 a.id), (Value.int .u64 a.n), (Value.int .u64 a.till), (Value.bool a.cursor)])] w fun r w' => r = (Value.bool true) ∧ Mem G (fun _ => False) w [] [] w' := by
  refine Rets.enter 241 _ Try.func8 rfl Try.ntmps8 Try.results8 (by simp) ?_
  have hle1 := SlAt.le' (M.rep 0 rfl)
  have hle2 := SlAt.le' (M.rep 1 rfl)
  have sl3 : IsSl v := SlAt.isSl (Mem.rep M 0 rfl)
  have sl4 : IsSl u := SlAt.isSl (Mem.rep M 1 rfl)
  refine W.seq' ?_
  refine W.region rfl ?_
  refine WL.box (v := (Value.agg #[(Value.int .i64 a.op), (Value.int .i64 a.owner), (Value.int .u64 a.id), (Value.int .u64 a.n), (Value.int .u64 a.till), (Value.bool a.cursor)])) (c := #[(Value.int .i64 a.op), (Value.int .i64 a.owner), (Value.int .u64 a.id), (Value.int .u64 a.n), (Value.int .u64 a.till), (Value.bool a.cursor)]) M rfl rfl rfl (fun b5 w6 hb5 M => ?_)
  refine WL.step (v := (Value.bool false)) rfl (Step.assign rfl) ?_
  refine WL.nil ?_
  refine W.seq' ?_
  refine W.seq' ?_
  refine W.region rfl ?_
  refine WL.step (v := v) rfl (Step.move rfl) ?_
  refine WL.step (v := (Value.int .i64 ↑ahead.length)) rfl (Step.lenSl Try.un73 rfl (M.rep 0 rfl)) ?_
  refine WL.step (v := (Value.bool (decide ((↑ahead.length : Int) > (30 : Int))))) rfl (Step.pure (by kernel_rfl)) ?_
  refine WL.step (v := (Value.bool (decide ((↑ahead.length : Int) > (30 : Int))))) rfl (Step.move rfl) ?_
  rcases Bool.eq_false_or_eq_true (decide ((↑ahead.length : Int) > (30 : Int))) with h7 | h7
  ·
    have h7p := of_decide_eq_true h7
    rw [h7]
    refine WL.pass rfl ?_
    refine WL.pass rfl ?_
    refine WL.pass rfl ?_
    refine WL.step (v := (Value.bool true)) rfl (Step.pick (t := true) rfl rfl) ?_
    refine WL.nil ?_
    refine W.cond (t := true) rfl (fun _ => ?_) (fun h => by cases h)
    refine W.seq' ?_
    refine W.region rfl ?_
    refine WL.callX rfl (law_works  (M.enterW0 trivial)) (CallsF.func Try.en41 rfl) ?_
    rintro _ w8 ⟨rfl, m⟩
    replace M := M.leaveW0 m
    clear m
    replace M : Mem _ _ _ [blk b5 (.cells #[(Value.int .i64 a.op), (Value.int .i64 a.owner), (Value.int .u64 a.id), (Value.int .u64 a.n), (Value.int .u64 a.till), (Value.bool a.cursor)] 75)] [SlAt 6 v ahead.length (ahead.flatMap lactE), SlAt 6 u behind.length (behind.flatMap lactE)] _ := M
    refine WL.step (v := (Value.bool true)) rfl (Step.assign rfl) ?_
    refine WL.nil ?_
    refine W.ret ?_
    refine ⟨.inl rfl, (Value.bool true), ?_, ?_⟩
    · exact ⟨rfl, (Res.r1 (show RV _ _ _ (.tmp 8) (Value.bool true) from by exact rfl))⟩
    refine ⟨?_, M.close [] rfl (by decide) trivial⟩
    rfl
  ·
    have h7p := of_decide_eq_false h7
    rw [h7]
    refine WL.step (v := u) rfl (Step.move rfl) ?_
    refine WL.step (v := (Value.int .i64 ↑behind.length)) rfl (Step.lenSl Try.un73 rfl (M.rep 1 rfl)) ?_
    refine WL.step (v := (Value.bool (decide ((↑behind.length : Int) > (30 : Int))))) rfl (Step.pure (by kernel_rfl)) ?_
    refine WL.step (v := (Value.bool (decide ((↑behind.length : Int) > (30 : Int))))) rfl (Step.pick (t := false) rfl rfl) ?_
    refine WL.nil ?_
    refine W.cond (t := decide ((↑behind.length : Int) > (30 : Int))) rfl (fun h9 => ?_) (fun h9 => ?_)
    ·
      have h9p := of_decide_eq_true h9
      refine W.seq' ?_
      refine W.region rfl ?_
      refine WL.callX rfl (law_works  (M.enterW0 trivial)) (CallsF.func Try.en41 rfl) ?_
      rintro _ w10 ⟨rfl, m⟩
      replace M := M.leaveW0 m
      clear m
      replace M : Mem _ _ _ [blk b5 (.cells #[(Value.int .i64 a.op), (Value.int .i64 a.owner), (Value.int .u64 a.id), (Value.int .u64 a.n), (Value.int .u64 a.till), (Value.bool a.cursor)] 75)] [SlAt 6 v ahead.length (ahead.flatMap lactE), SlAt 6 u behind.length (behind.flatMap lactE)] _ := M
      refine WL.step (v := (Value.bool true)) rfl (Step.assign rfl) ?_
      refine WL.nil ?_
      refine W.ret ?_
      refine ⟨.inl rfl, (Value.bool true), ?_, ?_⟩
      · exact ⟨rfl, (Res.r1 (show RV _ _ _ (.tmp 8) (Value.bool true) from by exact rfl))⟩
      refine ⟨?_, M.close [] rfl (by decide) trivial⟩
      rfl
    ·
      have h9p := of_decide_eq_false h9
      refine W.skip ?_
      refine W.seq' ?_
      refine W.region rfl ?_
      refine WL.step (v := (Value.int .i64 most)) rfl (Step.move rfl) ?_
      refine WL.callX rfl (le_new most (M.enterW0 trivial)) (CallsF.func Try.en42 rfl) ?_
      rintro _ w12 ⟨lb11, rfl, m⟩
      replace M := M.leaveW0 m
      clear m
      replace M : Mem _ _ _ [blk lb11 (.cells #[(Value.slice none 0 0), (Value.int .i64 (max (0 : Int) (most : Int))), (Value.int .u64 0)] 147), blk b5 (.cells #[(Value.int .i64 a.op), (Value.int .i64 a.owner), (Value.int .u64 a.id), (Value.int .u64 a.n), (Value.int .u64 a.till), (Value.bool a.cursor)] 75)] [SlAt 6 v ahead.length (ahead.flatMap lactE), SlAt 6 u behind.length (behind.flatMap lactE)] _ := M
      refine WL.step (v := (Value.pointer (some ⟨lb11, 0, none⟩))) rfl (Step.assign rfl) ?_
      refine WL.nil ?_
      refine W.seq' ?_
      refine W.region rfl ?_
      refine WL.step (v := (Value.int .i64 most)) rfl (Step.move rfl) ?_
      refine WL.callX rfl (ref_new most (M.enterW0 trivial)) (CallsF.func Try.en43 rfl) ?_
      rintro _ w13 ⟨rfl, m⟩
      replace M := M.leaveW0 m
      clear m
      replace M : Mem _ _ _ [blk lb11 (.cells #[(Value.slice none 0 0), (Value.int .i64 (max (0 : Int) (most : Int))), (Value.int .u64 0)] 147), blk b5 (.cells #[(Value.int .i64 a.op), (Value.int .i64 a.owner), (Value.int .u64 a.id), (Value.int .u64 a.n), (Value.int .u64 a.till), (Value.bool a.cursor)] 75)] [SlAt 6 v ahead.length (ahead.flatMap lactE), SlAt 6 u behind.length (behind.flatMap lactE)] _ := M
      refine WL.alloc (c := #[(Value.slice none 0 0), (Value.int .i64 0), (Value.int .u64 0)]) M rfl Try.el80.zero rfl (fun b14 w15 hb14 M => ?_)
      refine WL.store (v := (Value.agg #[(Value.slice none 0 0), (Value.int .i64 (max (0 : Int) (most : Int))), (Value.int .u64 0)])) (cs := [(Value.slice none 0 0), (Value.int .i64 (max (0 : Int) (most : Int))), (Value.int .u64 0)]) (c' := #[(Value.slice none 0 0), (Value.int .i64 (max (0 : Int) (most : Int))), (Value.int .u64 0)]) M 0 rfl rfl Try.el80.sized rfl rfl rfl rfl (Nat.le_of_ble_eq_true rfl) (cel_cons rfl (cel_cons rfl (cel_cons rfl cel_nil))) rfl rfl (fun w16 M => ?_)
      refine WL.nil ?_
      refine W.seq' ?_
      refine W.seq' ?_
      refine W.region rfl ?_
      refine WL.step (v := (Value.int .i64 0)) rfl (Step.assign rfl) ?_
      refine WL.nil ?_
      refine W.block ?_
      replace M := M.add_pure (r' := SlAt 5 (Value.slice none 0 0) ([] : List Lease).length (([] : List Lease).flatMap leaseE)) (fun w => SlAt.nil 5 w)
      replace M : Mem _ _ _ [blk b14 (.cells #[(Value.slice none 0 0), (Value.int .i64 (max (0 : Int) (most : Int))), (Value.int .u64 0)] 80), blk lb11 (.cells #[(Value.slice none 0 0), (Value.int .i64 (max (0 : Int) (most : Int))), (Value.int .u64 0)] 147), blk b5 (.cells #[(Value.int .i64 a.op), (Value.int .i64 a.owner), (Value.int .u64 a.id), (Value.int .u64 a.n), (Value.int .u64 a.till), (Value.bool a.cursor)] 75)] [SlAt 5 (Value.slice none 0 0) ([] : List Lease).length (([] : List Lease).flatMap leaseE), SlAt 6 v ahead.length (ahead.flatMap lactE), SlAt 6 u behind.length (behind.flatMap lactE)] _ := M
      replace M := M.ownNil 85 5
      replace M : Mem _ _ _ [own 85 5 (Value.slice none 0 0) (([] : List Lease).length) (([] : List Lease).flatMap leaseE), blk b14 (.cells #[(Value.slice none 0 0), (Value.int .i64 (max (0 : Int) (most : Int))), (Value.int .u64 0)] 80), blk lb11 (.cells #[(Value.slice none 0 0), (Value.int .i64 (max (0 : Int) (most : Int))), (Value.int .u64 0)] 147), blk b5 (.cells #[(Value.int .i64 a.op), (Value.int .i64 a.owner), (Value.int .u64 a.id), (Value.int .u64 a.n), (Value.int .u64 a.till), (Value.bool a.cursor)] 75)] [SlAt 5 (Value.slice none 0 0) ([] : List Lease).length (([] : List Lease).flatMap leaseE), SlAt 6 v ahead.length (ahead.flatMap lactE), SlAt 6 u behind.length (behind.flatMap lactE)] _ := M
      replace M := M.sel (L' := [blk lb11 (.cells #[(Value.slice none 0 0), (Value.int .i64 (max (0 : Int) (most : Int))), (Value.int .u64 0)] 147), own 85 5 (Value.slice none 0 0) (([] : List Lease).length) (([] : List Lease).flatMap leaseE), blk b14 (.cells #[(Value.slice none 0 0), (Value.int .i64 (max (0 : Int) (most : Int))), (Value.int .u64 0)] 80), blk b5 (.cells #[(Value.int .i64 a.op), (Value.int .i64 a.owner), (Value.int .u64 a.id), (Value.int .u64 a.n), (Value.int .u64 a.till), (Value.bool a.cursor)] 75)]) [2, 0, 1, 3] rfl (by decide)
      replace M : Mem _ _ _ [blk lb11 (.cells #[(Value.slice none 0 0), (Value.int .i64 (max (0 : Int) (most : Int))), (Value.int .u64 0)] 147), own 85 5 (Value.slice none 0 0) (([] : List Lease).length) (([] : List Lease).flatMap leaseE), blk b14 (.cells #[(Value.slice none 0 0), (Value.int .i64 (max (0 : Int) (most : Int))), (Value.int .u64 0)] 80), blk b5 (.cells #[(Value.int .i64 a.op), (Value.int .i64 a.owner), (Value.int .u64 a.id), (Value.int .u64 a.n), (Value.int .u64 a.till), (Value.bool a.cursor)] 75)] [SlAt 5 (Value.slice none 0 0) ([] : List Lease).length (([] : List Lease).flatMap leaseE), SlAt 6 v ahead.length (ahead.flatMap lactE), SlAt 6 u behind.length (behind.flatMap lactE)] _ := M
      refine W.loop (fun kk ρ w' => ∃ (ia_ : Nat) (ls_ : List Lease) (la_ : Int) (lv_ : Value) (rv_ : Value), ((ia_ ≤ ahead.length) ∧ (LInv ia_ ls_ la_) ∧ kk = ahead.length - ia_) ∧ ρ.has [(0, (Value.int .i64 most)), (1, v), (2, u), (7, (Value.pointer (some ⟨b5, 0, none⟩))), (8, (Value.bool false)), (9, (Value.pointer (some ⟨lb11, 0, none⟩))), (10, (Value.pointer (some ⟨b14, 0, none⟩))), (11, (Value.int .i64 ↑ia_))] ∧ Mem G (fun _ => False) w [blk lb11 (.cells #[lv_, (Value.int .i64 (max (0 : Int) (most : Int))), (Value.int .u64 la_)] 147), own 85 5 lv_ ls_.length (ls_.flatMap leaseE), blk b14 (.cells #[rv_, (Value.int .i64 (max (0 : Int) (most : Int))), (Value.int .u64 la_)] 80), blk b5 (.cells #[(Value.int .i64 a.op), (Value.int .i64 a.owner), (Value.int .u64 a.id), (Value.int .u64 a.n), (Value.int .u64 a.till), (Value.bool a.cursor)] 75)] [SlAt 5 rv_ ls_.length (ls_.flatMap leaseE), SlAt 6 v ahead.length (ahead.flatMap lactE), SlAt 6 u behind.length (behind.flatMap lactE)]  w') _ ⟨0, ([] : List Lease), 0, _, _, ⟨(Nat.zero_le _), LInv.nil, rfl⟩, ⟨rfl, rfl, rfl, rfl, rfl, rfl, rfl, rfl, rfl, rfl⟩, M⟩ ?_
      rintro _ ρ18 w17 ⟨ia_, ls_, la_, lv_, rv_, ⟨hi19, hi20, rfl⟩, hρ, M⟩
      obtain ⟨ρ18, rfl⟩ := hρ.know
      clear hρ
      have hli_ := hi20
      have hli1 := hli_.ids
      have hli2 := hli_.pos
      have hli3 := hli_.few
      have hli4 := hli_.len
      refine W.seq' ?_
      refine W.seq' ?_
      refine W.region rfl ?_
      refine WL.step (v := (Value.int .i64 ↑ia_)) rfl (Step.move rfl) ?_
      refine WL.step (v := v) rfl (Step.move rfl) ?_
      refine WL.step (v := (Value.int .i64 ↑ahead.length)) rfl (Step.lenSl Try.un73 rfl (M.rep 1 rfl)) ?_
      refine WL.step (v := (Value.bool (decide ((↑ia_ : Int) < (↑ahead.length : Int))))) rfl (Step.pure (by kernel_rfl)) ?_
      refine WL.nil ?_
      refine W.cond (t := decide ((↑ia_ : Int) < (↑ahead.length : Int))) rfl (fun h21 => ?_) (fun h21 => ?_)
      ·
        have h21p := of_decide_eq_true h21
        refine W.skip ?_
        refine W.seq' ?_
        refine W.block ?_
        obtain ⟨cap23, hb22⟩ := SlAt.base (M.rep 1 rfl) (by omega)
        obtain ⟨x24, hx24⟩ := elem_of_lt (xs := ahead) (i := ia_) (by omega)
        refine W.drawn M [0, 1, 2, 3, 4, 5, 6, 7, 8, 9, 10] [1, 6, 10] [] [blk b5 (.cells #[(Value.int .i64 a.op), (Value.int .i64 a.owner), (Value.int .u64 a.id), (Value.int .u64 a.n), (Value.int .u64 a.till), (Value.bool a.cursor)] 75)] [SlAt 5 rv_ ls_.length (ls_.flatMap leaseE), SlAt 6 v ahead.length (ahead.flatMap lactE), SlAt 6 u behind.length (behind.flatMap lactE)] (List.Sublist.cons _ (List.Sublist.cons _ (List.Sublist.cons _ (List.Sublist.cons_cons _ List.Sublist.slnil)))) (fun _ h => h) Try.mixed (by kernel_rfl) ?_
        refine TW.pure (v := (Value.pointer (some ⟨lb11, 0, none⟩))) rfl (by decide) (by decide) rfl (fun w => (Step.move rfl)) ?_
        refine TW.readL (v := (Value.agg #[rv_, (Value.int .i64 (max (0 : Int) (most : Int))), (Value.int .u64 la_)])) rfl (by decide) rfl (List.Sublist.cons _ (List.Sublist.cons _ (List.Sublist.cons _ (List.Sublist.cons_cons _ List.Sublist.slnil)))) (fun r h => h) (fun A w M => (Step.loadN Try.ag80 rfl (M.blk 3 rfl) (Nat.le_of_ble_eq_true rfl) rfl)) ?_
        refine TW.pure (v := v) rfl (by decide) (by decide) rfl (fun w => (Step.move rfl)) ?_
        refine TW.pure (v := (Value.int .i64 ↑ia_)) rfl (by decide) (by decide) rfl (fun w => (Step.move rfl)) ?_
        refine TW.pure (v := (Value.pointer (some ⟨(sBlk v), sOff v + ia_ * 6, none⟩))) rfl (by decide) (by decide) rfl (fun w => (Step.indexAddr (i := ia_) (Try.un73).run Try.el75.sized rfl rfl (by omega) hb22 (by omega))) ?_
        refine TW.read (v := (Value.agg #[(Value.int .i64 x24.op), (Value.int .i64 x24.owner), (Value.int .u64 x24.id), (Value.int .u64 x24.n), (Value.int .u64 x24.till), (Value.bool x24.cursor)])) rfl (by decide) (by decide) rfl (fun A w M => (Step.loadEN (k := 0) (cs' := [(Value.int .i64 x24.op), (Value.int .i64 x24.owner), (Value.int .u64 x24.id), (Value.int .u64 x24.n), (Value.int .u64 x24.till), (Value.bool x24.cursor)]) Try.ag75 (flat_ec (M.rep 1 rfl) hx24 lactE_len) (by decide) rfl rfl rfl)) ?_
        refine TW.callX (ι := Value × Value) (fun jx v_ => v_ = (Value.tuple #[(Value.agg #[jx.1, (Value.int .i64 (max (0 : Int) (most : Int))), (Value.int .u64 ((stepL ls_ (max (0 : Int) (most : Int)) la_ x24).2))]), (Value.bool true)])) (fun jx => [blk lb11 (.cells #[jx.2, (Value.int .i64 (max (0 : Int) (most : Int))), (Value.int .u64 ((stepL ls_ (max (0 : Int) (most : Int)) la_ x24).2))] 147), own 85 5 jx.2 (((stepL ls_ (max (0 : Int) (most : Int)) la_ x24).1).length) (((stepL ls_ (max (0 : Int) (most : Int)) la_ x24).1).flatMap leaseE), blk b14 (.cells #[rv_, (Value.int .i64 (max (0 : Int) (most : Int))), (Value.int .u64 la_)] 80), blk b5 (.cells #[(Value.int .i64 a.op), (Value.int .i64 a.owner), (Value.int .u64 a.id), (Value.int .u64 a.n), (Value.int .u64 a.till), (Value.bool a.cursor)] 75)]) (fun jx => [SlAt 5 jx.1 ((stepL ls_ (max (0 : Int) (most : Int)) la_ x24).1).length (((stepL ls_ (max (0 : Int) (most : Int)) la_ x24).1).flatMap leaseE), SlAt 5 rv_ ls_.length (ls_.flatMap leaseE), SlAt 6 v ahead.length (ahead.flatMap lactE), SlAt 6 u behind.length (behind.flatMap lactE)]) rfl (by decide) rfl (fun jx => (List.Sublist.cons _ (List.Sublist.cons _ (List.Sublist.cons _ (List.Sublist.cons_cons _ List.Sublist.slnil))))) (fun jx r h => (List.mem_cons_of_mem _ h)) (fun A w M => Rets.mono (law_does lb11 lv_ ls_ (max (0 : Int) (most : Int)) la_ rv_ x24 (by first | omega | assumption | decide | (simp only [List.length_nil, List.length_cons, List.length_take, List.length_drop]; omega)) (by omega) (by assumption) (M.enter (C := [blk lb11 (.cells #[lv_, (Value.int .i64 (max (0 : Int) (most : Int))), (Value.int .u64 la_)] 147), own 85 5 lv_ ls_.length (ls_.flatMap leaseE)]) (D := [fl A, blk b14 (.cells #[rv_, (Value.int .i64 (max (0 : Int) (most : Int))), (Value.int .u64 la_)] 80), blk b5 (.cells #[(Value.int .i64 a.op), (Value.int .i64 a.owner), (Value.int .u64 a.id), (Value.int .u64 a.n), (Value.int .u64 a.till), (Value.bool a.cursor)] 75)]) [1, 2, 0, 3, 4] rfl (by decide) ⟨(M.shr' 0 rfl), trivial⟩)) (fun v_ w_ ⟨rv31, v32, e_, m⟩ => ⟨(rv31, v32), e_, (M.leave (C := [blk lb11 (.cells #[lv_, (Value.int .i64 (max (0 : Int) (most : Int))), (Value.int .u64 la_)] 147), own 85 5 lv_ ls_.length (ls_.flatMap leaseE)]) (D := [fl A, blk b14 (.cells #[rv_, (Value.int .i64 (max (0 : Int) (most : Int))), (Value.int .u64 la_)] 80), blk b5 (.cells #[(Value.int .i64 a.op), (Value.int .i64 a.owner), (Value.int .u64 a.id), (Value.int .u64 a.n), (Value.int .u64 a.till), (Value.bool a.cursor)] 75)]) [1, 2, 0, 3, 4] rfl (by decide) m).sel (L' := [fl A, blk lb11 (.cells #[v32, (Value.int .i64 (max (0 : Int) (most : Int))), (Value.int .u64 ((stepL ls_ (max (0 : Int) (most : Int)) la_ x24).2))] 147), own 85 5 v32 (((stepL ls_ (max (0 : Int) (most : Int)) la_ x24).1).length) (((stepL ls_ (max (0 : Int) (most : Int)) la_ x24).1).flatMap leaseE), blk b14 (.cells #[rv_, (Value.int .i64 (max (0 : Int) (most : Int))), (Value.int .u64 la_)] 80), blk b5 (.cells #[(Value.int .i64 a.op), (Value.int .i64 a.owner), (Value.int .u64 a.id), (Value.int .u64 a.n), (Value.int .u64 a.till), (Value.bool a.cursor)] 75)]) [2, 0, 1, 3, 4] rfl (by decide), fun b hb => M.kept (C := [blk lb11 (.cells #[lv_, (Value.int .i64 (max (0 : Int) (most : Int))), (Value.int .u64 la_)] 147), own 85 5 lv_ ls_.length (ls_.flatMap leaseE)]) (D := [fl A, blk b14 (.cells #[rv_, (Value.int .i64 (max (0 : Int) (most : Int))), (Value.int .u64 la_)] 80), blk b5 (.cells #[(Value.int .i64 a.op), (Value.int .i64 a.owner), (Value.int .u64 a.id), (Value.int .u64 a.n), (Value.int .u64 a.till), (Value.bool a.cursor)] 75)]) [1, 2, 0, 3, 4] rfl (by decide) m (fl A) (List.mem_cons_self ..) b hb⟩)) (fun w => CallsF.func Try.en44 rfl) (fun jx v hp hin => ?_)
        obtain ⟨rv31, v32⟩ := jx
        replace hp := hp.symm; subst hp
        obtain ⟨_, _, hin⟩ := hin
        have sl33 : IsSl rv31 := SlAt.isSl (Mem.rep hin 0 rfl)
        have sl34 : IsSl v32 := SlAt.isSl (own_slAt (Mem.chunk hin 2 rfl).inv)
        have hle35 := SlAt.le' (own_slAt (Mem.chunk hin 2 rfl).inv)
        clear hin
        change TW _ _ _ _ _ _ _ _ (MemA _ _ _ [blk lb11 (.cells #[v32, (Value.int .i64 (max (0 : Int) (most : Int))), (Value.int .u64 ((stepL ls_ (max (0 : Int) (most : Int)) la_ x24).2))] 147), own 85 5 v32 (((stepL ls_ (max (0 : Int) (most : Int)) la_ x24).1).length) (((stepL ls_ (max (0 : Int) (most : Int)) la_ x24).1).flatMap leaseE), blk b14 (.cells #[rv_, (Value.int .i64 (max (0 : Int) (most : Int))), (Value.int .u64 la_)] 80), blk b5 (.cells #[(Value.int .i64 a.op), (Value.int .i64 a.owner), (Value.int .u64 a.id), (Value.int .u64 a.n), (Value.int .u64 a.till), (Value.bool a.cursor)] 75)] [SlAt 5 rv31 ((stepL ls_ (max (0 : Int) (most : Int)) la_ x24).1).length (((stepL ls_ (max (0 : Int) (most : Int)) la_ x24).1).flatMap leaseE), SlAt 5 rv_ ls_.length (ls_.flatMap leaseE), SlAt 6 v ahead.length (ahead.flatMap lactE), SlAt 6 u behind.length (behind.flatMap lactE)])
        refine TW.pure (v := (Value.tuple #[(Value.agg #[rv31, (Value.int .i64 (max (0 : Int) (most : Int))), (Value.int .u64 ((stepL ls_ (max (0 : Int) (most : Int)) la_ x24).2))]), (Value.bool true)])) rfl (by decide) (by decide) rfl (fun w => (Step.move rfl)) ?_
        refine TW.pure (v := (Value.agg #[rv31, (Value.int .i64 (max (0 : Int) (most : Int))), (Value.int .u64 ((stepL ls_ (max (0 : Int) (most : Int)) la_ x24).2))])) rfl (by decide) (by decide) rfl (fun w => (Step.pure (by kernel_rfl))) ?_
        refine TW.pure (v := (Value.bool true)) rfl (by decide) (by decide) rfl (fun w => (Step.pure (by kernel_rfl))) ?_
        refine TW.store (v := (Value.agg #[rv31, (Value.int .i64 (max (0 : Int) (most : Int))), (Value.int .u64 ((stepL ls_ (max (0 : Int) (most : Int)) la_ x24).2))])) (cs := [rv31, (Value.int .i64 (max (0 : Int) (most : Int))), (Value.int .u64 ((stepL ls_ (max (0 : Int) (most : Int)) la_ x24).2))]) (c' := #[rv31, (Value.int .i64 (max (0 : Int) (most : Int))), (Value.int .u64 ((stepL ls_ (max (0 : Int) (most : Int)) la_ x24).2))]) 2 rfl rfl (by decide) rfl Try.el80.sized rfl rfl rfl rfl (Nat.le_of_ble_eq_true rfl) (cel_cons (IsSl.cel sl33) (cel_cons rfl (cel_cons rfl cel_nil))) rfl rfl (List.Sublist.cons _ (List.Sublist.cons _ (List.Sublist.cons _ (List.Sublist.cons_cons _ List.Sublist.slnil)))) (fun r h => (List.mem_cons_of_mem _ h)) ?_
        refine TW.done (fun w36 M => ?_)
        refine W.region rfl ?_
        refine WL.step (v := (Value.int .i64 ↑ia_)) rfl (Step.move rfl) ?_
        refine WL.step (v := (Value.int .i64 (↑ia_ + 1))) rfl (Step.add rfl rfl (wrap_i64 (by omega))) ?_
        refine WL.step (v := (Value.int .i64 (↑ia_ + 1))) rfl (Step.assign rfl) ?_
        refine WL.nil ?_
        replace M := M.facts (R' := [SlAt 5 rv31 ((stepL ls_ (max (0 : Int) (most : Int)) la_ x24).1).length (((stepL ls_ (max (0 : Int) (most : Int)) la_ x24).1).flatMap leaseE), SlAt 6 v ahead.length (ahead.flatMap lactE), SlAt 6 u behind.length (behind.flatMap lactE)]) (Facts.all ⟨M.shr' 0 rfl, M.shr' 2 rfl, M.shr' 3 rfl, trivial⟩)
        exact ⟨_, (by omega), ia_ + 1, (stepL ls_ (max (0 : Int) (most : Int)) la_ x24).1, ((stepL ls_ (max (0 : Int) (most : Int)) la_ x24).2), _, _, ⟨(by omega), hli_.step, rfl⟩, ⟨rfl, rfl, rfl, rfl, rfl, rfl, rfl, rfl, rfl, rfl⟩, M⟩
      ·
        have h21p := of_decide_eq_false h21
        refine W.exit ?_
        refine thn_exit ?_
        refine thn_exit ?_
        refine inBlk_hit ?_
        refine W.seq' ?_
        refine W.region rfl ?_
        refine WL.step (v := (Value.pointer (some ⟨lb11, 0, none⟩))) rfl (Step.move rfl) ?_
        refine WL.callX rfl (le_len lb11 lv_ ls_ (max (0 : Int) (most : Int)) la_ (M.enterW0 ⟨(M.wideC0 0 rfl), ((M.wideC0 1 rfl).imp fun _ h => own_slAt h), trivial⟩)) (CallsF.func Try.en45 rfl) ?_
        rintro _ w37 ⟨rfl, m⟩
        replace M := M.leaveW0 m
        clear m
        replace M : Mem _ _ _ [blk lb11 (.cells #[lv_, (Value.int .i64 (max (0 : Int) (most : Int))), (Value.int .u64 la_)] 147), own 85 5 lv_ ls_.length (ls_.flatMap leaseE), blk b14 (.cells #[rv_, (Value.int .i64 (max (0 : Int) (most : Int))), (Value.int .u64 la_)] 80), blk b5 (.cells #[(Value.int .i64 a.op), (Value.int .i64 a.owner), (Value.int .u64 a.id), (Value.int .u64 a.n), (Value.int .u64 a.till), (Value.bool a.cursor)] 75)] [SlAt 5 rv_ ls_.length (ls_.flatMap leaseE), SlAt 6 v ahead.length (ahead.flatMap lactE), SlAt 6 u behind.length (behind.flatMap lactE)] _ := M
        refine WL.step (v := (Value.int .i64 ↑ls_.length)) rfl (Step.assign rfl) ?_
        refine WL.nil ?_
        refine W.seq' ?_
        refine W.region rfl ?_
        refine WL.step (v := (Value.pointer (some ⟨lb11, 0, none⟩))) rfl (Step.move rfl) ?_
        refine WL.step (v := (Value.pointer (some ⟨b5, 1, none⟩))) rfl (Step.pure (by kernel_rfl)) ?_
        refine WL.step (v := (Value.int .i64 a.owner)) rfl (Step.load1 Try.sc3 rfl ((M.cell 3 rfl 1).trans rfl)) ?_
        refine WL.step (v := (Value.pointer (some ⟨b5, 3, none⟩))) rfl (Step.pure (by kernel_rfl)) ?_
        refine WL.step (v := (Value.int .u64 a.n)) rfl (Step.load1 Try.sc23 rfl ((M.cell 3 rfl 3).trans rfl)) ?_
        refine WL.step (v := (Value.pointer (some ⟨b5, 4, none⟩))) rfl (Step.pure (by kernel_rfl)) ?_
        refine WL.step (v := (Value.int .u64 a.till)) rfl (Step.load1 Try.sc23 rfl ((M.cell 3 rfl 4).trans rfl)) ?_
        refine WL.step (v := (Value.pointer (some ⟨b5, 5, none⟩))) rfl (Step.pure (by kernel_rfl)) ?_
        refine WL.step (v := (Value.bool a.cursor)) rfl (Step.load1 Try.sc4 rfl ((M.cell 3 rfl 5).trans rfl)) ?_
        refine WL.callX rfl (le_grant lb11 lv_ ls_ (max (0 : Int) (most : Int)) la_ a.owner a.n a.till a.cursor (by first | omega | assumption | decide | (simp only [List.length_nil, List.length_cons, List.length_take, List.length_drop]; omega)) (by omega) (M.enterW (C := [blk lb11 (.cells #[lv_, (Value.int .i64 (max (0 : Int) (most : Int))), (Value.int .u64 la_)] 147), own 85 5 lv_ ls_.length (ls_.flatMap leaseE)]) (D := [blk b14 (.cells #[rv_, (Value.int .i64 (max (0 : Int) (most : Int))), (Value.int .u64 la_)] 80), blk b5 (.cells #[(Value.int .i64 a.op), (Value.int .i64 a.owner), (Value.int .u64 a.id), (Value.int .u64 a.n), (Value.int .u64 a.till), (Value.bool a.cursor)] 75)]) [0, 1, 2, 3] rfl (by decide) trivial)) (CallsF.func Try.en46 rfl) ?_
        rintro _ w39 ⟨v38, rfl, m⟩
        replace M := M.leaveW (C := [blk lb11 (.cells #[lv_, (Value.int .i64 (max (0 : Int) (most : Int))), (Value.int .u64 la_)] 147), own 85 5 lv_ ls_.length (ls_.flatMap leaseE)]) (D := [blk b14 (.cells #[rv_, (Value.int .i64 (max (0 : Int) (most : Int))), (Value.int .u64 la_)] 80), blk b5 (.cells #[(Value.int .i64 a.op), (Value.int .i64 a.owner), (Value.int .u64 a.id), (Value.int .u64 a.n), (Value.int .u64 a.till), (Value.bool a.cursor)] 75)]) [0, 1, 2, 3] rfl (by decide) m
        clear m
        replace M : Mem _ _ _ [blk lb11 (.cells #[v38, (Value.int .i64 (max (0 : Int) (most : Int))), (Value.int .u64 ((grantV ls_ (max (0 : Int) (most : Int)) la_ a.owner a.n a.till a.cursor).2.1))] 147), own 85 5 v38 (((grantV ls_ (max (0 : Int) (most : Int)) la_ a.owner a.n a.till a.cursor).1).length) (((grantV ls_ (max (0 : Int) (most : Int)) la_ a.owner a.n a.till a.cursor).1).flatMap leaseE), blk b14 (.cells #[rv_, (Value.int .i64 (max (0 : Int) (most : Int))), (Value.int .u64 la_)] 80), blk b5 (.cells #[(Value.int .i64 a.op), (Value.int .i64 a.owner), (Value.int .u64 a.id), (Value.int .u64 a.n), (Value.int .u64 a.till), (Value.bool a.cursor)] 75)] [SlAt 5 rv_ ls_.length (ls_.flatMap leaseE), SlAt 6 v ahead.length (ahead.flatMap lactE), SlAt 6 u behind.length (behind.flatMap lactE)] _ := M
        have sl40 : IsSl v38 := SlAt.isSl (own_slAt (Mem.chunk M 1 rfl).inv)
        have hle41 := SlAt.le' (own_slAt (Mem.chunk M 1 rfl).inv)
        refine WL.step (v := (Value.tuple #[(Value.agg #[(Value.int .u64 (((grantV ls_ (max (0 : Int) (most : Int)) la_ a.owner a.n a.till a.cursor).2.2.1).id)), (Value.int .i64 (((grantV ls_ (max (0 : Int) (most : Int)) la_ a.owner a.n a.till a.cursor).2.2.1).owner)), (Value.int .u64 (((grantV ls_ (max (0 : Int) (most : Int)) la_ a.owner a.n a.till a.cursor).2.2.1).epoch)), (Value.int .u64 (((grantV ls_ (max (0 : Int) (most : Int)) la_ a.owner a.n a.till a.cursor).2.2.1).till)), (Value.bool (((grantV ls_ (max (0 : Int) (most : Int)) la_ a.owner a.n a.till a.cursor).2.2.1).cursor))]), (Value.int .i64 ((grantV ls_ (max (0 : Int) (most : Int)) la_ a.owner a.n a.till a.cursor).2.2.2))])) rfl (Step.move rfl) ?_
        refine WL.step (v := (Value.agg #[(Value.int .u64 (((grantV ls_ (max (0 : Int) (most : Int)) la_ a.owner a.n a.till a.cursor).2.2.1).id)), (Value.int .i64 (((grantV ls_ (max (0 : Int) (most : Int)) la_ a.owner a.n a.till a.cursor).2.2.1).owner)), (Value.int .u64 (((grantV ls_ (max (0 : Int) (most : Int)) la_ a.owner a.n a.till a.cursor).2.2.1).epoch)), (Value.int .u64 (((grantV ls_ (max (0 : Int) (most : Int)) la_ a.owner a.n a.till a.cursor).2.2.1).till)), (Value.bool (((grantV ls_ (max (0 : Int) (most : Int)) la_ a.owner a.n a.till a.cursor).2.2.1).cursor))])) rfl (Step.pure (by kernel_rfl)) ?_
        refine WL.step (v := (Value.int .i64 ((grantV ls_ (max (0 : Int) (most : Int)) la_ a.owner a.n a.till a.cursor).2.2.2))) rfl (Step.pure (by kernel_rfl)) ?_
        refine WL.alloc (c := #[(Value.int .u64 0), (Value.int .i64 0), (Value.int .u64 0), (Value.int .u64 0), (Value.bool false)]) M rfl Try.el85.zero rfl (fun b42 w43 hb42 M => ?_)
        refine WL.store (v := (Value.agg #[(Value.int .u64 (((grantV ls_ (max (0 : Int) (most : Int)) la_ a.owner a.n a.till a.cursor).2.2.1).id)), (Value.int .i64 (((grantV ls_ (max (0 : Int) (most : Int)) la_ a.owner a.n a.till a.cursor).2.2.1).owner)), (Value.int .u64 (((grantV ls_ (max (0 : Int) (most : Int)) la_ a.owner a.n a.till a.cursor).2.2.1).epoch)), (Value.int .u64 (((grantV ls_ (max (0 : Int) (most : Int)) la_ a.owner a.n a.till a.cursor).2.2.1).till)), (Value.bool (((grantV ls_ (max (0 : Int) (most : Int)) la_ a.owner a.n a.till a.cursor).2.2.1).cursor))])) (cs := [(Value.int .u64 (((grantV ls_ (max (0 : Int) (most : Int)) la_ a.owner a.n a.till a.cursor).2.2.1).id)), (Value.int .i64 (((grantV ls_ (max (0 : Int) (most : Int)) la_ a.owner a.n a.till a.cursor).2.2.1).owner)), (Value.int .u64 (((grantV ls_ (max (0 : Int) (most : Int)) la_ a.owner a.n a.till a.cursor).2.2.1).epoch)), (Value.int .u64 (((grantV ls_ (max (0 : Int) (most : Int)) la_ a.owner a.n a.till a.cursor).2.2.1).till)), (Value.bool (((grantV ls_ (max (0 : Int) (most : Int)) la_ a.owner a.n a.till a.cursor).2.2.1).cursor))]) (c' := #[(Value.int .u64 (((grantV ls_ (max (0 : Int) (most : Int)) la_ a.owner a.n a.till a.cursor).2.2.1).id)), (Value.int .i64 (((grantV ls_ (max (0 : Int) (most : Int)) la_ a.owner a.n a.till a.cursor).2.2.1).owner)), (Value.int .u64 (((grantV ls_ (max (0 : Int) (most : Int)) la_ a.owner a.n a.till a.cursor).2.2.1).epoch)), (Value.int .u64 (((grantV ls_ (max (0 : Int) (most : Int)) la_ a.owner a.n a.till a.cursor).2.2.1).till)), (Value.bool (((grantV ls_ (max (0 : Int) (most : Int)) la_ a.owner a.n a.till a.cursor).2.2.1).cursor))]) M 0 rfl rfl Try.el85.sized rfl rfl rfl rfl (Nat.le_of_ble_eq_true rfl) (cel_cons rfl (cel_cons rfl (cel_cons rfl (cel_cons rfl (cel_cons rfl cel_nil))))) rfl rfl (fun w44 M => ?_)
        refine WL.step (v := (Value.int .i64 ((grantV ls_ (max (0 : Int) (most : Int)) la_ a.owner a.n a.till a.cursor).2.2.2))) rfl (Step.assign rfl) ?_
        refine WL.nil ?_
        refine W.seq' ?_
        refine W.seq' ?_
        refine W.region rfl ?_
        refine WL.step (v := (Value.int .i64 ((grantV ls_ (max (0 : Int) (most : Int)) la_ a.owner a.n a.till a.cursor).2.2.2))) rfl (Step.move rfl) ?_
        refine WL.step (v := (Value.bool (((grantV ls_ (max (0 : Int) (most : Int)) la_ a.owner a.n a.till a.cursor).2.2.2 : Int) != (0 : Int)))) rfl (Step.pure (by kernel_rfl)) ?_
        refine WL.nil ?_
        refine W.cond (t := ((grantV ls_ (max (0 : Int) (most : Int)) la_ a.owner a.n a.till a.cursor).2.2.2 : Int) != (0 : Int)) rfl (fun h45 => ?_) (fun h45 => ?_)
        ·
          have h45p : ¬ ((grantV ls_ (max (0 : Int) (most : Int)) la_ a.owner a.n a.till a.cursor).2.2.2 : Int) = (0 : Int) := by simpa using h45
          obtain ⟨hb1, hb2, hb3, hb4⟩ := grant_busy (by simpa using h45)
          refine W.seq' ?_
          refine W.region rfl ?_
          refine WL.step (v := (Value.int .i64 ((grantV ls_ (max (0 : Int) (most : Int)) la_ a.owner a.n a.till a.cursor).2.2.2))) rfl (Step.move rfl) ?_
          refine WL.step (v := (Value.bool (((grantV ls_ (max (0 : Int) (most : Int)) la_ a.owner a.n a.till a.cursor).2.2.2 : Int) == (280 : Int)))) rfl (Step.pure (by kernel_rfl)) ?_
          refine WL.step (v := (Value.bool (((grantV ls_ (max (0 : Int) (most : Int)) la_ a.owner a.n a.till a.cursor).2.2.2 : Int) == (280 : Int)))) rfl (Step.move rfl) ?_
          rcases Bool.eq_false_or_eq_true (((grantV ls_ (max (0 : Int) (most : Int)) la_ a.owner a.n a.till a.cursor).2.2.2 : Int) == (280 : Int)) with h46 | h46
          ·
            have h46p : ((grantV ls_ (max (0 : Int) (most : Int)) la_ a.owner a.n a.till a.cursor).2.2.2 : Int) = (280 : Int) := by simpa using h46
            rw [h46]
            refine WL.step (v := (Value.int .i64 ↑ls_.length)) rfl (Step.move rfl) ?_
            refine WL.step (v := (Value.int .i64 most)) rfl (Step.move rfl) ?_
            refine WL.step (v := (Value.int .i64 (max (0 : Int) (most : Int)))) rfl (Step.maxI rfl rfl) ?_
            refine WL.step (v := (Value.bool (decide ((↑ls_.length : Int) ≥ (max (0 : Int) (most : Int) : Int))))) rfl (Step.pure (by kernel_rfl)) ?_
            refine WL.step (v := (Value.bool (decide ((↑ls_.length : Int) ≥ (max (0 : Int) (most : Int) : Int))))) rfl (Step.pick (t := true) rfl rfl) ?_
            refine WL.step (v := (Value.bool (decide ((↑ls_.length : Int) ≥ (max (0 : Int) (most : Int) : Int))))) rfl (Step.move rfl) ?_
            rcases Bool.eq_false_or_eq_true (decide ((↑ls_.length : Int) ≥ (max (0 : Int) (most : Int) : Int))) with h47 | h47
            ·
              have h47p := of_decide_eq_true h47
              rw [h47]
              refine WL.step (v := (Value.pointer (some ⟨lb11, 0, none⟩))) rfl (Step.move rfl) ?_
              refine WL.callX rfl (le_len lb11 v38 ((grantV ls_ (max (0 : Int) (most : Int)) la_ a.owner a.n a.till a.cursor).1) (max (0 : Int) (most : Int)) ((grantV ls_ (max (0 : Int) (most : Int)) la_ a.owner a.n a.till a.cursor).2.1) (M.enterW0 ⟨(M.wideC0 1 rfl), ((M.wideC0 2 rfl).imp fun _ h => own_slAt h), trivial⟩)) (CallsF.func Try.en45 rfl) ?_
              rintro _ w48 ⟨rfl, m⟩
              replace M := M.leaveW0 m
              clear m
              replace M : Mem _ _ _ [blk b42 (.cells #[(Value.int .u64 (((grantV ls_ (max (0 : Int) (most : Int)) la_ a.owner a.n a.till a.cursor).2.2.1).id)), (Value.int .i64 (((grantV ls_ (max (0 : Int) (most : Int)) la_ a.owner a.n a.till a.cursor).2.2.1).owner)), (Value.int .u64 (((grantV ls_ (max (0 : Int) (most : Int)) la_ a.owner a.n a.till a.cursor).2.2.1).epoch)), (Value.int .u64 (((grantV ls_ (max (0 : Int) (most : Int)) la_ a.owner a.n a.till a.cursor).2.2.1).till)), (Value.bool (((grantV ls_ (max (0 : Int) (most : Int)) la_ a.owner a.n a.till a.cursor).2.2.1).cursor))] 85), blk lb11 (.cells #[v38, (Value.int .i64 (max (0 : Int) (most : Int))), (Value.int .u64 ((grantV ls_ (max (0 : Int) (most : Int)) la_ a.owner a.n a.till a.cursor).2.1))] 147), own 85 5 v38 (((grantV ls_ (max (0 : Int) (most : Int)) la_ a.owner a.n a.till a.cursor).1).length) (((grantV ls_ (max (0 : Int) (most : Int)) la_ a.owner a.n a.till a.cursor).1).flatMap leaseE), blk b14 (.cells #[rv_, (Value.int .i64 (max (0 : Int) (most : Int))), (Value.int .u64 la_)] 80), blk b5 (.cells #[(Value.int .i64 a.op), (Value.int .i64 a.owner), (Value.int .u64 a.id), (Value.int .u64 a.n), (Value.int .u64 a.till), (Value.bool a.cursor)] 75)] [SlAt 5 rv_ ls_.length (ls_.flatMap leaseE), SlAt 6 v ahead.length (ahead.flatMap lactE), SlAt 6 u behind.length (behind.flatMap lactE)] _ := M
              refine WL.step (v := (Value.int .i64 ↑ls_.length)) rfl (Step.move rfl) ?_
              refine WL.step (v := (Value.bool ((↑((grantV ls_ (max (0 : Int) (most : Int)) la_ a.owner a.n a.till a.cursor).1).length : Int) == (↑ls_.length : Int)))) rfl (Step.pure (by kernel_rfl)) ?_
              refine WL.step (v := (Value.bool ((↑((grantV ls_ (max (0 : Int) (most : Int)) la_ a.owner a.n a.till a.cursor).1).length : Int) == (↑ls_.length : Int)))) rfl (Step.pick (t := true) rfl rfl) ?_
              refine WL.step (v := (Value.bool ((↑((grantV ls_ (max (0 : Int) (most : Int)) la_ a.owner a.n a.till a.cursor).1).length : Int) == (↑ls_.length : Int)))) rfl (Step.move rfl) ?_
              rcases Bool.eq_false_or_eq_true ((↑((grantV ls_ (max (0 : Int) (most : Int)) la_ a.owner a.n a.till a.cursor).1).length : Int) == (↑ls_.length : Int)) with h49 | h49
              ·
                have h49p : (↑((grantV ls_ (max (0 : Int) (most : Int)) la_ a.owner a.n a.till a.cursor).1).length : Int) = (↑ls_.length : Int) := by simpa using h49
                rw [h49]
                refine WL.callX rfl (law_works  (M.enterW0 trivial)) (CallsF.func Try.en41 rfl) ?_
                rintro _ w50 ⟨rfl, m⟩
                replace M := M.leaveW0 m
                clear m
                replace M : Mem _ _ _ [blk b42 (.cells #[(Value.int .u64 (((grantV ls_ (max (0 : Int) (most : Int)) la_ a.owner a.n a.till a.cursor).2.2.1).id)), (Value.int .i64 (((grantV ls_ (max (0 : Int) (most : Int)) la_ a.owner a.n a.till a.cursor).2.2.1).owner)), (Value.int .u64 (((grantV ls_ (max (0 : Int) (most : Int)) la_ a.owner a.n a.till a.cursor).2.2.1).epoch)), (Value.int .u64 (((grantV ls_ (max (0 : Int) (most : Int)) la_ a.owner a.n a.till a.cursor).2.2.1).till)), (Value.bool (((grantV ls_ (max (0 : Int) (most : Int)) la_ a.owner a.n a.till a.cursor).2.2.1).cursor))] 85), blk lb11 (.cells #[v38, (Value.int .i64 (max (0 : Int) (most : Int))), (Value.int .u64 ((grantV ls_ (max (0 : Int) (most : Int)) la_ a.owner a.n a.till a.cursor).2.1))] 147), own 85 5 v38 (((grantV ls_ (max (0 : Int) (most : Int)) la_ a.owner a.n a.till a.cursor).1).length) (((grantV ls_ (max (0 : Int) (most : Int)) la_ a.owner a.n a.till a.cursor).1).flatMap leaseE), blk b14 (.cells #[rv_, (Value.int .i64 (max (0 : Int) (most : Int))), (Value.int .u64 la_)] 80), blk b5 (.cells #[(Value.int .i64 a.op), (Value.int .i64 a.owner), (Value.int .u64 a.id), (Value.int .u64 a.n), (Value.int .u64 a.till), (Value.bool a.cursor)] 75)] [SlAt 5 rv_ ls_.length (ls_.flatMap leaseE), SlAt 6 v ahead.length (ahead.flatMap lactE), SlAt 6 u behind.length (behind.flatMap lactE)] _ := M
                refine WL.step (v := (Value.bool true)) rfl (Step.pick (t := true) rfl rfl) ?_
                refine WL.step (v := (Value.bool true)) rfl (Step.assign rfl) ?_
                refine WL.nil ?_
                refine W.ret ?_
                refine ⟨.inl rfl, (Value.bool true), ?_, ?_⟩
                · exact ⟨rfl, (Res.r1 (show RV _ _ _ (.tmp 8) (Value.bool true) from by exact rfl))⟩
                refine ⟨?_, M.close [] rfl (by decide) trivial⟩
                rfl
              ·
                have h49p : ¬ (↑((grantV ls_ (max (0 : Int) (most : Int)) la_ a.owner a.n a.till a.cursor).1).length : Int) = (↑ls_.length : Int) := by simpa using h49
                exact absurd h49 (by rw [hb3]; simp)
            ·
              have h47p := of_decide_eq_false h47
              omega
          ·
            have h46p : ¬ ((grantV ls_ (max (0 : Int) (most : Int)) la_ a.owner a.n a.till a.cursor).2.2.2 : Int) = (280 : Int) := by simpa using h46
            exact absurd hb1 (by simpa using h46)
        ·
          have h45p : ((grantV ls_ (max (0 : Int) (most : Int)) la_ a.owner a.n a.till a.cursor).2.2.2 : Int) = (0 : Int) := by simpa using h45
          have hgok_ := h45p
          refine W.skip ?_
          refine W.seq' ?_
          refine W.region rfl ?_
          refine WL.step (v := (Value.agg #[rv_, (Value.int .i64 (max (0 : Int) (most : Int))), (Value.int .u64 la_)])) rfl (Step.loadN Try.ag80 rfl (M.blk 3 rfl) (Nat.le_of_ble_eq_true rfl) rfl) ?_
          refine WL.step (v := (Value.pointer (some ⟨b5, 1, none⟩))) rfl (Step.pure (by kernel_rfl)) ?_
          refine WL.step (v := (Value.int .i64 a.owner)) rfl (Step.load1 Try.sc3 rfl ((M.cell 4 rfl 1).trans rfl)) ?_
          refine WL.step (v := (Value.pointer (some ⟨b5, 3, none⟩))) rfl (Step.pure (by kernel_rfl)) ?_
          refine WL.step (v := (Value.int .u64 a.n)) rfl (Step.load1 Try.sc23 rfl ((M.cell 4 rfl 3).trans rfl)) ?_
          refine WL.step (v := (Value.pointer (some ⟨b5, 4, none⟩))) rfl (Step.pure (by kernel_rfl)) ?_
          refine WL.step (v := (Value.int .u64 a.till)) rfl (Step.load1 Try.sc23 rfl ((M.cell 4 rfl 4).trans rfl)) ?_
          refine WL.step (v := (Value.pointer (some ⟨b5, 5, none⟩))) rfl (Step.pure (by kernel_rfl)) ?_
          refine WL.step (v := (Value.bool a.cursor)) rfl (Step.load1 Try.sc4 rfl ((M.cell 4 rfl 5).trans rfl)) ?_
          refine WL.callX rfl (ref_grant rv_ ls_ (max (0 : Int) (most : Int)) la_ a.owner a.n a.till a.cursor (by first | omega | assumption | decide | (simp only [List.length_nil, List.length_cons, List.length_take, List.length_drop]; omega)) (by omega) (M.enter0 ⟨(M.shr' 0 rfl), trivial⟩)) (CallsF.func Try.en47 rfl) ?_
          rintro _ w52 ⟨v51, rfl, m⟩
          replace M := M.leave0 m
          clear m
          replace M : Mem _ _ _ [blk b42 (.cells #[(Value.int .u64 (((grantV ls_ (max (0 : Int) (most : Int)) la_ a.owner a.n a.till a.cursor).2.2.1).id)), (Value.int .i64 (((grantV ls_ (max (0 : Int) (most : Int)) la_ a.owner a.n a.till a.cursor).2.2.1).owner)), (Value.int .u64 (((grantV ls_ (max (0 : Int) (most : Int)) la_ a.owner a.n a.till a.cursor).2.2.1).epoch)), (Value.int .u64 (((grantV ls_ (max (0 : Int) (most : Int)) la_ a.owner a.n a.till a.cursor).2.2.1).till)), (Value.bool (((grantV ls_ (max (0 : Int) (most : Int)) la_ a.owner a.n a.till a.cursor).2.2.1).cursor))] 85), blk lb11 (.cells #[v38, (Value.int .i64 (max (0 : Int) (most : Int))), (Value.int .u64 ((grantV ls_ (max (0 : Int) (most : Int)) la_ a.owner a.n a.till a.cursor).2.1))] 147), own 85 5 v38 (((grantV ls_ (max (0 : Int) (most : Int)) la_ a.owner a.n a.till a.cursor).1).length) (((grantV ls_ (max (0 : Int) (most : Int)) la_ a.owner a.n a.till a.cursor).1).flatMap leaseE), blk b14 (.cells #[rv_, (Value.int .i64 (max (0 : Int) (most : Int))), (Value.int .u64 la_)] 80), blk b5 (.cells #[(Value.int .i64 a.op), (Value.int .i64 a.owner), (Value.int .u64 a.id), (Value.int .u64 a.n), (Value.int .u64 a.till), (Value.bool a.cursor)] 75)] [SlAt 5 v51 ((grantV ls_ (max (0 : Int) (most : Int)) la_ a.owner a.n a.till a.cursor).1).length (((grantV ls_ (max (0 : Int) (most : Int)) la_ a.owner a.n a.till a.cursor).1).flatMap leaseE), SlAt 5 rv_ ls_.length (ls_.flatMap leaseE), SlAt 6 v ahead.length (ahead.flatMap lactE), SlAt 6 u behind.length (behind.flatMap lactE)] _ := M
          have sl53 : IsSl v51 := SlAt.isSl (Mem.rep M 0 rfl)
          have hle54 := SlAt.le' (M.rep 0 rfl)
          refine WL.step (v := (Value.tuple #[(Value.agg #[v51, (Value.int .i64 (max (0 : Int) (most : Int))), (Value.int .u64 ((grantV ls_ (max (0 : Int) (most : Int)) la_ a.owner a.n a.till a.cursor).2.1))]), (Value.agg #[(Value.int .u64 (((grantV ls_ (max (0 : Int) (most : Int)) la_ a.owner a.n a.till a.cursor).2.2.1).id)), (Value.int .i64 (((grantV ls_ (max (0 : Int) (most : Int)) la_ a.owner a.n a.till a.cursor).2.2.1).owner)), (Value.int .u64 (((grantV ls_ (max (0 : Int) (most : Int)) la_ a.owner a.n a.till a.cursor).2.2.1).epoch)), (Value.int .u64 (((grantV ls_ (max (0 : Int) (most : Int)) la_ a.owner a.n a.till a.cursor).2.2.1).till)), (Value.bool (((grantV ls_ (max (0 : Int) (most : Int)) la_ a.owner a.n a.till a.cursor).2.2.1).cursor))]), (Value.int .i64 ((grantV ls_ (max (0 : Int) (most : Int)) la_ a.owner a.n a.till a.cursor).2.2.2))])) rfl (Step.move rfl) ?_
          refine WL.step (v := (Value.agg #[v51, (Value.int .i64 (max (0 : Int) (most : Int))), (Value.int .u64 ((grantV ls_ (max (0 : Int) (most : Int)) la_ a.owner a.n a.till a.cursor).2.1))])) rfl (Step.pure (by kernel_rfl)) ?_
          refine WL.step (v := (Value.agg #[(Value.int .u64 (((grantV ls_ (max (0 : Int) (most : Int)) la_ a.owner a.n a.till a.cursor).2.2.1).id)), (Value.int .i64 (((grantV ls_ (max (0 : Int) (most : Int)) la_ a.owner a.n a.till a.cursor).2.2.1).owner)), (Value.int .u64 (((grantV ls_ (max (0 : Int) (most : Int)) la_ a.owner a.n a.till a.cursor).2.2.1).epoch)), (Value.int .u64 (((grantV ls_ (max (0 : Int) (most : Int)) la_ a.owner a.n a.till a.cursor).2.2.1).till)), (Value.bool (((grantV ls_ (max (0 : Int) (most : Int)) la_ a.owner a.n a.till a.cursor).2.2.1).cursor))])) rfl (Step.pure (by kernel_rfl)) ?_
          refine WL.step (v := (Value.int .i64 ((grantV ls_ (max (0 : Int) (most : Int)) la_ a.owner a.n a.till a.cursor).2.2.2))) rfl (Step.pure (by kernel_rfl)) ?_
          refine WL.store (v := (Value.agg #[v51, (Value.int .i64 (max (0 : Int) (most : Int))), (Value.int .u64 ((grantV ls_ (max (0 : Int) (most : Int)) la_ a.owner a.n a.till a.cursor).2.1))])) (cs := [v51, (Value.int .i64 (max (0 : Int) (most : Int))), (Value.int .u64 ((grantV ls_ (max (0 : Int) (most : Int)) la_ a.owner a.n a.till a.cursor).2.1))]) (c' := #[v51, (Value.int .i64 (max (0 : Int) (most : Int))), (Value.int .u64 ((grantV ls_ (max (0 : Int) (most : Int)) la_ a.owner a.n a.till a.cursor).2.1))]) M 3 rfl rfl Try.el80.sized rfl rfl rfl rfl (Nat.le_of_ble_eq_true rfl) (cel_cons (IsSl.cel sl53) (cel_cons rfl (cel_cons rfl cel_nil))) rfl rfl (fun w55 M => ?_)
          refine WL.nil ?_
          refine W.seq' ?_
          refine W.seq' ?_
          refine W.region rfl ?_
          refine WL.step (v := (Value.int .i64 0)) rfl (Step.assign rfl) ?_
          refine WL.nil ?_
          refine W.block ?_
          replace M := M.sel (L' := [blk lb11 (.cells #[v38, (Value.int .i64 (max (0 : Int) (most : Int))), (Value.int .u64 ((grantV ls_ (max (0 : Int) (most : Int)) la_ a.owner a.n a.till a.cursor).2.1))] 147), own 85 5 v38 (((grantV ls_ (max (0 : Int) (most : Int)) la_ a.owner a.n a.till a.cursor).1).length) (((grantV ls_ (max (0 : Int) (most : Int)) la_ a.owner a.n a.till a.cursor).1).flatMap leaseE), blk b14 (.cells #[v51, (Value.int .i64 (max (0 : Int) (most : Int))), (Value.int .u64 ((grantV ls_ (max (0 : Int) (most : Int)) la_ a.owner a.n a.till a.cursor).2.1))] 80), blk b42 (.cells #[(Value.int .u64 (((grantV ls_ (max (0 : Int) (most : Int)) la_ a.owner a.n a.till a.cursor).2.2.1).id)), (Value.int .i64 (((grantV ls_ (max (0 : Int) (most : Int)) la_ a.owner a.n a.till a.cursor).2.2.1).owner)), (Value.int .u64 (((grantV ls_ (max (0 : Int) (most : Int)) la_ a.owner a.n a.till a.cursor).2.2.1).epoch)), (Value.int .u64 (((grantV ls_ (max (0 : Int) (most : Int)) la_ a.owner a.n a.till a.cursor).2.2.1).till)), (Value.bool (((grantV ls_ (max (0 : Int) (most : Int)) la_ a.owner a.n a.till a.cursor).2.2.1).cursor))] 85)]) [1, 2, 3, 0] rfl (by decide)
          replace M := M.facts (R' := [SlAt 5 v51 ((grantV ls_ (max (0 : Int) (most : Int)) la_ a.owner a.n a.till a.cursor).1).length (((grantV ls_ (max (0 : Int) (most : Int)) la_ a.owner a.n a.till a.cursor).1).flatMap leaseE), SlAt 6 v ahead.length (ahead.flatMap lactE), SlAt 6 u behind.length (behind.flatMap lactE)]) (Facts.all ⟨M.shr' 0 rfl, M.shr' 2 rfl, M.shr' 3 rfl, trivial⟩)
          replace M : Mem _ _ _ [blk lb11 (.cells #[v38, (Value.int .i64 (max (0 : Int) (most : Int))), (Value.int .u64 ((grantV ls_ (max (0 : Int) (most : Int)) la_ a.owner a.n a.till a.cursor).2.1))] 147), own 85 5 v38 (((grantV ls_ (max (0 : Int) (most : Int)) la_ a.owner a.n a.till a.cursor).1).length) (((grantV ls_ (max (0 : Int) (most : Int)) la_ a.owner a.n a.till a.cursor).1).flatMap leaseE), blk b14 (.cells #[v51, (Value.int .i64 (max (0 : Int) (most : Int))), (Value.int .u64 ((grantV ls_ (max (0 : Int) (most : Int)) la_ a.owner a.n a.till a.cursor).2.1))] 80), blk b42 (.cells #[(Value.int .u64 (((grantV ls_ (max (0 : Int) (most : Int)) la_ a.owner a.n a.till a.cursor).2.2.1).id)), (Value.int .i64 (((grantV ls_ (max (0 : Int) (most : Int)) la_ a.owner a.n a.till a.cursor).2.2.1).owner)), (Value.int .u64 (((grantV ls_ (max (0 : Int) (most : Int)) la_ a.owner a.n a.till a.cursor).2.2.1).epoch)), (Value.int .u64 (((grantV ls_ (max (0 : Int) (most : Int)) la_ a.owner a.n a.till a.cursor).2.2.1).till)), (Value.bool (((grantV ls_ (max (0 : Int) (most : Int)) la_ a.owner a.n a.till a.cursor).2.2.1).cursor))] 85)] [SlAt 5 v51 ((grantV ls_ (max (0 : Int) (most : Int)) la_ a.owner a.n a.till a.cursor).1).length (((grantV ls_ (max (0 : Int) (most : Int)) la_ a.owner a.n a.till a.cursor).1).flatMap leaseE), SlAt 6 v ahead.length (ahead.flatMap lactE), SlAt 6 u behind.length (behind.flatMap lactE)] _ := M
          refine W.loop (fun kk ρ w' => ∃ (jb_ : Nat) (l2_ : List Lease) (la2_ : Int) (lv2_ : Value) (rv2_ : Value) (x_ : Lease), ((jb_ ≤ behind.length) ∧ (LInv (31 + jb_) l2_ la2_) ∧ (x_ ∈ l2_) ∧ ((l2_.length : Int) ≤ max (0 : Int) (most : Int)) ∧ kk = behind.length - jb_) ∧ ρ.has [(0, (Value.int .i64 most)), (2, u), (9, (Value.pointer (some ⟨lb11, 0, none⟩))), (10, (Value.pointer (some ⟨b14, 0, none⟩))), (13, (Value.pointer (some ⟨b42, 0, none⟩))), (15, (Value.int .i64 ↑jb_))] ∧ Mem G (fun _ => False) w [blk lb11 (.cells #[lv2_, (Value.int .i64 (max (0 : Int) (most : Int))), (Value.int .u64 la2_)] 147), own 85 5 lv2_ l2_.length (l2_.flatMap leaseE), blk b14 (.cells #[rv2_, (Value.int .i64 (max (0 : Int) (most : Int))), (Value.int .u64 la2_)] 80), blk b42 (.cells #[(Value.int .u64 x_.id), (Value.int .i64 x_.owner), (Value.int .u64 x_.epoch), (Value.int .u64 x_.till), (Value.bool x_.cursor)] 85)] [SlAt 5 rv2_ l2_.length (l2_.flatMap leaseE), SlAt 6 v ahead.length (ahead.flatMap lactE), SlAt 6 u behind.length (behind.flatMap lactE)]  w') _ ⟨0, (grantV ls_ (max (0 : Int) (most : Int)) la_ a.owner a.n a.till a.cursor).1, ((grantV ls_ (max (0 : Int) (most : Int)) la_ a.owner a.n a.till a.cursor).2.1), _, _, ((grantV ls_ (max (0 : Int) (most : Int)) la_ a.owner a.n a.till a.cursor).2.2.1), ⟨(Nat.zero_le _), ((LInv.grant hli_).mono (by omega)), (grant_mem hgok_).1, (grant_mem hgok_).2, rfl⟩, ⟨rfl, rfl, rfl, rfl, rfl, rfl, rfl, rfl⟩, M⟩ ?_
          rintro _ ρ57 w56 ⟨jb_, l2_, la2_, lv2_, rv2_, x_, ⟨hi58, hi59, hi60, hi61, rfl⟩, hρ, M⟩
          obtain ⟨ρ57, rfl⟩ := hρ.know
          clear hρ
          have hlj_ := hi59
          have hxm_ := hi60
          have hlm_ := hi61
          have hlj1 := hlj_.ids
          have hlj2 := hlj_.pos
          have hlj3 := hlj_.few
          have hlj4 := hlj_.len
          refine W.seq' ?_
          refine W.seq' ?_
          refine W.region rfl ?_
          refine WL.step (v := (Value.int .i64 ↑jb_)) rfl (Step.move rfl) ?_
          refine WL.step (v := u) rfl (Step.move rfl) ?_
          refine WL.step (v := (Value.int .i64 ↑behind.length)) rfl (Step.lenSl Try.un73 rfl (M.rep 2 rfl)) ?_
          refine WL.step (v := (Value.bool (decide ((↑jb_ : Int) < (↑behind.length : Int))))) rfl (Step.pure (by kernel_rfl)) ?_
          refine WL.nil ?_
          refine W.cond (t := decide ((↑jb_ : Int) < (↑behind.length : Int))) rfl (fun h62 => ?_) (fun h62 => ?_)
          ·
            have h62p := of_decide_eq_true h62
            refine W.skip ?_
            refine W.seq' ?_
            refine W.block ?_
            refine W.seq' ?_
            refine W.region rfl ?_
            refine WL.step (v := u) rfl (Step.move rfl) ?_
            refine WL.step (v := (Value.int .i64 ↑jb_)) rfl (Step.move rfl) ?_
            obtain ⟨cap64, hb63⟩ := SlAt.base (M.rep 2 rfl) (by omega)
            obtain ⟨x65, hx65⟩ := elem_of_lt (xs := behind) (i := jb_) (by omega)
            refine WL.step (v := (Value.pointer (some ⟨(sBlk u), sOff u + jb_ * 6, none⟩))) rfl (Step.indexAddr (i := jb_) (Try.un73).run Try.el75.sized rfl rfl (by omega) hb63 (by omega)) ?_
            refine WL.step (v := (Value.agg #[(Value.int .i64 x65.op), (Value.int .i64 x65.owner), (Value.int .u64 x65.id), (Value.int .u64 x65.n), (Value.int .u64 x65.till), (Value.bool x65.cursor)])) rfl (Step.loadEN (k := 0) (cs' := [(Value.int .i64 x65.op), (Value.int .i64 x65.owner), (Value.int .u64 x65.id), (Value.int .u64 x65.n), (Value.int .u64 x65.till), (Value.bool x65.cursor)]) Try.ag75 (flat_ec (M.rep 2 rfl) hx65 lactE_len) (by decide) rfl rfl rfl) ?_
            refine WL.alloc (c := #[(Value.int .i64 0), (Value.int .i64 0), (Value.int .u64 0), (Value.int .u64 0), (Value.int .u64 0), (Value.bool false)]) M rfl Try.el75.zero rfl (fun b66 w67 hb66 M => ?_)
            refine WL.store (v := (Value.agg #[(Value.int .i64 x65.op), (Value.int .i64 x65.owner), (Value.int .u64 x65.id), (Value.int .u64 x65.n), (Value.int .u64 x65.till), (Value.bool x65.cursor)])) (cs := [(Value.int .i64 x65.op), (Value.int .i64 x65.owner), (Value.int .u64 x65.id), (Value.int .u64 x65.n), (Value.int .u64 x65.till), (Value.bool x65.cursor)]) (c' := #[(Value.int .i64 x65.op), (Value.int .i64 x65.owner), (Value.int .u64 x65.id), (Value.int .u64 x65.n), (Value.int .u64 x65.till), (Value.bool x65.cursor)]) M 0 rfl rfl Try.el75.sized rfl rfl rfl rfl (Nat.le_of_ble_eq_true rfl) (cel_cons rfl (cel_cons rfl (cel_cons rfl (cel_cons rfl (cel_cons rfl (cel_cons rfl cel_nil)))))) rfl rfl (fun w68 M => ?_)
            refine WL.nil ?_
            refine W.seq' ?_
            refine W.region rfl ?_
            refine WL.step (v := (Value.pointer (some ⟨b66, 0, none⟩))) rfl (Step.pure (by kernel_rfl)) ?_
            refine WL.step (v := (Value.int .i64 x65.op)) rfl (Step.load1 Try.sc3 rfl ((M.cell 0 rfl 0).trans rfl)) ?_
            refine WL.callX rfl (kit_pick x65.op 8 (by omega) (M.enterW0 trivial)) (CallsF.func Try.en48 rfl) ?_
            rintro _ w69 ⟨rfl, m⟩
            replace M := M.leaveW0 m
            clear m
            replace M : Mem _ _ _ [blk b66 (.cells #[(Value.int .i64 x65.op), (Value.int .i64 x65.owner), (Value.int .u64 x65.id), (Value.int .u64 x65.n), (Value.int .u64 x65.till), (Value.bool x65.cursor)] 75), blk lb11 (.cells #[lv2_, (Value.int .i64 (max (0 : Int) (most : Int))), (Value.int .u64 la2_)] 147), own 85 5 lv2_ l2_.length (l2_.flatMap leaseE), blk b14 (.cells #[rv2_, (Value.int .i64 (max (0 : Int) (most : Int))), (Value.int .u64 la2_)] 80), blk b42 (.cells #[(Value.int .u64 x_.id), (Value.int .i64 x_.owner), (Value.int .u64 x_.epoch), (Value.int .u64 x_.till), (Value.bool x_.cursor)] 85)] [SlAt 5 rv2_ l2_.length (l2_.flatMap leaseE), SlAt 6 v ahead.length (ahead.flatMap lactE), SlAt 6 u behind.length (behind.flatMap lactE)] _ := M
            refine WL.step (v := (Value.int .i64 (pickI x65.op 8))) rfl (Step.assign rfl) ?_
            refine WL.nil ?_
            refine W.seq' ?_
            refine W.join (fun ρ w' => ρ.has [(0, (Value.int .i64 most)), (2, u), (9, (Value.pointer (some ⟨lb11, 0, none⟩))), (10, (Value.pointer (some ⟨b14, 0, none⟩))), (13, (Value.pointer (some ⟨b42, 0, none⟩))), (15, (Value.int .i64 ↑jb_)), (16, (Value.pointer (some ⟨b66, 0, none⟩))), (18, (Value.bool (overB x_ x65)))] ∧ Mem G (fun _ => False) w [blk b66 (.cells #[(Value.int .i64 x65.op), (Value.int .i64 x65.owner), (Value.int .u64 x65.id), (Value.int .u64 x65.n), (Value.int .u64 x65.till), (Value.bool x65.cursor)] 75), blk lb11 (.cells #[lv2_, (Value.int .i64 (max (0 : Int) (most : Int))), (Value.int .u64 la2_)] 147), own 85 5 lv2_ l2_.length (l2_.flatMap leaseE), blk b14 (.cells #[rv2_, (Value.int .i64 (max (0 : Int) (most : Int))), (Value.int .u64 la2_)] 80), blk b42 (.cells #[(Value.int .u64 x_.id), (Value.int .i64 x_.owner), (Value.int .u64 x_.epoch), (Value.int .u64 x_.till), (Value.bool x_.cursor)] 85)] [SlAt 5 rv2_ l2_.length (l2_.flatMap leaseE), SlAt 6 v ahead.length (ahead.flatMap lactE), SlAt 6 u behind.length (behind.flatMap lactE)] w') ?_ ?_
            ·
              refine W.region rfl ?_
              refine WL.step (v := (Value.int .i64 (pickI x65.op 8))) rfl (Step.move rfl) ?_
              refine WL.step (v := (Value.bool ((pickI x65.op 8 : Int) == (6 : Int)))) rfl (Step.pure (by kernel_rfl)) ?_
              refine WL.step (v := (Value.bool ((pickI x65.op 8 : Int) == (6 : Int)))) rfl (Step.move rfl) ?_
              rcases Bool.eq_false_or_eq_true ((pickI x65.op 8 : Int) == (6 : Int)) with h70 | h70
              ·
                have h70p : (pickI x65.op 8 : Int) = (6 : Int) := by simpa using h70
                rw [h70]
                refine WL.step (v := (Value.pointer (some ⟨b66, 3, none⟩))) rfl (Step.pure (by kernel_rfl)) ?_
                refine WL.step (v := (Value.int .u64 x65.n)) rfl (Step.load1 Try.sc23 rfl ((M.cell 0 rfl 3).trans rfl)) ?_
                refine WL.step (v := (Value.pointer (some ⟨b42, 3, none⟩))) rfl (Step.pure (by kernel_rfl)) ?_
                refine WL.step (v := (Value.int .u64 x_.till)) rfl (Step.load1 Try.sc23 rfl ((M.cell 4 rfl 3).trans rfl)) ?_
                refine WL.step (v := (Value.bool (decide ((x65.n : Int) ≥ (x_.till : Int))))) rfl (Step.pure (by kernel_rfl)) ?_
                refine WL.step (v := (Value.bool (decide ((x65.n : Int) ≥ (x_.till : Int))))) rfl (Step.pick (t := true) rfl rfl) ?_
                refine WL.step (v := (Value.bool (decide ((x65.n : Int) ≥ (x_.till : Int))))) rfl (Step.move rfl) ?_
                rcases Bool.eq_false_or_eq_true (decide ((x65.n : Int) ≥ (x_.till : Int))) with h71 | h71
                ·
                  have h71p := of_decide_eq_true h71
                  rw [h71]
                  refine WL.pass rfl ?_
                  refine WL.pass rfl ?_
                  refine WL.pass rfl ?_
                  refine WL.pass rfl ?_
                  refine WL.pass rfl ?_
                  refine WL.pass rfl ?_
                  refine WL.pass rfl ?_
                  refine WL.pass rfl ?_
                  refine WL.pass rfl ?_
                  refine WL.step (v := (Value.bool true)) rfl (Step.pick (t := true) rfl rfl) ?_
                  refine WL.step (v := (Value.bool true)) rfl (Step.move rfl) ?_
                  refine WL.pass rfl ?_
                  refine WL.pass rfl ?_
                  refine WL.pass rfl ?_
                  refine WL.pass rfl ?_
                  refine WL.pass rfl ?_
                  refine WL.pass rfl ?_
                  refine WL.pass rfl ?_
                  refine WL.pass rfl ?_
                  refine WL.pass rfl ?_
                  refine WL.pass rfl ?_
                  refine WL.pass rfl ?_
                  refine WL.pass rfl ?_
                  refine WL.pass rfl ?_
                  refine WL.pass rfl ?_
                  refine WL.pass rfl ?_
                  refine WL.pass rfl ?_
                  refine WL.pass rfl ?_
                  refine WL.pass rfl ?_
                  refine WL.pass rfl ?_
                  refine WL.pass rfl ?_
                  refine WL.pass rfl ?_
                  refine WL.pass rfl ?_
                  refine WL.pass rfl ?_
                  refine WL.step (v := (Value.bool true)) rfl (Step.pick (t := true) rfl rfl) ?_
                  refine WL.step (v := (Value.bool true)) rfl (Step.assign rfl) ?_
                  refine WL.nil ?_
                  have hov_ : overB x_ x65 = true := by first | (exfalso; omega) | simp [overB, h62p, hx65, h70p, h71p]
                  exact ⟨⟨rfl, rfl, rfl, rfl, rfl, rfl, rfl, (congrArg Value.bool hov_.symm), rfl, rfl⟩, M⟩
                ·
                  have h71p := of_decide_eq_false h71
                  rw [h71]
                  refine WL.step (v := (Value.int .i64 (pickI x65.op 8))) rfl (Step.move rfl) ?_
                  refine WL.step (v := (Value.bool ((pickI x65.op 8 : Int) == (7 : Int)))) rfl (Step.pure (by kernel_rfl)) ?_
                  refine WL.step (v := (Value.bool ((pickI x65.op 8 : Int) == (7 : Int)))) rfl (Step.move rfl) ?_
                  rcases Bool.eq_false_or_eq_true ((pickI x65.op 8 : Int) == (7 : Int)) with h72 | h72
                  ·
                    have h72p : (pickI x65.op 8 : Int) = (7 : Int) := by simpa using h72
                    rw [h72]
                    refine WL.step (v := (Value.pointer (some ⟨b66, 1, none⟩))) rfl (Step.pure (by kernel_rfl)) ?_
                    refine WL.step (v := (Value.int .i64 x65.owner)) rfl (Step.load1 Try.sc3 rfl ((M.cell 0 rfl 1).trans rfl)) ?_
                    refine WL.step (v := (Value.pointer (some ⟨b42, 1, none⟩))) rfl (Step.pure (by kernel_rfl)) ?_
                    refine WL.step (v := (Value.int .i64 x_.owner)) rfl (Step.load1 Try.sc3 rfl ((M.cell 4 rfl 1).trans rfl)) ?_
                    refine WL.step (v := (Value.bool ((x65.owner : Int) == (x_.owner : Int)))) rfl (Step.pure (by kernel_rfl)) ?_
                    refine WL.step (v := (Value.bool ((x65.owner : Int) == (x_.owner : Int)))) rfl (Step.pick (t := true) rfl rfl) ?_
                    refine WL.step (v := (Value.bool ((x65.owner : Int) == (x_.owner : Int)))) rfl (Step.pick (t := false) rfl rfl) ?_
                    refine WL.step (v := (Value.bool ((x65.owner : Int) == (x_.owner : Int)))) rfl (Step.move rfl) ?_
                    rcases Bool.eq_false_or_eq_true ((x65.owner : Int) == (x_.owner : Int)) with h73 | h73
                    ·
                      have h73p : (x65.owner : Int) = (x_.owner : Int) := by simpa using h73
                      rw [h73]
                      refine WL.pass rfl ?_
                      refine WL.pass rfl ?_
                      refine WL.pass rfl ?_
                      refine WL.pass rfl ?_
                      refine WL.pass rfl ?_
                      refine WL.pass rfl ?_
                      refine WL.pass rfl ?_
                      refine WL.pass rfl ?_
                      refine WL.pass rfl ?_
                      refine WL.pass rfl ?_
                      refine WL.pass rfl ?_
                      refine WL.pass rfl ?_
                      refine WL.pass rfl ?_
                      refine WL.pass rfl ?_
                      refine WL.pass rfl ?_
                      refine WL.pass rfl ?_
                      refine WL.pass rfl ?_
                      refine WL.pass rfl ?_
                      refine WL.pass rfl ?_
                      refine WL.pass rfl ?_
                      refine WL.pass rfl ?_
                      refine WL.pass rfl ?_
                      refine WL.pass rfl ?_
                      refine WL.step (v := (Value.bool true)) rfl (Step.pick (t := true) rfl rfl) ?_
                      refine WL.step (v := (Value.bool true)) rfl (Step.assign rfl) ?_
                      refine WL.nil ?_
                      have hov_ : overB x_ x65 = true := by first | (exfalso; omega) | simp [overB, h62p, hx65, h70p, h71p, h72p, h73p]
                      exact ⟨⟨rfl, rfl, rfl, rfl, rfl, rfl, rfl, (congrArg Value.bool hov_.symm), rfl, rfl⟩, M⟩
                    ·
                      have h73p : ¬ (x65.owner : Int) = (x_.owner : Int) := by simpa using h73
                      rw [h73]
                      refine WL.step (v := (Value.int .i64 (pickI x65.op 8))) rfl (Step.move rfl) ?_
                      refine WL.step (v := (Value.bool ((pickI x65.op 8 : Int) == (4 : Int)))) rfl (Step.pure (by kernel_rfl)) ?_
                      refine WL.step (v := (Value.bool ((pickI x65.op 8 : Int) == (4 : Int)))) rfl (Step.move rfl) ?_
                      rcases Bool.eq_false_or_eq_true ((pickI x65.op 8 : Int) == (4 : Int)) with h74 | h74
                      ·
                        have h74p : (pickI x65.op 8 : Int) = (4 : Int) := by simpa using h74
                        rw [h74]
                        refine WL.step (v := (Value.pointer (some ⟨b66, 1, none⟩))) rfl (Step.pure (by kernel_rfl)) ?_
                        refine WL.step (v := (Value.int .i64 x65.owner)) rfl (Step.load1 Try.sc3 rfl ((M.cell 0 rfl 1).trans rfl)) ?_
                        refine WL.step (v := (Value.pointer (some ⟨b42, 1, none⟩))) rfl (Step.pure (by kernel_rfl)) ?_
                        refine WL.step (v := (Value.int .i64 x_.owner)) rfl (Step.load1 Try.sc3 rfl ((M.cell 4 rfl 1).trans rfl)) ?_
                        refine WL.step (v := (Value.bool false)) rfl (Step.cast (congrArg Value.bool h73) (Step.pure (by kernel_rfl))) ?_
                        refine WL.step (v := (Value.bool false)) rfl (Step.pick (t := true) rfl rfl) ?_
                        refine WL.step (v := (Value.bool false)) rfl (Step.move rfl) ?_
                        refine WL.pass rfl ?_
                        refine WL.pass rfl ?_
                        refine WL.pass rfl ?_
                        refine WL.pass rfl ?_
                        refine WL.pass rfl ?_
                        refine WL.step (v := (Value.bool false)) rfl (Step.pick (t := false) rfl rfl) ?_
                        refine WL.step (v := (Value.bool false)) rfl (Step.move rfl) ?_
                        refine WL.pass rfl ?_
                        refine WL.pass rfl ?_
                        refine WL.pass rfl ?_
                        refine WL.pass rfl ?_
                        refine WL.pass rfl ?_
                        refine WL.step (v := (Value.bool false)) rfl (Step.pick (t := false) rfl rfl) ?_
                        refine WL.step (v := (Value.bool false)) rfl (Step.pick (t := false) rfl rfl) ?_
                        refine WL.step (v := (Value.bool false)) rfl (Step.assign rfl) ?_
                        refine WL.nil ?_
                        have hov_ : overB x_ x65 = false := by first | (exfalso; omega) | simp [overB, h62p, hx65, h70p, h71p, h72p, h73p, h74p]
                        exact ⟨⟨rfl, rfl, rfl, rfl, rfl, rfl, rfl, (congrArg Value.bool hov_.symm), rfl, rfl⟩, M⟩
                      ·
                        have h74p : ¬ (pickI x65.op 8 : Int) = (4 : Int) := by simpa using h74
                        rw [h74]
                        refine WL.pass rfl ?_
                        refine WL.pass rfl ?_
                        refine WL.pass rfl ?_
                        refine WL.pass rfl ?_
                        refine WL.pass rfl ?_
                        refine WL.step (v := (Value.bool false)) rfl (Step.pick (t := false) rfl rfl) ?_
                        refine WL.step (v := (Value.bool false)) rfl (Step.move rfl) ?_
                        refine WL.pass rfl ?_
                        refine WL.pass rfl ?_
                        refine WL.pass rfl ?_
                        refine WL.pass rfl ?_
                        refine WL.pass rfl ?_
                        refine WL.step (v := (Value.bool false)) rfl (Step.pick (t := false) rfl rfl) ?_
                        refine WL.step (v := (Value.bool false)) rfl (Step.move rfl) ?_
                        refine WL.pass rfl ?_
                        refine WL.pass rfl ?_
                        refine WL.pass rfl ?_
                        refine WL.pass rfl ?_
                        refine WL.pass rfl ?_
                        refine WL.step (v := (Value.bool false)) rfl (Step.pick (t := false) rfl rfl) ?_
                        refine WL.step (v := (Value.bool false)) rfl (Step.pick (t := false) rfl rfl) ?_
                        refine WL.step (v := (Value.bool false)) rfl (Step.assign rfl) ?_
                        refine WL.nil ?_
                        have hov_ : overB x_ x65 = false := by first | (exfalso; omega) | simp [overB, h62p, hx65, h70p, h71p, h72p, h73p, h74p]
                        exact ⟨⟨rfl, rfl, rfl, rfl, rfl, rfl, rfl, (congrArg Value.bool hov_.symm), rfl, rfl⟩, M⟩
                  ·
                    have h72p : ¬ (pickI x65.op 8 : Int) = (7 : Int) := by simpa using h72
                    rw [h72]
                    refine WL.pass rfl ?_
                    refine WL.pass rfl ?_
                    refine WL.pass rfl ?_
                    refine WL.pass rfl ?_
                    refine WL.pass rfl ?_
                    refine WL.step (v := (Value.bool false)) rfl (Step.pick (t := false) rfl rfl) ?_
                    refine WL.step (v := (Value.bool false)) rfl (Step.pick (t := false) rfl rfl) ?_
                    refine WL.step (v := (Value.bool false)) rfl (Step.move rfl) ?_
                    refine WL.step (v := (Value.int .i64 (pickI x65.op 8))) rfl (Step.move rfl) ?_
                    refine WL.step (v := (Value.bool ((pickI x65.op 8 : Int) == (4 : Int)))) rfl (Step.pure (by kernel_rfl)) ?_
                    refine WL.step (v := (Value.bool ((pickI x65.op 8 : Int) == (4 : Int)))) rfl (Step.move rfl) ?_
                    rcases Bool.eq_false_or_eq_true ((pickI x65.op 8 : Int) == (4 : Int)) with h75 | h75
                    ·
                      have h75p : (pickI x65.op 8 : Int) = (4 : Int) := by simpa using h75
                      rw [h75]
                      refine WL.step (v := (Value.pointer (some ⟨b66, 1, none⟩))) rfl (Step.pure (by kernel_rfl)) ?_
                      refine WL.step (v := (Value.int .i64 x65.owner)) rfl (Step.load1 Try.sc3 rfl ((M.cell 0 rfl 1).trans rfl)) ?_
                      refine WL.step (v := (Value.pointer (some ⟨b42, 1, none⟩))) rfl (Step.pure (by kernel_rfl)) ?_
                      refine WL.step (v := (Value.int .i64 x_.owner)) rfl (Step.load1 Try.sc3 rfl ((M.cell 4 rfl 1).trans rfl)) ?_
                      refine WL.step (v := (Value.bool ((x65.owner : Int) == (x_.owner : Int)))) rfl (Step.pure (by kernel_rfl)) ?_
                      refine WL.step (v := (Value.bool ((x65.owner : Int) == (x_.owner : Int)))) rfl (Step.pick (t := true) rfl rfl) ?_
                      refine WL.step (v := (Value.bool ((x65.owner : Int) == (x_.owner : Int)))) rfl (Step.move rfl) ?_
                      rcases Bool.eq_false_or_eq_true ((x65.owner : Int) == (x_.owner : Int)) with h76 | h76
                      ·
                        have h76p : (x65.owner : Int) = (x_.owner : Int) := by simpa using h76
                        rw [h76]
                        refine WL.step (v := (Value.pointer (some ⟨b66, 2, none⟩))) rfl (Step.pure (by kernel_rfl)) ?_
                        refine WL.step (v := (Value.int .u64 x65.id)) rfl (Step.load1 Try.sc23 rfl ((M.cell 0 rfl 2).trans rfl)) ?_
                        refine WL.step (v := (Value.pointer (some ⟨b42, 0, none⟩))) rfl (Step.pure (by kernel_rfl)) ?_
                        refine WL.step (v := (Value.int .u64 x_.id)) rfl (Step.load1 Try.sc23 rfl ((M.cell 4 rfl 0).trans rfl)) ?_
                        refine WL.step (v := (Value.bool ((x65.id : Int) == (x_.id : Int)))) rfl (Step.pure (by kernel_rfl)) ?_
                        refine WL.step (v := (Value.bool ((x65.id : Int) == (x_.id : Int)))) rfl (Step.pick (t := true) rfl rfl) ?_
                        refine WL.step (v := (Value.bool ((x65.id : Int) == (x_.id : Int)))) rfl (Step.move rfl) ?_
                        rcases Bool.eq_false_or_eq_true ((x65.id : Int) == (x_.id : Int)) with h77 | h77
                        ·
                          have h77p : (x65.id : Int) = (x_.id : Int) := by simpa using h77
                          rw [h77]
                          refine WL.step (v := (Value.pointer (some ⟨b66, 5, none⟩))) rfl (Step.pure (by kernel_rfl)) ?_
                          refine WL.step (v := (Value.bool x65.cursor)) rfl (Step.load1 Try.sc4 rfl ((M.cell 0 rfl 5).trans rfl)) ?_
                          refine WL.step (v := (Value.pointer (some ⟨b42, 4, none⟩))) rfl (Step.pure (by kernel_rfl)) ?_
                          refine WL.step (v := (Value.bool x_.cursor)) rfl (Step.load1 Try.sc4 rfl ((M.cell 4 rfl 4).trans rfl)) ?_
                          refine WL.step (v := (Value.bool (x65.cursor == x_.cursor))) rfl (Step.pure (by kernel_rfl)) ?_
                          refine WL.step (v := (Value.bool (x65.cursor == x_.cursor))) rfl (Step.pick (t := true) rfl rfl) ?_
                          refine WL.step (v := (Value.bool (x65.cursor == x_.cursor))) rfl (Step.pick (t := false) rfl rfl) ?_
                          refine WL.step (v := (Value.bool (x65.cursor == x_.cursor))) rfl (Step.assign rfl) ?_
                          refine WL.nil ?_
                          have hov_ : overB x_ x65 = (x65.cursor == x_.cursor) := by first | (exfalso; omega) | simp [overB, h62p, hx65, h70p, h71p, h72p, h75p, h76p, h77p]
                          exact ⟨⟨rfl, rfl, rfl, rfl, rfl, rfl, rfl, (congrArg Value.bool hov_.symm), rfl, rfl⟩, M⟩
                        ·
                          have h77p : ¬ (x65.id : Int) = (x_.id : Int) := by simpa using h77
                          rw [h77]
                          refine WL.pass rfl ?_
                          refine WL.pass rfl ?_
                          refine WL.pass rfl ?_
                          refine WL.pass rfl ?_
                          refine WL.pass rfl ?_
                          refine WL.step (v := (Value.bool false)) rfl (Step.pick (t := false) rfl rfl) ?_
                          refine WL.step (v := (Value.bool false)) rfl (Step.pick (t := false) rfl rfl) ?_
                          refine WL.step (v := (Value.bool false)) rfl (Step.assign rfl) ?_
                          refine WL.nil ?_
                          have hov_ : overB x_ x65 = false := by first | (exfalso; omega) | simp [overB, h62p, hx65, h70p, h71p, h72p, h75p, h76p, h77p]
                          exact ⟨⟨rfl, rfl, rfl, rfl, rfl, rfl, rfl, (congrArg Value.bool hov_.symm), rfl, rfl⟩, M⟩
                      ·
                        have h76p : ¬ (x65.owner : Int) = (x_.owner : Int) := by simpa using h76
                        rw [h76]
                        refine WL.pass rfl ?_
                        refine WL.pass rfl ?_
                        refine WL.pass rfl ?_
                        refine WL.pass rfl ?_
                        refine WL.pass rfl ?_
                        refine WL.step (v := (Value.bool false)) rfl (Step.pick (t := false) rfl rfl) ?_
                        refine WL.step (v := (Value.bool false)) rfl (Step.move rfl) ?_
                        refine WL.pass rfl ?_
                        refine WL.pass rfl ?_
                        refine WL.pass rfl ?_
                        refine WL.pass rfl ?_
                        refine WL.pass rfl ?_
                        refine WL.step (v := (Value.bool false)) rfl (Step.pick (t := false) rfl rfl) ?_
                        refine WL.step (v := (Value.bool false)) rfl (Step.pick (t := false) rfl rfl) ?_
                        refine WL.step (v := (Value.bool false)) rfl (Step.assign rfl) ?_
                        refine WL.nil ?_
                        have hov_ : overB x_ x65 = false := by first | (exfalso; omega) | simp [overB, h62p, hx65, h70p, h71p, h72p, h75p, h76p]
                        exact ⟨⟨rfl, rfl, rfl, rfl, rfl, rfl, rfl, (congrArg Value.bool hov_.symm), rfl, rfl⟩, M⟩
                    ·
                      have h75p : ¬ (pickI x65.op 8 : Int) = (4 : Int) := by simpa using h75
                      rw [h75]
                      refine WL.pass rfl ?_
                      refine WL.pass rfl ?_
                      refine WL.pass rfl ?_
                      refine WL.pass rfl ?_
                      refine WL.pass rfl ?_
                      refine WL.step (v := (Value.bool false)) rfl (Step.pick (t := false) rfl rfl) ?_
                      refine WL.step (v := (Value.bool false)) rfl (Step.move rfl) ?_
                      refine WL.pass rfl ?_
                      refine WL.pass rfl ?_
                      refine WL.pass rfl ?_
                      refine WL.pass rfl ?_
                      refine WL.pass rfl ?_
                      refine WL.step (v := (Value.bool false)) rfl (Step.pick (t := false) rfl rfl) ?_
                      refine WL.step (v := (Value.bool false)) rfl (Step.move rfl) ?_
                      refine WL.pass rfl ?_
                      refine WL.pass rfl ?_
                      refine WL.pass rfl ?_
                      refine WL.pass rfl ?_
                      refine WL.pass rfl ?_
                      refine WL.step (v := (Value.bool false)) rfl (Step.pick (t := false) rfl rfl) ?_
                      refine WL.step (v := (Value.bool false)) rfl (Step.pick (t := false) rfl rfl) ?_
                      refine WL.step (v := (Value.bool false)) rfl (Step.assign rfl) ?_
                      refine WL.nil ?_
                      have hov_ : overB x_ x65 = false := by first | (exfalso; omega) | simp [overB, h62p, hx65, h70p, h71p, h72p, h75p]
                      exact ⟨⟨rfl, rfl, rfl, rfl, rfl, rfl, rfl, (congrArg Value.bool hov_.symm), rfl, rfl⟩, M⟩
              ·
                have h70p : ¬ (pickI x65.op 8 : Int) = (6 : Int) := by simpa using h70
                rw [h70]
                refine WL.pass rfl ?_
                refine WL.pass rfl ?_
                refine WL.pass rfl ?_
                refine WL.pass rfl ?_
                refine WL.pass rfl ?_
                refine WL.step (v := (Value.bool false)) rfl (Step.pick (t := false) rfl rfl) ?_
                refine WL.step (v := (Value.bool false)) rfl (Step.move rfl) ?_
                refine WL.step (v := (Value.int .i64 (pickI x65.op 8))) rfl (Step.move rfl) ?_
                refine WL.step (v := (Value.bool ((pickI x65.op 8 : Int) == (7 : Int)))) rfl (Step.pure (by kernel_rfl)) ?_
                refine WL.step (v := (Value.bool ((pickI x65.op 8 : Int) == (7 : Int)))) rfl (Step.move rfl) ?_
                rcases Bool.eq_false_or_eq_true ((pickI x65.op 8 : Int) == (7 : Int)) with h78 | h78
                ·
                  have h78p : (pickI x65.op 8 : Int) = (7 : Int) := by simpa using h78
                  rw [h78]
                  refine WL.step (v := (Value.pointer (some ⟨b66, 1, none⟩))) rfl (Step.pure (by kernel_rfl)) ?_
                  refine WL.step (v := (Value.int .i64 x65.owner)) rfl (Step.load1 Try.sc3 rfl ((M.cell 0 rfl 1).trans rfl)) ?_
                  refine WL.step (v := (Value.pointer (some ⟨b42, 1, none⟩))) rfl (Step.pure (by kernel_rfl)) ?_
                  refine WL.step (v := (Value.int .i64 x_.owner)) rfl (Step.load1 Try.sc3 rfl ((M.cell 4 rfl 1).trans rfl)) ?_
                  refine WL.step (v := (Value.bool ((x65.owner : Int) == (x_.owner : Int)))) rfl (Step.pure (by kernel_rfl)) ?_
                  refine WL.step (v := (Value.bool ((x65.owner : Int) == (x_.owner : Int)))) rfl (Step.pick (t := true) rfl rfl) ?_
                  refine WL.step (v := (Value.bool ((x65.owner : Int) == (x_.owner : Int)))) rfl (Step.pick (t := false) rfl rfl) ?_
                  refine WL.step (v := (Value.bool ((x65.owner : Int) == (x_.owner : Int)))) rfl (Step.move rfl) ?_
                  rcases Bool.eq_false_or_eq_true ((x65.owner : Int) == (x_.owner : Int)) with h79 | h79
                  ·
                    have h79p : (x65.owner : Int) = (x_.owner : Int) := by simpa using h79
                    rw [h79]
                    refine WL.pass rfl ?_
                    refine WL.pass rfl ?_
                    refine WL.pass rfl ?_
                    refine WL.pass rfl ?_
                    refine WL.pass rfl ?_
                    refine WL.pass rfl ?_
                    refine WL.pass rfl ?_
                    refine WL.pass rfl ?_
                    refine WL.pass rfl ?_
                    refine WL.pass rfl ?_
                    refine WL.pass rfl ?_
                    refine WL.pass rfl ?_
                    refine WL.pass rfl ?_
                    refine WL.pass rfl ?_
                    refine WL.pass rfl ?_
                    refine WL.pass rfl ?_
                    refine WL.pass rfl ?_
                    refine WL.pass rfl ?_
                    refine WL.pass rfl ?_
                    refine WL.pass rfl ?_
                    refine WL.pass rfl ?_
                    refine WL.pass rfl ?_
                    refine WL.pass rfl ?_
                    refine WL.step (v := (Value.bool true)) rfl (Step.pick (t := true) rfl rfl) ?_
                    refine WL.step (v := (Value.bool true)) rfl (Step.assign rfl) ?_
                    refine WL.nil ?_
                    have hov_ : overB x_ x65 = true := by first | (exfalso; omega) | simp [overB, h62p, hx65, h70p, h78p, h79p]
                    exact ⟨⟨rfl, rfl, rfl, rfl, rfl, rfl, rfl, (congrArg Value.bool hov_.symm), rfl, rfl⟩, M⟩
                  ·
                    have h79p : ¬ (x65.owner : Int) = (x_.owner : Int) := by simpa using h79
                    rw [h79]
                    refine WL.step (v := (Value.int .i64 (pickI x65.op 8))) rfl (Step.move rfl) ?_
                    refine WL.step (v := (Value.bool ((pickI x65.op 8 : Int) == (4 : Int)))) rfl (Step.pure (by kernel_rfl)) ?_
                    refine WL.step (v := (Value.bool ((pickI x65.op 8 : Int) == (4 : Int)))) rfl (Step.move rfl) ?_
                    rcases Bool.eq_false_or_eq_true ((pickI x65.op 8 : Int) == (4 : Int)) with h80 | h80
                    ·
                      have h80p : (pickI x65.op 8 : Int) = (4 : Int) := by simpa using h80
                      rw [h80]
                      refine WL.step (v := (Value.pointer (some ⟨b66, 1, none⟩))) rfl (Step.pure (by kernel_rfl)) ?_
                      refine WL.step (v := (Value.int .i64 x65.owner)) rfl (Step.load1 Try.sc3 rfl ((M.cell 0 rfl 1).trans rfl)) ?_
                      refine WL.step (v := (Value.pointer (some ⟨b42, 1, none⟩))) rfl (Step.pure (by kernel_rfl)) ?_
                      refine WL.step (v := (Value.int .i64 x_.owner)) rfl (Step.load1 Try.sc3 rfl ((M.cell 4 rfl 1).trans rfl)) ?_
                      refine WL.step (v := (Value.bool false)) rfl (Step.cast (congrArg Value.bool h79) (Step.pure (by kernel_rfl))) ?_
                      refine WL.step (v := (Value.bool false)) rfl (Step.pick (t := true) rfl rfl) ?_
                      refine WL.step (v := (Value.bool false)) rfl (Step.move rfl) ?_
                      refine WL.pass rfl ?_
                      refine WL.pass rfl ?_
                      refine WL.pass rfl ?_
                      refine WL.pass rfl ?_
                      refine WL.pass rfl ?_
                      refine WL.step (v := (Value.bool false)) rfl (Step.pick (t := false) rfl rfl) ?_
                      refine WL.step (v := (Value.bool false)) rfl (Step.move rfl) ?_
                      refine WL.pass rfl ?_
                      refine WL.pass rfl ?_
                      refine WL.pass rfl ?_
                      refine WL.pass rfl ?_
                      refine WL.pass rfl ?_
                      refine WL.step (v := (Value.bool false)) rfl (Step.pick (t := false) rfl rfl) ?_
                      refine WL.step (v := (Value.bool false)) rfl (Step.pick (t := false) rfl rfl) ?_
                      refine WL.step (v := (Value.bool false)) rfl (Step.assign rfl) ?_
                      refine WL.nil ?_
                      have hov_ : overB x_ x65 = false := by first | (exfalso; omega) | simp [overB, h62p, hx65, h70p, h78p, h79p, h80p]
                      exact ⟨⟨rfl, rfl, rfl, rfl, rfl, rfl, rfl, (congrArg Value.bool hov_.symm), rfl, rfl⟩, M⟩
                    ·
                      have h80p : ¬ (pickI x65.op 8 : Int) = (4 : Int) := by simpa using h80
                      rw [h80]
                      refine WL.pass rfl ?_
                      refine WL.pass rfl ?_
                      refine WL.pass rfl ?_
                      refine WL.pass rfl ?_
                      refine WL.pass rfl ?_
                      refine WL.step (v := (Value.bool false)) rfl (Step.pick (t := false) rfl rfl) ?_
                      refine WL.step (v := (Value.bool false)) rfl (Step.move rfl) ?_
                      refine WL.pass rfl ?_
                      refine WL.pass rfl ?_
                      refine WL.pass rfl ?_
                      refine WL.pass rfl ?_
                      refine WL.pass rfl ?_
                      refine WL.step (v := (Value.bool false)) rfl (Step.pick (t := false) rfl rfl) ?_
                      refine WL.step (v := (Value.bool false)) rfl (Step.move rfl) ?_
                      refine WL.pass rfl ?_
                      refine WL.pass rfl ?_
                      refine WL.pass rfl ?_
                      refine WL.pass rfl ?_
                      refine WL.pass rfl ?_
                      refine WL.step (v := (Value.bool false)) rfl (Step.pick (t := false) rfl rfl) ?_
                      refine WL.step (v := (Value.bool false)) rfl (Step.pick (t := false) rfl rfl) ?_
                      refine WL.step (v := (Value.bool false)) rfl (Step.assign rfl) ?_
                      refine WL.nil ?_
                      have hov_ : overB x_ x65 = false := by first | (exfalso; omega) | simp [overB, h62p, hx65, h70p, h78p, h79p, h80p]
                      exact ⟨⟨rfl, rfl, rfl, rfl, rfl, rfl, rfl, (congrArg Value.bool hov_.symm), rfl, rfl⟩, M⟩
                ·
                  have h78p : ¬ (pickI x65.op 8 : Int) = (7 : Int) := by simpa using h78
                  rw [h78]
                  refine WL.pass rfl ?_
                  refine WL.pass rfl ?_
                  refine WL.pass rfl ?_
                  refine WL.pass rfl ?_
                  refine WL.pass rfl ?_
                  refine WL.step (v := (Value.bool false)) rfl (Step.pick (t := false) rfl rfl) ?_
                  refine WL.step (v := (Value.bool false)) rfl (Step.pick (t := false) rfl rfl) ?_
                  refine WL.step (v := (Value.bool false)) rfl (Step.move rfl) ?_
                  refine WL.step (v := (Value.int .i64 (pickI x65.op 8))) rfl (Step.move rfl) ?_
                  refine WL.step (v := (Value.bool ((pickI x65.op 8 : Int) == (4 : Int)))) rfl (Step.pure (by kernel_rfl)) ?_
                  refine WL.step (v := (Value.bool ((pickI x65.op 8 : Int) == (4 : Int)))) rfl (Step.move rfl) ?_
                  rcases Bool.eq_false_or_eq_true ((pickI x65.op 8 : Int) == (4 : Int)) with h81 | h81
                  ·
                    have h81p : (pickI x65.op 8 : Int) = (4 : Int) := by simpa using h81
                    rw [h81]
                    refine WL.step (v := (Value.pointer (some ⟨b66, 1, none⟩))) rfl (Step.pure (by kernel_rfl)) ?_
                    refine WL.step (v := (Value.int .i64 x65.owner)) rfl (Step.load1 Try.sc3 rfl ((M.cell 0 rfl 1).trans rfl)) ?_
                    refine WL.step (v := (Value.pointer (some ⟨b42, 1, none⟩))) rfl (Step.pure (by kernel_rfl)) ?_
                    refine WL.step (v := (Value.int .i64 x_.owner)) rfl (Step.load1 Try.sc3 rfl ((M.cell 4 rfl 1).trans rfl)) ?_
                    refine WL.step (v := (Value.bool ((x65.owner : Int) == (x_.owner : Int)))) rfl (Step.pure (by kernel_rfl)) ?_
                    refine WL.step (v := (Value.bool ((x65.owner : Int) == (x_.owner : Int)))) rfl (Step.pick (t := true) rfl rfl) ?_
                    refine WL.step (v := (Value.bool ((x65.owner : Int) == (x_.owner : Int)))) rfl (Step.move rfl) ?_
                    rcases Bool.eq_false_or_eq_true ((x65.owner : Int) == (x_.owner : Int)) with h82 | h82
                    ·
                      have h82p : (x65.owner : Int) = (x_.owner : Int) := by simpa using h82
                      rw [h82]
                      refine WL.step (v := (Value.pointer (some ⟨b66, 2, none⟩))) rfl (Step.pure (by kernel_rfl)) ?_
                      refine WL.step (v := (Value.int .u64 x65.id)) rfl (Step.load1 Try.sc23 rfl ((M.cell 0 rfl 2).trans rfl)) ?_
                      refine WL.step (v := (Value.pointer (some ⟨b42, 0, none⟩))) rfl (Step.pure (by kernel_rfl)) ?_
                      refine WL.step (v := (Value.int .u64 x_.id)) rfl (Step.load1 Try.sc23 rfl ((M.cell 4 rfl 0).trans rfl)) ?_
                      refine WL.step (v := (Value.bool ((x65.id : Int) == (x_.id : Int)))) rfl (Step.pure (by kernel_rfl)) ?_
                      refine WL.step (v := (Value.bool ((x65.id : Int) == (x_.id : Int)))) rfl (Step.pick (t := true) rfl rfl) ?_
                      refine WL.step (v := (Value.bool ((x65.id : Int) == (x_.id : Int)))) rfl (Step.move rfl) ?_
                      rcases Bool.eq_false_or_eq_true ((x65.id : Int) == (x_.id : Int)) with h83 | h83
                      ·
                        have h83p : (x65.id : Int) = (x_.id : Int) := by simpa using h83
                        rw [h83]
                        refine WL.step (v := (Value.pointer (some ⟨b66, 5, none⟩))) rfl (Step.pure (by kernel_rfl)) ?_
                        refine WL.step (v := (Value.bool x65.cursor)) rfl (Step.load1 Try.sc4 rfl ((M.cell 0 rfl 5).trans rfl)) ?_
                        refine WL.step (v := (Value.pointer (some ⟨b42, 4, none⟩))) rfl (Step.pure (by kernel_rfl)) ?_
                        refine WL.step (v := (Value.bool x_.cursor)) rfl (Step.load1 Try.sc4 rfl ((M.cell 4 rfl 4).trans rfl)) ?_
                        refine WL.step (v := (Value.bool (x65.cursor == x_.cursor))) rfl (Step.pure (by kernel_rfl)) ?_
                        refine WL.step (v := (Value.bool (x65.cursor == x_.cursor))) rfl (Step.pick (t := true) rfl rfl) ?_
                        refine WL.step (v := (Value.bool (x65.cursor == x_.cursor))) rfl (Step.pick (t := false) rfl rfl) ?_
                        refine WL.step (v := (Value.bool (x65.cursor == x_.cursor))) rfl (Step.assign rfl) ?_
                        refine WL.nil ?_
                        have hov_ : overB x_ x65 = (x65.cursor == x_.cursor) := by first | (exfalso; omega) | simp [overB, h62p, hx65, h70p, h78p, h81p, h82p, h83p]
                        exact ⟨⟨rfl, rfl, rfl, rfl, rfl, rfl, rfl, (congrArg Value.bool hov_.symm), rfl, rfl⟩, M⟩
                      ·
                        have h83p : ¬ (x65.id : Int) = (x_.id : Int) := by simpa using h83
                        rw [h83]
                        refine WL.pass rfl ?_
                        refine WL.pass rfl ?_
                        refine WL.pass rfl ?_
                        refine WL.pass rfl ?_
                        refine WL.pass rfl ?_
                        refine WL.step (v := (Value.bool false)) rfl (Step.pick (t := false) rfl rfl) ?_
                        refine WL.step (v := (Value.bool false)) rfl (Step.pick (t := false) rfl rfl) ?_
                        refine WL.step (v := (Value.bool false)) rfl (Step.assign rfl) ?_
                        refine WL.nil ?_
                        have hov_ : overB x_ x65 = false := by first | (exfalso; omega) | simp [overB, h62p, hx65, h70p, h78p, h81p, h82p, h83p]
                        exact ⟨⟨rfl, rfl, rfl, rfl, rfl, rfl, rfl, (congrArg Value.bool hov_.symm), rfl, rfl⟩, M⟩
                    ·
                      have h82p : ¬ (x65.owner : Int) = (x_.owner : Int) := by simpa using h82
                      rw [h82]
                      refine WL.pass rfl ?_
                      refine WL.pass rfl ?_
                      refine WL.pass rfl ?_
                      refine WL.pass rfl ?_
                      refine WL.pass rfl ?_
                      refine WL.step (v := (Value.bool false)) rfl (Step.pick (t := false) rfl rfl) ?_
                      refine WL.step (v := (Value.bool false)) rfl (Step.move rfl) ?_
                      refine WL.pass rfl ?_
                      refine WL.pass rfl ?_
                      refine WL.pass rfl ?_
                      refine WL.pass rfl ?_
                      refine WL.pass rfl ?_
                      refine WL.step (v := (Value.bool false)) rfl (Step.pick (t := false) rfl rfl) ?_
                      refine WL.step (v := (Value.bool false)) rfl (Step.pick (t := false) rfl rfl) ?_
                      refine WL.step (v := (Value.bool false)) rfl (Step.assign rfl) ?_
                      refine WL.nil ?_
                      have hov_ : overB x_ x65 = false := by first | (exfalso; omega) | simp [overB, h62p, hx65, h70p, h78p, h81p, h82p]
                      exact ⟨⟨rfl, rfl, rfl, rfl, rfl, rfl, rfl, (congrArg Value.bool hov_.symm), rfl, rfl⟩, M⟩
                  ·
                    have h81p : ¬ (pickI x65.op 8 : Int) = (4 : Int) := by simpa using h81
                    rw [h81]
                    refine WL.pass rfl ?_
                    refine WL.pass rfl ?_
                    refine WL.pass rfl ?_
                    refine WL.pass rfl ?_
                    refine WL.pass rfl ?_
                    refine WL.step (v := (Value.bool false)) rfl (Step.pick (t := false) rfl rfl) ?_
                    refine WL.step (v := (Value.bool false)) rfl (Step.move rfl) ?_
                    refine WL.pass rfl ?_
                    refine WL.pass rfl ?_
                    refine WL.pass rfl ?_
                    refine WL.pass rfl ?_
                    refine WL.pass rfl ?_
                    refine WL.step (v := (Value.bool false)) rfl (Step.pick (t := false) rfl rfl) ?_
                    refine WL.step (v := (Value.bool false)) rfl (Step.move rfl) ?_
                    refine WL.pass rfl ?_
                    refine WL.pass rfl ?_
                    refine WL.pass rfl ?_
                    refine WL.pass rfl ?_
                    refine WL.pass rfl ?_
                    refine WL.step (v := (Value.bool false)) rfl (Step.pick (t := false) rfl rfl) ?_
                    refine WL.step (v := (Value.bool false)) rfl (Step.pick (t := false) rfl rfl) ?_
                    refine WL.step (v := (Value.bool false)) rfl (Step.assign rfl) ?_
                    refine WL.nil ?_
                    have hov_ : overB x_ x65 = false := by first | (exfalso; omega) | simp [overB, h62p, hx65, h70p, h78p, h81p]
                    exact ⟨⟨rfl, rfl, rfl, rfl, rfl, rfl, rfl, (congrArg Value.bool hov_.symm), rfl, rfl⟩, M⟩
            ·
              rintro ρ84 w85 ⟨hρ, M⟩
              obtain ⟨ρ84, rfl⟩ := hρ.know
              clear hρ
              refine W.seq' ?_
              refine W.region rfl ?_
              refine WL.step (v := (Value.pointer (some ⟨lb11, 0, none⟩))) rfl (Step.move rfl) ?_
              refine WL.step (v := (Value.agg #[rv2_, (Value.int .i64 (max (0 : Int) (most : Int))), (Value.int .u64 la2_)])) rfl (Step.loadN Try.ag80 rfl (M.blk 3 rfl) (Nat.le_of_ble_eq_true rfl) rfl) ?_
              refine WL.step (v := (Value.agg #[(Value.int .i64 x65.op), (Value.int .i64 x65.owner), (Value.int .u64 x65.id), (Value.int .u64 x65.n), (Value.int .u64 x65.till), (Value.bool x65.cursor)])) rfl (Step.loadN Try.ag75 rfl (M.blk 0 rfl) (Nat.le_of_ble_eq_true rfl) rfl) ?_
              refine WL.callX rfl (law_does lb11 lv2_ l2_ (max (0 : Int) (most : Int)) la2_ rv2_ x65 (by first | omega | assumption | decide | (simp only [List.length_nil, List.length_cons, List.length_take, List.length_drop]; omega)) (by omega) (by assumption) (M.enter (C := [blk lb11 (.cells #[lv2_, (Value.int .i64 (max (0 : Int) (most : Int))), (Value.int .u64 la2_)] 147), own 85 5 lv2_ l2_.length (l2_.flatMap leaseE)]) (D := [blk b66 (.cells #[(Value.int .i64 x65.op), (Value.int .i64 x65.owner), (Value.int .u64 x65.id), (Value.int .u64 x65.n), (Value.int .u64 x65.till), (Value.bool x65.cursor)] 75), blk b14 (.cells #[rv2_, (Value.int .i64 (max (0 : Int) (most : Int))), (Value.int .u64 la2_)] 80), blk b42 (.cells #[(Value.int .u64 x_.id), (Value.int .i64 x_.owner), (Value.int .u64 x_.epoch), (Value.int .u64 x_.till), (Value.bool x_.cursor)] 85)]) [1, 2, 0, 3, 4] rfl (by decide) ⟨(M.shr' 0 rfl), trivial⟩)) (CallsF.func Try.en44 rfl) ?_
              rintro _ w88 ⟨rv86, v87, rfl, m⟩
              replace M := M.leave (C := [blk lb11 (.cells #[lv2_, (Value.int .i64 (max (0 : Int) (most : Int))), (Value.int .u64 la2_)] 147), own 85 5 lv2_ l2_.length (l2_.flatMap leaseE)]) (D := [blk b66 (.cells #[(Value.int .i64 x65.op), (Value.int .i64 x65.owner), (Value.int .u64 x65.id), (Value.int .u64 x65.n), (Value.int .u64 x65.till), (Value.bool x65.cursor)] 75), blk b14 (.cells #[rv2_, (Value.int .i64 (max (0 : Int) (most : Int))), (Value.int .u64 la2_)] 80), blk b42 (.cells #[(Value.int .u64 x_.id), (Value.int .i64 x_.owner), (Value.int .u64 x_.epoch), (Value.int .u64 x_.till), (Value.bool x_.cursor)] 85)]) [1, 2, 0, 3, 4] rfl (by decide) m
              clear m
              replace M : Mem _ _ _ [blk lb11 (.cells #[v87, (Value.int .i64 (max (0 : Int) (most : Int))), (Value.int .u64 ((stepL l2_ (max (0 : Int) (most : Int)) la2_ x65).2))] 147), own 85 5 v87 (((stepL l2_ (max (0 : Int) (most : Int)) la2_ x65).1).length) (((stepL l2_ (max (0 : Int) (most : Int)) la2_ x65).1).flatMap leaseE), blk b66 (.cells #[(Value.int .i64 x65.op), (Value.int .i64 x65.owner), (Value.int .u64 x65.id), (Value.int .u64 x65.n), (Value.int .u64 x65.till), (Value.bool x65.cursor)] 75), blk b14 (.cells #[rv2_, (Value.int .i64 (max (0 : Int) (most : Int))), (Value.int .u64 la2_)] 80), blk b42 (.cells #[(Value.int .u64 x_.id), (Value.int .i64 x_.owner), (Value.int .u64 x_.epoch), (Value.int .u64 x_.till), (Value.bool x_.cursor)] 85)] [SlAt 5 rv86 ((stepL l2_ (max (0 : Int) (most : Int)) la2_ x65).1).length (((stepL l2_ (max (0 : Int) (most : Int)) la2_ x65).1).flatMap leaseE), SlAt 5 rv2_ l2_.length (l2_.flatMap leaseE), SlAt 6 v ahead.length (ahead.flatMap lactE), SlAt 6 u behind.length (behind.flatMap lactE)] _ := M
              have sl89 : IsSl rv86 := SlAt.isSl (Mem.rep M 0 rfl)
              have hle90 := SlAt.le' (M.rep 0 rfl)
              have sl91 : IsSl v87 := SlAt.isSl (own_slAt (Mem.chunk M 1 rfl).inv)
              have hle92 := SlAt.le' (own_slAt (Mem.chunk M 1 rfl).inv)
              refine WL.step (v := (Value.tuple #[(Value.agg #[rv86, (Value.int .i64 (max (0 : Int) (most : Int))), (Value.int .u64 ((stepL l2_ (max (0 : Int) (most : Int)) la2_ x65).2))]), (Value.bool true)])) rfl (Step.move rfl) ?_
              refine WL.step (v := (Value.agg #[rv86, (Value.int .i64 (max (0 : Int) (most : Int))), (Value.int .u64 ((stepL l2_ (max (0 : Int) (most : Int)) la2_ x65).2))])) rfl (Step.pure (by kernel_rfl)) ?_
              refine WL.step (v := (Value.bool true)) rfl (Step.pure (by kernel_rfl)) ?_
              refine WL.store (v := (Value.agg #[rv86, (Value.int .i64 (max (0 : Int) (most : Int))), (Value.int .u64 ((stepL l2_ (max (0 : Int) (most : Int)) la2_ x65).2))])) (cs := [rv86, (Value.int .i64 (max (0 : Int) (most : Int))), (Value.int .u64 ((stepL l2_ (max (0 : Int) (most : Int)) la2_ x65).2))]) (c' := #[rv86, (Value.int .i64 (max (0 : Int) (most : Int))), (Value.int .u64 ((stepL l2_ (max (0 : Int) (most : Int)) la2_ x65).2))]) M 3 rfl rfl Try.el80.sized rfl rfl rfl rfl (Nat.le_of_ble_eq_true rfl) (cel_cons (IsSl.cel sl89) (cel_cons rfl (cel_cons rfl cel_nil))) rfl rfl (fun w93 M => ?_)
              refine WL.nil ?_
              refine W.seq' ?_
              refine W.region rfl ?_
              refine WL.step (v := (Value.pointer (some ⟨lb11, 0, none⟩))) rfl (Step.move rfl) ?_
              refine WL.step (v := (Value.pointer (some ⟨b42, 1, none⟩))) rfl (Step.pure (by kernel_rfl)) ?_
              refine WL.step (v := (Value.int .i64 x_.owner)) rfl (Step.load1 Try.sc3 rfl ((M.cell 4 rfl 1).trans rfl)) ?_
              refine WL.step (v := (Value.pointer (some ⟨b42, 0, none⟩))) rfl (Step.pure (by kernel_rfl)) ?_
              refine WL.step (v := (Value.int .u64 x_.id)) rfl (Step.load1 Try.sc23 rfl ((M.cell 4 rfl 0).trans rfl)) ?_
              refine WL.step (v := (Value.pointer (some ⟨b42, 4, none⟩))) rfl (Step.pure (by kernel_rfl)) ?_
              refine WL.step (v := (Value.bool x_.cursor)) rfl (Step.load1 Try.sc4 rfl ((M.cell 4 rfl 4).trans rfl)) ?_
              refine WL.callX rfl (le_get lb11 v87 ((stepL l2_ (max (0 : Int) (most : Int)) la2_ x65).1) (max (0 : Int) (most : Int)) ((stepL l2_ (max (0 : Int) (most : Int)) la2_ x65).2) x_.owner x_.id x_.cursor (M.enterW0 ⟨(M.wideC0 0 rfl), ((M.wideC0 1 rfl).imp fun _ h => own_slAt h), trivial⟩)) (CallsF.func Try.en49 rfl) ?_
              rintro _ w94 ⟨rfl, m⟩
              replace M := M.leaveW0 m
              clear m
              replace M : Mem _ _ _ [blk lb11 (.cells #[v87, (Value.int .i64 (max (0 : Int) (most : Int))), (Value.int .u64 ((stepL l2_ (max (0 : Int) (most : Int)) la2_ x65).2))] 147), own 85 5 v87 (((stepL l2_ (max (0 : Int) (most : Int)) la2_ x65).1).length) (((stepL l2_ (max (0 : Int) (most : Int)) la2_ x65).1).flatMap leaseE), blk b66 (.cells #[(Value.int .i64 x65.op), (Value.int .i64 x65.owner), (Value.int .u64 x65.id), (Value.int .u64 x65.n), (Value.int .u64 x65.till), (Value.bool x65.cursor)] 75), blk b14 (.cells #[rv86, (Value.int .i64 (max (0 : Int) (most : Int))), (Value.int .u64 ((stepL l2_ (max (0 : Int) (most : Int)) la2_ x65).2))] 80), blk b42 (.cells #[(Value.int .u64 x_.id), (Value.int .i64 x_.owner), (Value.int .u64 x_.epoch), (Value.int .u64 x_.till), (Value.bool x_.cursor)] 85)] [SlAt 5 rv86 ((stepL l2_ (max (0 : Int) (most : Int)) la2_ x65).1).length (((stepL l2_ (max (0 : Int) (most : Int)) la2_ x65).1).flatMap leaseE), SlAt 5 rv2_ l2_.length (l2_.flatMap leaseE), SlAt 6 v ahead.length (ahead.flatMap lactE), SlAt 6 u behind.length (behind.flatMap lactE)] _ := M
              refine WL.step (v := (Value.tuple #[(Value.agg #[(Value.int .u64 (((getV ((stepL l2_ (max (0 : Int) (most : Int)) la2_ x65).1) x_.owner x_.id x_.cursor).1).id)), (Value.int .i64 (((getV ((stepL l2_ (max (0 : Int) (most : Int)) la2_ x65).1) x_.owner x_.id x_.cursor).1).owner)), (Value.int .u64 (((getV ((stepL l2_ (max (0 : Int) (most : Int)) la2_ x65).1) x_.owner x_.id x_.cursor).1).epoch)), (Value.int .u64 (((getV ((stepL l2_ (max (0 : Int) (most : Int)) la2_ x65).1) x_.owner x_.id x_.cursor).1).till)), (Value.bool (((getV ((stepL l2_ (max (0 : Int) (most : Int)) la2_ x65).1) x_.owner x_.id x_.cursor).1).cursor))]), (Value.int .i64 ((getV ((stepL l2_ (max (0 : Int) (most : Int)) la2_ x65).1) x_.owner x_.id x_.cursor).2))])) rfl (Step.move rfl) ?_
              refine WL.step (v := (Value.agg #[(Value.int .u64 (((getV ((stepL l2_ (max (0 : Int) (most : Int)) la2_ x65).1) x_.owner x_.id x_.cursor).1).id)), (Value.int .i64 (((getV ((stepL l2_ (max (0 : Int) (most : Int)) la2_ x65).1) x_.owner x_.id x_.cursor).1).owner)), (Value.int .u64 (((getV ((stepL l2_ (max (0 : Int) (most : Int)) la2_ x65).1) x_.owner x_.id x_.cursor).1).epoch)), (Value.int .u64 (((getV ((stepL l2_ (max (0 : Int) (most : Int)) la2_ x65).1) x_.owner x_.id x_.cursor).1).till)), (Value.bool (((getV ((stepL l2_ (max (0 : Int) (most : Int)) la2_ x65).1) x_.owner x_.id x_.cursor).1).cursor))])) rfl (Step.pure (by kernel_rfl)) ?_
              refine WL.step (v := (Value.int .i64 ((getV ((stepL l2_ (max (0 : Int) (most : Int)) la2_ x65).1) x_.owner x_.id x_.cursor).2))) rfl (Step.pure (by kernel_rfl)) ?_
              refine WL.alloc (c := #[(Value.int .u64 0), (Value.int .i64 0), (Value.int .u64 0), (Value.int .u64 0), (Value.bool false)]) M rfl Try.el85.zero rfl (fun b95 w96 hb95 M => ?_)
              refine WL.store (v := (Value.agg #[(Value.int .u64 (((getV ((stepL l2_ (max (0 : Int) (most : Int)) la2_ x65).1) x_.owner x_.id x_.cursor).1).id)), (Value.int .i64 (((getV ((stepL l2_ (max (0 : Int) (most : Int)) la2_ x65).1) x_.owner x_.id x_.cursor).1).owner)), (Value.int .u64 (((getV ((stepL l2_ (max (0 : Int) (most : Int)) la2_ x65).1) x_.owner x_.id x_.cursor).1).epoch)), (Value.int .u64 (((getV ((stepL l2_ (max (0 : Int) (most : Int)) la2_ x65).1) x_.owner x_.id x_.cursor).1).till)), (Value.bool (((getV ((stepL l2_ (max (0 : Int) (most : Int)) la2_ x65).1) x_.owner x_.id x_.cursor).1).cursor))])) (cs := [(Value.int .u64 (((getV ((stepL l2_ (max (0 : Int) (most : Int)) la2_ x65).1) x_.owner x_.id x_.cursor).1).id)), (Value.int .i64 (((getV ((stepL l2_ (max (0 : Int) (most : Int)) la2_ x65).1) x_.owner x_.id x_.cursor).1).owner)), (Value.int .u64 (((getV ((stepL l2_ (max (0 : Int) (most : Int)) la2_ x65).1) x_.owner x_.id x_.cursor).1).epoch)), (Value.int .u64 (((getV ((stepL l2_ (max (0 : Int) (most : Int)) la2_ x65).1) x_.owner x_.id x_.cursor).1).till)), (Value.bool (((getV ((stepL l2_ (max (0 : Int) (most : Int)) la2_ x65).1) x_.owner x_.id x_.cursor).1).cursor))]) (c' := #[(Value.int .u64 (((getV ((stepL l2_ (max (0 : Int) (most : Int)) la2_ x65).1) x_.owner x_.id x_.cursor).1).id)), (Value.int .i64 (((getV ((stepL l2_ (max (0 : Int) (most : Int)) la2_ x65).1) x_.owner x_.id x_.cursor).1).owner)), (Value.int .u64 (((getV ((stepL l2_ (max (0 : Int) (most : Int)) la2_ x65).1) x_.owner x_.id x_.cursor).1).epoch)), (Value.int .u64 (((getV ((stepL l2_ (max (0 : Int) (most : Int)) la2_ x65).1) x_.owner x_.id x_.cursor).1).till)), (Value.bool (((getV ((stepL l2_ (max (0 : Int) (most : Int)) la2_ x65).1) x_.owner x_.id x_.cursor).1).cursor))]) M 0 rfl rfl Try.el85.sized rfl rfl rfl rfl (Nat.le_of_ble_eq_true rfl) (cel_cons rfl (cel_cons rfl (cel_cons rfl (cel_cons rfl (cel_cons rfl cel_nil))))) rfl rfl (fun w97 M => ?_)
              refine WL.step (v := (Value.int .i64 ((getV ((stepL l2_ (max (0 : Int) (most : Int)) la2_ x65).1) x_.owner x_.id x_.cursor).2))) rfl (Step.assign rfl) ?_
              refine WL.nil ?_
              refine W.seq' ?_
              refine W.seq' ?_
              refine W.region rfl ?_
              refine WL.step (v := (Value.bool (overB x_ x65))) rfl (Step.move rfl) ?_
              refine WL.nil ?_
              refine W.cond (t := overB x_ x65) rfl (fun h98 => ?_) (fun h98 => ?_)
              ·
                have hov_ := h98
                have hsl := step_len (last := la2_) (b := x65) hlm_
                have hgo := step_over (most := max (0 : Int) (most : Int)) (last := la2_) hlj1 hxm_ hov_
                refine W.seq' ?_
                refine W.region rfl ?_
                refine WL.step (v := (Value.int .i64 ((getV ((stepL l2_ (max (0 : Int) (most : Int)) la2_ x65).1) x_.owner x_.id x_.cursor).2))) rfl (Step.move rfl) ?_
                refine WL.step (v := (Value.bool (((getV ((stepL l2_ (max (0 : Int) (most : Int)) la2_ x65).1) x_.owner x_.id x_.cursor).2 : Int) != (0 : Int)))) rfl (Step.pure (by kernel_rfl)) ?_
                refine WL.step (v := (Value.bool (((getV ((stepL l2_ (max (0 : Int) (most : Int)) la2_ x65).1) x_.owner x_.id x_.cursor).2 : Int) != (0 : Int)))) rfl (Step.move rfl) ?_
                rcases Bool.eq_false_or_eq_true (((getV ((stepL l2_ (max (0 : Int) (most : Int)) la2_ x65).1) x_.owner x_.id x_.cursor).2 : Int) != (0 : Int)) with h99 | h99
                ·
                  have h99p : ¬ ((getV ((stepL l2_ (max (0 : Int) (most : Int)) la2_ x65).1) x_.owner x_.id x_.cursor).2 : Int) = (0 : Int) := by simpa using h99
                  rw [h99]
                  refine WL.step (v := (Value.pointer (some ⟨lb11, 0, none⟩))) rfl (Step.move rfl) ?_
                  refine WL.callX rfl (le_len lb11 v87 ((stepL l2_ (max (0 : Int) (most : Int)) la2_ x65).1) (max (0 : Int) (most : Int)) ((stepL l2_ (max (0 : Int) (most : Int)) la2_ x65).2) (M.enterW0 ⟨(M.wideC0 1 rfl), ((M.wideC0 2 rfl).imp fun _ h => own_slAt h), trivial⟩)) (CallsF.func Try.en45 rfl) ?_
                  rintro _ w100 ⟨rfl, m⟩
                  replace M := M.leaveW0 m
                  clear m
                  replace M : Mem _ _ _ [blk b95 (.cells #[(Value.int .u64 (((getV ((stepL l2_ (max (0 : Int) (most : Int)) la2_ x65).1) x_.owner x_.id x_.cursor).1).id)), (Value.int .i64 (((getV ((stepL l2_ (max (0 : Int) (most : Int)) la2_ x65).1) x_.owner x_.id x_.cursor).1).owner)), (Value.int .u64 (((getV ((stepL l2_ (max (0 : Int) (most : Int)) la2_ x65).1) x_.owner x_.id x_.cursor).1).epoch)), (Value.int .u64 (((getV ((stepL l2_ (max (0 : Int) (most : Int)) la2_ x65).1) x_.owner x_.id x_.cursor).1).till)), (Value.bool (((getV ((stepL l2_ (max (0 : Int) (most : Int)) la2_ x65).1) x_.owner x_.id x_.cursor).1).cursor))] 85), blk lb11 (.cells #[v87, (Value.int .i64 (max (0 : Int) (most : Int))), (Value.int .u64 ((stepL l2_ (max (0 : Int) (most : Int)) la2_ x65).2))] 147), own 85 5 v87 (((stepL l2_ (max (0 : Int) (most : Int)) la2_ x65).1).length) (((stepL l2_ (max (0 : Int) (most : Int)) la2_ x65).1).flatMap leaseE), blk b66 (.cells #[(Value.int .i64 x65.op), (Value.int .i64 x65.owner), (Value.int .u64 x65.id), (Value.int .u64 x65.n), (Value.int .u64 x65.till), (Value.bool x65.cursor)] 75), blk b14 (.cells #[rv86, (Value.int .i64 (max (0 : Int) (most : Int))), (Value.int .u64 ((stepL l2_ (max (0 : Int) (most : Int)) la2_ x65).2))] 80), blk b42 (.cells #[(Value.int .u64 x_.id), (Value.int .i64 x_.owner), (Value.int .u64 x_.epoch), (Value.int .u64 x_.till), (Value.bool x_.cursor)] 85)] [SlAt 5 rv86 ((stepL l2_ (max (0 : Int) (most : Int)) la2_ x65).1).length (((stepL l2_ (max (0 : Int) (most : Int)) la2_ x65).1).flatMap leaseE), SlAt 5 rv2_ l2_.length (l2_.flatMap leaseE), SlAt 6 v ahead.length (ahead.flatMap lactE), SlAt 6 u behind.length (behind.flatMap lactE)] _ := M
                  refine WL.step (v := (Value.int .i64 most)) rfl (Step.move rfl) ?_
                  refine WL.step (v := (Value.int .i64 (max (0 : Int) (most : Int)))) rfl (Step.maxI rfl rfl) ?_
                  refine WL.step (v := (Value.bool (decide ((↑((stepL l2_ (max (0 : Int) (most : Int)) la2_ x65).1).length : Int) ≤ (max (0 : Int) (most : Int) : Int))))) rfl (Step.pure (by kernel_rfl)) ?_
                  refine WL.step (v := (Value.bool (decide ((↑((stepL l2_ (max (0 : Int) (most : Int)) la2_ x65).1).length : Int) ≤ (max (0 : Int) (most : Int) : Int))))) rfl (Step.pick (t := true) rfl rfl) ?_
                  refine WL.step (v := (Value.bool (decide ((↑((stepL l2_ (max (0 : Int) (most : Int)) la2_ x65).1).length : Int) ≤ (max (0 : Int) (most : Int) : Int))))) rfl (Step.move rfl) ?_
                  rcases Bool.eq_false_or_eq_true (decide ((↑((stepL l2_ (max (0 : Int) (most : Int)) la2_ x65).1).length : Int) ≤ (max (0 : Int) (most : Int) : Int))) with h101 | h101
                  ·
                    have h101p := of_decide_eq_true h101
                    rw [h101]
                    refine WL.callX rfl (law_works  (M.enterW0 trivial)) (CallsF.func Try.en41 rfl) ?_
                    rintro _ w102 ⟨rfl, m⟩
                    replace M := M.leaveW0 m
                    clear m
                    replace M : Mem _ _ _ [blk b95 (.cells #[(Value.int .u64 (((getV ((stepL l2_ (max (0 : Int) (most : Int)) la2_ x65).1) x_.owner x_.id x_.cursor).1).id)), (Value.int .i64 (((getV ((stepL l2_ (max (0 : Int) (most : Int)) la2_ x65).1) x_.owner x_.id x_.cursor).1).owner)), (Value.int .u64 (((getV ((stepL l2_ (max (0 : Int) (most : Int)) la2_ x65).1) x_.owner x_.id x_.cursor).1).epoch)), (Value.int .u64 (((getV ((stepL l2_ (max (0 : Int) (most : Int)) la2_ x65).1) x_.owner x_.id x_.cursor).1).till)), (Value.bool (((getV ((stepL l2_ (max (0 : Int) (most : Int)) la2_ x65).1) x_.owner x_.id x_.cursor).1).cursor))] 85), blk lb11 (.cells #[v87, (Value.int .i64 (max (0 : Int) (most : Int))), (Value.int .u64 ((stepL l2_ (max (0 : Int) (most : Int)) la2_ x65).2))] 147), own 85 5 v87 (((stepL l2_ (max (0 : Int) (most : Int)) la2_ x65).1).length) (((stepL l2_ (max (0 : Int) (most : Int)) la2_ x65).1).flatMap leaseE), blk b66 (.cells #[(Value.int .i64 x65.op), (Value.int .i64 x65.owner), (Value.int .u64 x65.id), (Value.int .u64 x65.n), (Value.int .u64 x65.till), (Value.bool x65.cursor)] 75), blk b14 (.cells #[rv86, (Value.int .i64 (max (0 : Int) (most : Int))), (Value.int .u64 ((stepL l2_ (max (0 : Int) (most : Int)) la2_ x65).2))] 80), blk b42 (.cells #[(Value.int .u64 x_.id), (Value.int .i64 x_.owner), (Value.int .u64 x_.epoch), (Value.int .u64 x_.till), (Value.bool x_.cursor)] 85)] [SlAt 5 rv86 ((stepL l2_ (max (0 : Int) (most : Int)) la2_ x65).1).length (((stepL l2_ (max (0 : Int) (most : Int)) la2_ x65).1).flatMap leaseE), SlAt 5 rv2_ l2_.length (l2_.flatMap leaseE), SlAt 6 v ahead.length (ahead.flatMap lactE), SlAt 6 u behind.length (behind.flatMap lactE)] _ := M
                    refine WL.step (v := (Value.bool true)) rfl (Step.pick (t := true) rfl rfl) ?_
                    refine WL.step (v := (Value.bool true)) rfl (Step.assign rfl) ?_
                    refine WL.nil ?_
                    refine W.ret ?_
                    refine ⟨.inl rfl, (Value.bool true), ?_, ?_⟩
                    · exact ⟨rfl, (Res.r1 (show RV _ _ _ (.tmp 8) (Value.bool true) from by exact rfl))⟩
                    refine ⟨?_, M.close [] rfl (by decide) trivial⟩
                    rfl
                  ·
                    have h101p := of_decide_eq_false h101
                    omega
                ·
                  have h99p : ((getV ((stepL l2_ (max (0 : Int) (most : Int)) la2_ x65).1) x_.owner x_.id x_.cursor).2 : Int) = (0 : Int) := by simpa using h99
                  exact absurd h99p hgo
              ·
                have hov_ := h98
                have hsl := step_len (last := la2_) (b := x65) hlm_
                obtain ⟨hg1, hg2, hg3, hg4, hg5⟩ := step_get (most := max (0 : Int) (most : Int)) hlj_ hxm_ hov_
                obtain ⟨hk1, hk2, hk3, hk4, hk5, hk6⟩ := id hg2
                refine W.skip ?_
                refine W.seq' ?_
                refine W.region rfl ?_
                refine WL.step (v := (Value.pointer (some ⟨lb11, 0, none⟩))) rfl (Step.move rfl) ?_
                refine WL.callX rfl (le_least lb11 v87 ((stepL l2_ (max (0 : Int) (most : Int)) la2_ x65).1) (max (0 : Int) (most : Int)) ((stepL l2_ (max (0 : Int) (most : Int)) la2_ x65).2) (M.enterW0 ⟨(M.wideC0 1 rfl), ((M.wideC0 2 rfl).imp fun _ h => own_slAt h), trivial⟩)) (CallsF.func Try.en50 rfl) ?_
                rintro _ w103 ⟨rfl, m⟩
                replace M := M.leaveW0 m
                clear m
                replace M : Mem _ _ _ [blk b95 (.cells #[(Value.int .u64 (((getV ((stepL l2_ (max (0 : Int) (most : Int)) la2_ x65).1) x_.owner x_.id x_.cursor).1).id)), (Value.int .i64 (((getV ((stepL l2_ (max (0 : Int) (most : Int)) la2_ x65).1) x_.owner x_.id x_.cursor).1).owner)), (Value.int .u64 (((getV ((stepL l2_ (max (0 : Int) (most : Int)) la2_ x65).1) x_.owner x_.id x_.cursor).1).epoch)), (Value.int .u64 (((getV ((stepL l2_ (max (0 : Int) (most : Int)) la2_ x65).1) x_.owner x_.id x_.cursor).1).till)), (Value.bool (((getV ((stepL l2_ (max (0 : Int) (most : Int)) la2_ x65).1) x_.owner x_.id x_.cursor).1).cursor))] 85), blk lb11 (.cells #[v87, (Value.int .i64 (max (0 : Int) (most : Int))), (Value.int .u64 ((stepL l2_ (max (0 : Int) (most : Int)) la2_ x65).2))] 147), own 85 5 v87 (((stepL l2_ (max (0 : Int) (most : Int)) la2_ x65).1).length) (((stepL l2_ (max (0 : Int) (most : Int)) la2_ x65).1).flatMap leaseE), blk b66 (.cells #[(Value.int .i64 x65.op), (Value.int .i64 x65.owner), (Value.int .u64 x65.id), (Value.int .u64 x65.n), (Value.int .u64 x65.till), (Value.bool x65.cursor)] 75), blk b14 (.cells #[rv86, (Value.int .i64 (max (0 : Int) (most : Int))), (Value.int .u64 ((stepL l2_ (max (0 : Int) (most : Int)) la2_ x65).2))] 80), blk b42 (.cells #[(Value.int .u64 x_.id), (Value.int .i64 x_.owner), (Value.int .u64 x_.epoch), (Value.int .u64 x_.till), (Value.bool x_.cursor)] 85)] [SlAt 5 rv86 ((stepL l2_ (max (0 : Int) (most : Int)) la2_ x65).1).length (((stepL l2_ (max (0 : Int) (most : Int)) la2_ x65).1).flatMap leaseE), SlAt 5 rv2_ l2_.length (l2_.flatMap leaseE), SlAt 6 v ahead.length (ahead.flatMap lactE), SlAt 6 u behind.length (behind.flatMap lactE)] _ := M
                refine WL.step (v := (Value.tuple #[(Value.int .u64 ((leastV ((stepL l2_ (max (0 : Int) (most : Int)) la2_ x65).1)).1)), (Value.bool ((leastV ((stepL l2_ (max (0 : Int) (most : Int)) la2_ x65).1)).2))])) rfl (Step.move rfl) ?_
                refine WL.step (v := (Value.int .u64 ((leastV ((stepL l2_ (max (0 : Int) (most : Int)) la2_ x65).1)).1))) rfl (Step.pure (by kernel_rfl)) ?_
                refine WL.step (v := (Value.bool ((leastV ((stepL l2_ (max (0 : Int) (most : Int)) la2_ x65).1)).2))) rfl (Step.pure (by kernel_rfl)) ?_
                refine WL.step (v := (Value.int .u64 ((leastV ((stepL l2_ (max (0 : Int) (most : Int)) la2_ x65).1)).1))) rfl (Step.assign rfl) ?_
                refine WL.step (v := (Value.bool ((leastV ((stepL l2_ (max (0 : Int) (most : Int)) la2_ x65).1)).2))) rfl (Step.assign rfl) ?_
                refine WL.nil ?_
                refine W.seq' ?_
                refine W.seq' ?_
                refine W.region rfl ?_
                refine WL.step (v := (Value.int .i64 ((getV ((stepL l2_ (max (0 : Int) (most : Int)) la2_ x65).1) x_.owner x_.id x_.cursor).2))) rfl (Step.move rfl) ?_
                refine WL.step (v := (Value.bool (((getV ((stepL l2_ (max (0 : Int) (most : Int)) la2_ x65).1) x_.owner x_.id x_.cursor).2 : Int) != (0 : Int)))) rfl (Step.pure (by kernel_rfl)) ?_
                refine WL.step (v := (Value.bool (((getV ((stepL l2_ (max (0 : Int) (most : Int)) la2_ x65).1) x_.owner x_.id x_.cursor).2 : Int) != (0 : Int)))) rfl (Step.move rfl) ?_
                rcases Bool.eq_false_or_eq_true (((getV ((stepL l2_ (max (0 : Int) (most : Int)) la2_ x65).1) x_.owner x_.id x_.cursor).2 : Int) != (0 : Int)) with h104 | h104
                ·
                  have h104p : ¬ ((getV ((stepL l2_ (max (0 : Int) (most : Int)) la2_ x65).1) x_.owner x_.id x_.cursor).2 : Int) = (0 : Int) := by simpa using h104
                  exact absurd hg3 h104p
                ·
                  have h104p : ((getV ((stepL l2_ (max (0 : Int) (most : Int)) la2_ x65).1) x_.owner x_.id x_.cursor).2 : Int) = (0 : Int) := by simpa using h104
                  rw [h104]
                  refine WL.step (v := (Value.pointer (some ⟨b95, 3, none⟩))) rfl (Step.pure (by kernel_rfl)) ?_
                  refine WL.step (v := (Value.int .u64 (((getV ((stepL l2_ (max (0 : Int) (most : Int)) la2_ x65).1) x_.owner x_.id x_.cursor).1).till))) rfl (Step.load1 Try.sc23 rfl ((M.cell 0 rfl 3).trans rfl)) ?_
                  refine WL.step (v := (Value.pointer (some ⟨b42, 3, none⟩))) rfl (Step.pure (by kernel_rfl)) ?_
                  refine WL.step (v := (Value.int .u64 x_.till)) rfl (Step.load1 Try.sc23 rfl ((M.cell 5 rfl 3).trans rfl)) ?_
                  refine WL.step (v := (Value.bool (decide ((((getV ((stepL l2_ (max (0 : Int) (most : Int)) la2_ x65).1) x_.owner x_.id x_.cursor).1).till : Int) < (x_.till : Int))))) rfl (Step.pure (by kernel_rfl)) ?_
                  refine WL.step (v := (Value.bool (decide ((((getV ((stepL l2_ (max (0 : Int) (most : Int)) la2_ x65).1) x_.owner x_.id x_.cursor).1).till : Int) < (x_.till : Int))))) rfl (Step.pick (t := false) rfl rfl) ?_
                  refine WL.step (v := (Value.bool (decide ((((getV ((stepL l2_ (max (0 : Int) (most : Int)) la2_ x65).1) x_.owner x_.id x_.cursor).1).till : Int) < (x_.till : Int))))) rfl (Step.move rfl) ?_
                  rcases Bool.eq_false_or_eq_true (decide ((((getV ((stepL l2_ (max (0 : Int) (most : Int)) la2_ x65).1) x_.owner x_.id x_.cursor).1).till : Int) < (x_.till : Int))) with h105 | h105
                  ·
                    have h105p := of_decide_eq_true h105
                    omega
                  ·
                    have h105p := of_decide_eq_false h105
                    rw [h105]
                    refine WL.step (v := (Value.pointer (some ⟨b95, 2, none⟩))) rfl (Step.pure (by kernel_rfl)) ?_
                    refine WL.step (v := (Value.int .u64 (((getV ((stepL l2_ (max (0 : Int) (most : Int)) la2_ x65).1) x_.owner x_.id x_.cursor).1).epoch))) rfl (Step.load1 Try.sc23 rfl ((M.cell 0 rfl 2).trans rfl)) ?_
                    refine WL.step (v := (Value.pointer (some ⟨b42, 2, none⟩))) rfl (Step.pure (by kernel_rfl)) ?_
                    refine WL.step (v := (Value.int .u64 x_.epoch)) rfl (Step.load1 Try.sc23 rfl ((M.cell 5 rfl 2).trans rfl)) ?_
                    refine WL.step (v := (Value.bool (decide ((((getV ((stepL l2_ (max (0 : Int) (most : Int)) la2_ x65).1) x_.owner x_.id x_.cursor).1).epoch : Int) < (x_.epoch : Int))))) rfl (Step.pure (by kernel_rfl)) ?_
                    refine WL.step (v := (Value.bool (decide ((((getV ((stepL l2_ (max (0 : Int) (most : Int)) la2_ x65).1) x_.owner x_.id x_.cursor).1).epoch : Int) < (x_.epoch : Int))))) rfl (Step.pick (t := false) rfl rfl) ?_
                    refine WL.step (v := (Value.bool (decide ((((getV ((stepL l2_ (max (0 : Int) (most : Int)) la2_ x65).1) x_.owner x_.id x_.cursor).1).epoch : Int) < (x_.epoch : Int))))) rfl (Step.move rfl) ?_
                    rcases Bool.eq_false_or_eq_true (decide ((((getV ((stepL l2_ (max (0 : Int) (most : Int)) la2_ x65).1) x_.owner x_.id x_.cursor).1).epoch : Int) < (x_.epoch : Int))) with h106 | h106
                    ·
                      have h106p := of_decide_eq_true h106
                      omega
                    ·
                      have h106p := of_decide_eq_false h106
                      rw [h106]
                      refine WL.step (v := (Value.pointer (some ⟨b42, 4, none⟩))) rfl (Step.pure (by kernel_rfl)) ?_
                      refine WL.step (v := (Value.bool x_.cursor)) rfl (Step.load1 Try.sc4 rfl ((M.cell 5 rfl 4).trans rfl)) ?_
                      refine WL.step (v := (Value.bool !x_.cursor)) rfl (Step.pure (by kernel_rfl)) ?_
                      refine WL.step (v := (Value.bool !x_.cursor)) rfl (Step.move rfl) ?_
                      rcases Bool.eq_false_or_eq_true (!x_.cursor) with h107 | h107
                      ·
                        rw [h107]
                        refine WL.step (v := (Value.pointer (some ⟨b95, 2, none⟩))) rfl (Step.pure (by kernel_rfl)) ?_
                        refine WL.step (v := (Value.int .u64 (((getV ((stepL l2_ (max (0 : Int) (most : Int)) la2_ x65).1) x_.owner x_.id x_.cursor).1).epoch))) rfl (Step.load1 Try.sc23 rfl ((M.cell 0 rfl 2).trans rfl)) ?_
                        refine WL.step (v := (Value.pointer (some ⟨b42, 2, none⟩))) rfl (Step.pure (by kernel_rfl)) ?_
                        refine WL.step (v := (Value.int .u64 x_.epoch)) rfl (Step.load1 Try.sc23 rfl ((M.cell 5 rfl 2).trans rfl)) ?_
                        refine WL.step (v := (Value.bool ((((getV ((stepL l2_ (max (0 : Int) (most : Int)) la2_ x65).1) x_.owner x_.id x_.cursor).1).epoch : Int) != (x_.epoch : Int)))) rfl (Step.pure (by kernel_rfl)) ?_
                        refine WL.step (v := (Value.bool ((((getV ((stepL l2_ (max (0 : Int) (most : Int)) la2_ x65).1) x_.owner x_.id x_.cursor).1).epoch : Int) != (x_.epoch : Int)))) rfl (Step.pick (t := true) rfl rfl) ?_
                        refine WL.step (v := (Value.bool ((((getV ((stepL l2_ (max (0 : Int) (most : Int)) la2_ x65).1) x_.owner x_.id x_.cursor).1).epoch : Int) != (x_.epoch : Int)))) rfl (Step.pick (t := false) rfl rfl) ?_
                        refine WL.step (v := (Value.bool ((((getV ((stepL l2_ (max (0 : Int) (most : Int)) la2_ x65).1) x_.owner x_.id x_.cursor).1).epoch : Int) != (x_.epoch : Int)))) rfl (Step.move rfl) ?_
                        rcases Bool.eq_false_or_eq_true ((((getV ((stepL l2_ (max (0 : Int) (most : Int)) la2_ x65).1) x_.owner x_.id x_.cursor).1).epoch : Int) != (x_.epoch : Int)) with h108 | h108
                        ·
                          have h108p : ¬ (((getV ((stepL l2_ (max (0 : Int) (most : Int)) la2_ x65).1) x_.owner x_.id x_.cursor).1).epoch : Int) = (x_.epoch : Int) := by simpa using h108
                          exact absurd (hk6 (by simpa using h107)) h108p
                        ·
                          have h108p : (((getV ((stepL l2_ (max (0 : Int) (most : Int)) la2_ x65).1) x_.owner x_.id x_.cursor).1).epoch : Int) = (x_.epoch : Int) := by simpa using h108
                          rw [h108]
                          refine WL.step (v := (Value.bool ((leastV ((stepL l2_ (max (0 : Int) (most : Int)) la2_ x65).1)).2))) rfl (Step.move rfl) ?_
                          refine WL.step (v := (Value.bool (!((leastV ((stepL l2_ (max (0 : Int) (most : Int)) la2_ x65).1)).2)))) rfl (Step.pure (by kernel_rfl)) ?_
                          refine WL.step (v := (Value.bool (!((leastV ((stepL l2_ (max (0 : Int) (most : Int)) la2_ x65).1)).2)))) rfl (Step.pick (t := false) rfl rfl) ?_
                          refine WL.step (v := (Value.bool (!((leastV ((stepL l2_ (max (0 : Int) (most : Int)) la2_ x65).1)).2)))) rfl (Step.move rfl) ?_
                          rcases Bool.eq_false_or_eq_true (!((leastV ((stepL l2_ (max (0 : Int) (most : Int)) la2_ x65).1)).2)) with h109 | h109
                          ·
                            exact absurd hg4 (by simpa using h109)
                          ·
                            rw [h109]
                            refine WL.step (v := (Value.int .u64 ((leastV ((stepL l2_ (max (0 : Int) (most : Int)) la2_ x65).1)).1))) rfl (Step.move rfl) ?_
                            refine WL.step (v := (Value.pointer (some ⟨b95, 2, none⟩))) rfl (Step.pure (by kernel_rfl)) ?_
                            refine WL.step (v := (Value.int .u64 (((getV ((stepL l2_ (max (0 : Int) (most : Int)) la2_ x65).1) x_.owner x_.id x_.cursor).1).epoch))) rfl (Step.load1 Try.sc23 rfl ((M.cell 0 rfl 2).trans rfl)) ?_
                            refine WL.step (v := (Value.bool (decide (((leastV ((stepL l2_ (max (0 : Int) (most : Int)) la2_ x65).1)).1 : Int) > (((getV ((stepL l2_ (max (0 : Int) (most : Int)) la2_ x65).1) x_.owner x_.id x_.cursor).1).epoch : Int))))) rfl (Step.pure (by kernel_rfl)) ?_
                            refine WL.step (v := (Value.bool (decide (((leastV ((stepL l2_ (max (0 : Int) (most : Int)) la2_ x65).1)).1 : Int) > (((getV ((stepL l2_ (max (0 : Int) (most : Int)) la2_ x65).1) x_.owner x_.id x_.cursor).1).epoch : Int))))) rfl (Step.pick (t := false) rfl rfl) ?_
                            refine WL.step (v := (Value.bool (decide (((leastV ((stepL l2_ (max (0 : Int) (most : Int)) la2_ x65).1)).1 : Int) > (((getV ((stepL l2_ (max (0 : Int) (most : Int)) la2_ x65).1) x_.owner x_.id x_.cursor).1).epoch : Int))))) rfl (Step.move rfl) ?_
                            rcases Bool.eq_false_or_eq_true (decide (((leastV ((stepL l2_ (max (0 : Int) (most : Int)) la2_ x65).1)).1 : Int) > (((getV ((stepL l2_ (max (0 : Int) (most : Int)) la2_ x65).1) x_.owner x_.id x_.cursor).1).epoch : Int))) with h110 | h110
                            ·
                              have h110p := of_decide_eq_true h110
                              omega
                            ·
                              have h110p := of_decide_eq_false h110
                              rw [h110]
                              refine WL.step (v := (Value.pointer (some ⟨lb11, 0, none⟩))) rfl (Step.move rfl) ?_
                              refine WL.callX rfl (le_len lb11 v87 ((stepL l2_ (max (0 : Int) (most : Int)) la2_ x65).1) (max (0 : Int) (most : Int)) ((stepL l2_ (max (0 : Int) (most : Int)) la2_ x65).2) (M.enterW0 ⟨(M.wideC0 1 rfl), ((M.wideC0 2 rfl).imp fun _ h => own_slAt h), trivial⟩)) (CallsF.func Try.en45 rfl) ?_
                              rintro _ w111 ⟨rfl, m⟩
                              replace M := M.leaveW0 m
                              clear m
                              replace M : Mem _ _ _ [blk b95 (.cells #[(Value.int .u64 (((getV ((stepL l2_ (max (0 : Int) (most : Int)) la2_ x65).1) x_.owner x_.id x_.cursor).1).id)), (Value.int .i64 (((getV ((stepL l2_ (max (0 : Int) (most : Int)) la2_ x65).1) x_.owner x_.id x_.cursor).1).owner)), (Value.int .u64 (((getV ((stepL l2_ (max (0 : Int) (most : Int)) la2_ x65).1) x_.owner x_.id x_.cursor).1).epoch)), (Value.int .u64 (((getV ((stepL l2_ (max (0 : Int) (most : Int)) la2_ x65).1) x_.owner x_.id x_.cursor).1).till)), (Value.bool (((getV ((stepL l2_ (max (0 : Int) (most : Int)) la2_ x65).1) x_.owner x_.id x_.cursor).1).cursor))] 85), blk lb11 (.cells #[v87, (Value.int .i64 (max (0 : Int) (most : Int))), (Value.int .u64 ((stepL l2_ (max (0 : Int) (most : Int)) la2_ x65).2))] 147), own 85 5 v87 (((stepL l2_ (max (0 : Int) (most : Int)) la2_ x65).1).length) (((stepL l2_ (max (0 : Int) (most : Int)) la2_ x65).1).flatMap leaseE), blk b66 (.cells #[(Value.int .i64 x65.op), (Value.int .i64 x65.owner), (Value.int .u64 x65.id), (Value.int .u64 x65.n), (Value.int .u64 x65.till), (Value.bool x65.cursor)] 75), blk b14 (.cells #[rv86, (Value.int .i64 (max (0 : Int) (most : Int))), (Value.int .u64 ((stepL l2_ (max (0 : Int) (most : Int)) la2_ x65).2))] 80), blk b42 (.cells #[(Value.int .u64 x_.id), (Value.int .i64 x_.owner), (Value.int .u64 x_.epoch), (Value.int .u64 x_.till), (Value.bool x_.cursor)] 85)] [SlAt 5 rv86 ((stepL l2_ (max (0 : Int) (most : Int)) la2_ x65).1).length (((stepL l2_ (max (0 : Int) (most : Int)) la2_ x65).1).flatMap leaseE), SlAt 5 rv2_ l2_.length (l2_.flatMap leaseE), SlAt 6 v ahead.length (ahead.flatMap lactE), SlAt 6 u behind.length (behind.flatMap lactE)] _ := M
                              refine WL.step (v := (Value.int .i64 most)) rfl (Step.move rfl) ?_
                              refine WL.step (v := (Value.int .i64 (max (0 : Int) (most : Int)))) rfl (Step.maxI rfl rfl) ?_
                              refine WL.step (v := (Value.bool (decide ((↑((stepL l2_ (max (0 : Int) (most : Int)) la2_ x65).1).length : Int) > (max (0 : Int) (most : Int) : Int))))) rfl (Step.pure (by kernel_rfl)) ?_
                              refine WL.step (v := (Value.bool (decide ((↑((stepL l2_ (max (0 : Int) (most : Int)) la2_ x65).1).length : Int) > (max (0 : Int) (most : Int) : Int))))) rfl (Step.pick (t := false) rfl rfl) ?_
                              refine WL.nil ?_
                              refine W.cond (t := decide ((↑((stepL l2_ (max (0 : Int) (most : Int)) la2_ x65).1).length : Int) > (max (0 : Int) (most : Int) : Int))) rfl (fun h112 => ?_) (fun h112 => ?_)
                              ·
                                have h112p := of_decide_eq_true h112
                                omega
                              ·
                                have h112p := of_decide_eq_false h112
                                refine W.skip ?_
                                refine W.region rfl ?_
                                refine WL.step (v := (Value.agg #[(Value.int .u64 (((getV ((stepL l2_ (max (0 : Int) (most : Int)) la2_ x65).1) x_.owner x_.id x_.cursor).1).id)), (Value.int .i64 (((getV ((stepL l2_ (max (0 : Int) (most : Int)) la2_ x65).1) x_.owner x_.id x_.cursor).1).owner)), (Value.int .u64 (((getV ((stepL l2_ (max (0 : Int) (most : Int)) la2_ x65).1) x_.owner x_.id x_.cursor).1).epoch)), (Value.int .u64 (((getV ((stepL l2_ (max (0 : Int) (most : Int)) la2_ x65).1) x_.owner x_.id x_.cursor).1).till)), (Value.bool (((getV ((stepL l2_ (max (0 : Int) (most : Int)) la2_ x65).1) x_.owner x_.id x_.cursor).1).cursor))])) rfl (Step.loadN Try.ag85 rfl (M.blk 0 rfl) (Nat.le_of_ble_eq_true rfl) rfl) ?_
                                refine WL.store (v := (Value.agg #[(Value.int .u64 (((getV ((stepL l2_ (max (0 : Int) (most : Int)) la2_ x65).1) x_.owner x_.id x_.cursor).1).id)), (Value.int .i64 (((getV ((stepL l2_ (max (0 : Int) (most : Int)) la2_ x65).1) x_.owner x_.id x_.cursor).1).owner)), (Value.int .u64 (((getV ((stepL l2_ (max (0 : Int) (most : Int)) la2_ x65).1) x_.owner x_.id x_.cursor).1).epoch)), (Value.int .u64 (((getV ((stepL l2_ (max (0 : Int) (most : Int)) la2_ x65).1) x_.owner x_.id x_.cursor).1).till)), (Value.bool (((getV ((stepL l2_ (max (0 : Int) (most : Int)) la2_ x65).1) x_.owner x_.id x_.cursor).1).cursor))])) (cs := [(Value.int .u64 (((getV ((stepL l2_ (max (0 : Int) (most : Int)) la2_ x65).1) x_.owner x_.id x_.cursor).1).id)), (Value.int .i64 (((getV ((stepL l2_ (max (0 : Int) (most : Int)) la2_ x65).1) x_.owner x_.id x_.cursor).1).owner)), (Value.int .u64 (((getV ((stepL l2_ (max (0 : Int) (most : Int)) la2_ x65).1) x_.owner x_.id x_.cursor).1).epoch)), (Value.int .u64 (((getV ((stepL l2_ (max (0 : Int) (most : Int)) la2_ x65).1) x_.owner x_.id x_.cursor).1).till)), (Value.bool (((getV ((stepL l2_ (max (0 : Int) (most : Int)) la2_ x65).1) x_.owner x_.id x_.cursor).1).cursor))]) (c' := #[(Value.int .u64 (((getV ((stepL l2_ (max (0 : Int) (most : Int)) la2_ x65).1) x_.owner x_.id x_.cursor).1).id)), (Value.int .i64 (((getV ((stepL l2_ (max (0 : Int) (most : Int)) la2_ x65).1) x_.owner x_.id x_.cursor).1).owner)), (Value.int .u64 (((getV ((stepL l2_ (max (0 : Int) (most : Int)) la2_ x65).1) x_.owner x_.id x_.cursor).1).epoch)), (Value.int .u64 (((getV ((stepL l2_ (max (0 : Int) (most : Int)) la2_ x65).1) x_.owner x_.id x_.cursor).1).till)), (Value.bool (((getV ((stepL l2_ (max (0 : Int) (most : Int)) la2_ x65).1) x_.owner x_.id x_.cursor).1).cursor))]) M 5 rfl rfl Try.el85.sized rfl rfl rfl rfl (Nat.le_of_ble_eq_true rfl) (cel_cons rfl (cel_cons rfl (cel_cons rfl (cel_cons rfl (cel_cons rfl cel_nil))))) rfl rfl (fun w113 M => ?_)
                                refine WL.nil ?_
                                refine W.region rfl ?_
                                refine WL.step (v := (Value.int .i64 ↑jb_)) rfl (Step.move rfl) ?_
                                refine WL.step (v := (Value.int .i64 (↑jb_ + 1))) rfl (Step.add rfl rfl (wrap_i64 (by omega))) ?_
                                refine WL.step (v := (Value.int .i64 (↑jb_ + 1))) rfl (Step.assign rfl) ?_
                                refine WL.nil ?_
                                replace M := M.sel (L' := [blk lb11 (.cells #[v87, (Value.int .i64 (max (0 : Int) (most : Int))), (Value.int .u64 ((stepL l2_ (max (0 : Int) (most : Int)) la2_ x65).2))] 147), own 85 5 v87 (((stepL l2_ (max (0 : Int) (most : Int)) la2_ x65).1).length) (((stepL l2_ (max (0 : Int) (most : Int)) la2_ x65).1).flatMap leaseE), blk b14 (.cells #[rv86, (Value.int .i64 (max (0 : Int) (most : Int))), (Value.int .u64 ((stepL l2_ (max (0 : Int) (most : Int)) la2_ x65).2))] 80), blk b42 (.cells #[(Value.int .u64 (((getV ((stepL l2_ (max (0 : Int) (most : Int)) la2_ x65).1) x_.owner x_.id x_.cursor).1).id)), (Value.int .i64 (((getV ((stepL l2_ (max (0 : Int) (most : Int)) la2_ x65).1) x_.owner x_.id x_.cursor).1).owner)), (Value.int .u64 (((getV ((stepL l2_ (max (0 : Int) (most : Int)) la2_ x65).1) x_.owner x_.id x_.cursor).1).epoch)), (Value.int .u64 (((getV ((stepL l2_ (max (0 : Int) (most : Int)) la2_ x65).1) x_.owner x_.id x_.cursor).1).till)), (Value.bool (((getV ((stepL l2_ (max (0 : Int) (most : Int)) la2_ x65).1) x_.owner x_.id x_.cursor).1).cursor))] 85)]) [1, 2, 4, 5] rfl (by decide)
                                replace M := M.facts (R' := [SlAt 5 rv86 ((stepL l2_ (max (0 : Int) (most : Int)) la2_ x65).1).length (((stepL l2_ (max (0 : Int) (most : Int)) la2_ x65).1).flatMap leaseE), SlAt 6 v ahead.length (ahead.flatMap lactE), SlAt 6 u behind.length (behind.flatMap lactE)]) (Facts.all ⟨M.shr' 0 rfl, M.shr' 2 rfl, M.shr' 3 rfl, trivial⟩)
                                exact ⟨_, (by omega), jb_ + 1, (stepL l2_ (max (0 : Int) (most : Int)) la2_ x65).1, ((stepL l2_ (max (0 : Int) (most : Int)) la2_ x65).2), _, _, ((getV ((stepL l2_ (max (0 : Int) (most : Int)) la2_ x65).1) x_.owner x_.id x_.cursor).1), ⟨(by omega), (hlj_.step), hg1, hsl, rfl⟩, ⟨rfl, rfl, rfl, rfl, rfl, rfl, rfl, rfl⟩, M⟩
                      ·
                        rw [h107]
                        refine WL.pass rfl ?_
                        refine WL.pass rfl ?_
                        refine WL.pass rfl ?_
                        refine WL.pass rfl ?_
                        refine WL.pass rfl ?_
                        refine WL.step (v := (Value.bool false)) rfl (Step.pick (t := false) rfl rfl) ?_
                        refine WL.step (v := (Value.bool false)) rfl (Step.pick (t := false) rfl rfl) ?_
                        refine WL.step (v := (Value.bool false)) rfl (Step.move rfl) ?_
                        refine WL.step (v := (Value.bool ((leastV ((stepL l2_ (max (0 : Int) (most : Int)) la2_ x65).1)).2))) rfl (Step.move rfl) ?_
                        refine WL.step (v := (Value.bool (!((leastV ((stepL l2_ (max (0 : Int) (most : Int)) la2_ x65).1)).2)))) rfl (Step.pure (by kernel_rfl)) ?_
                        refine WL.step (v := (Value.bool (!((leastV ((stepL l2_ (max (0 : Int) (most : Int)) la2_ x65).1)).2)))) rfl (Step.pick (t := false) rfl rfl) ?_
                        refine WL.step (v := (Value.bool (!((leastV ((stepL l2_ (max (0 : Int) (most : Int)) la2_ x65).1)).2)))) rfl (Step.move rfl) ?_
                        rcases Bool.eq_false_or_eq_true (!((leastV ((stepL l2_ (max (0 : Int) (most : Int)) la2_ x65).1)).2)) with h114 | h114
                        ·
                          exact absurd hg4 (by simpa using h114)
                        ·
                          rw [h114]
                          refine WL.step (v := (Value.int .u64 ((leastV ((stepL l2_ (max (0 : Int) (most : Int)) la2_ x65).1)).1))) rfl (Step.move rfl) ?_
                          refine WL.step (v := (Value.pointer (some ⟨b95, 2, none⟩))) rfl (Step.pure (by kernel_rfl)) ?_
                          refine WL.step (v := (Value.int .u64 (((getV ((stepL l2_ (max (0 : Int) (most : Int)) la2_ x65).1) x_.owner x_.id x_.cursor).1).epoch))) rfl (Step.load1 Try.sc23 rfl ((M.cell 0 rfl 2).trans rfl)) ?_
                          refine WL.step (v := (Value.bool (decide (((leastV ((stepL l2_ (max (0 : Int) (most : Int)) la2_ x65).1)).1 : Int) > (((getV ((stepL l2_ (max (0 : Int) (most : Int)) la2_ x65).1) x_.owner x_.id x_.cursor).1).epoch : Int))))) rfl (Step.pure (by kernel_rfl)) ?_
                          refine WL.step (v := (Value.bool (decide (((leastV ((stepL l2_ (max (0 : Int) (most : Int)) la2_ x65).1)).1 : Int) > (((getV ((stepL l2_ (max (0 : Int) (most : Int)) la2_ x65).1) x_.owner x_.id x_.cursor).1).epoch : Int))))) rfl (Step.pick (t := false) rfl rfl) ?_
                          refine WL.step (v := (Value.bool (decide (((leastV ((stepL l2_ (max (0 : Int) (most : Int)) la2_ x65).1)).1 : Int) > (((getV ((stepL l2_ (max (0 : Int) (most : Int)) la2_ x65).1) x_.owner x_.id x_.cursor).1).epoch : Int))))) rfl (Step.move rfl) ?_
                          rcases Bool.eq_false_or_eq_true (decide (((leastV ((stepL l2_ (max (0 : Int) (most : Int)) la2_ x65).1)).1 : Int) > (((getV ((stepL l2_ (max (0 : Int) (most : Int)) la2_ x65).1) x_.owner x_.id x_.cursor).1).epoch : Int))) with h115 | h115
                          ·
                            have h115p := of_decide_eq_true h115
                            omega
                          ·
                            have h115p := of_decide_eq_false h115
                            rw [h115]
                            refine WL.step (v := (Value.pointer (some ⟨lb11, 0, none⟩))) rfl (Step.move rfl) ?_
                            refine WL.callX rfl (le_len lb11 v87 ((stepL l2_ (max (0 : Int) (most : Int)) la2_ x65).1) (max (0 : Int) (most : Int)) ((stepL l2_ (max (0 : Int) (most : Int)) la2_ x65).2) (M.enterW0 ⟨(M.wideC0 1 rfl), ((M.wideC0 2 rfl).imp fun _ h => own_slAt h), trivial⟩)) (CallsF.func Try.en45 rfl) ?_
                            rintro _ w116 ⟨rfl, m⟩
                            replace M := M.leaveW0 m
                            clear m
                            replace M : Mem _ _ _ [blk b95 (.cells #[(Value.int .u64 (((getV ((stepL l2_ (max (0 : Int) (most : Int)) la2_ x65).1) x_.owner x_.id x_.cursor).1).id)), (Value.int .i64 (((getV ((stepL l2_ (max (0 : Int) (most : Int)) la2_ x65).1) x_.owner x_.id x_.cursor).1).owner)), (Value.int .u64 (((getV ((stepL l2_ (max (0 : Int) (most : Int)) la2_ x65).1) x_.owner x_.id x_.cursor).1).epoch)), (Value.int .u64 (((getV ((stepL l2_ (max (0 : Int) (most : Int)) la2_ x65).1) x_.owner x_.id x_.cursor).1).till)), (Value.bool (((getV ((stepL l2_ (max (0 : Int) (most : Int)) la2_ x65).1) x_.owner x_.id x_.cursor).1).cursor))] 85), blk lb11 (.cells #[v87, (Value.int .i64 (max (0 : Int) (most : Int))), (Value.int .u64 ((stepL l2_ (max (0 : Int) (most : Int)) la2_ x65).2))] 147), own 85 5 v87 (((stepL l2_ (max (0 : Int) (most : Int)) la2_ x65).1).length) (((stepL l2_ (max (0 : Int) (most : Int)) la2_ x65).1).flatMap leaseE), blk b66 (.cells #[(Value.int .i64 x65.op), (Value.int .i64 x65.owner), (Value.int .u64 x65.id), (Value.int .u64 x65.n), (Value.int .u64 x65.till), (Value.bool x65.cursor)] 75), blk b14 (.cells #[rv86, (Value.int .i64 (max (0 : Int) (most : Int))), (Value.int .u64 ((stepL l2_ (max (0 : Int) (most : Int)) la2_ x65).2))] 80), blk b42 (.cells #[(Value.int .u64 x_.id), (Value.int .i64 x_.owner), (Value.int .u64 x_.epoch), (Value.int .u64 x_.till), (Value.bool x_.cursor)] 85)] [SlAt 5 rv86 ((stepL l2_ (max (0 : Int) (most : Int)) la2_ x65).1).length (((stepL l2_ (max (0 : Int) (most : Int)) la2_ x65).1).flatMap leaseE), SlAt 5 rv2_ l2_.length (l2_.flatMap leaseE), SlAt 6 v ahead.length (ahead.flatMap lactE), SlAt 6 u behind.length (behind.flatMap lactE)] _ := M
                            refine WL.step (v := (Value.int .i64 most)) rfl (Step.move rfl) ?_
                            refine WL.step (v := (Value.int .i64 (max (0 : Int) (most : Int)))) rfl (Step.maxI rfl rfl) ?_
                            refine WL.step (v := (Value.bool (decide ((↑((stepL l2_ (max (0 : Int) (most : Int)) la2_ x65).1).length : Int) > (max (0 : Int) (most : Int) : Int))))) rfl (Step.pure (by kernel_rfl)) ?_
                            refine WL.step (v := (Value.bool (decide ((↑((stepL l2_ (max (0 : Int) (most : Int)) la2_ x65).1).length : Int) > (max (0 : Int) (most : Int) : Int))))) rfl (Step.pick (t := false) rfl rfl) ?_
                            refine WL.nil ?_
                            refine W.cond (t := decide ((↑((stepL l2_ (max (0 : Int) (most : Int)) la2_ x65).1).length : Int) > (max (0 : Int) (most : Int) : Int))) rfl (fun h117 => ?_) (fun h117 => ?_)
                            ·
                              have h117p := of_decide_eq_true h117
                              omega
                            ·
                              have h117p := of_decide_eq_false h117
                              refine W.skip ?_
                              refine W.region rfl ?_
                              refine WL.step (v := (Value.agg #[(Value.int .u64 (((getV ((stepL l2_ (max (0 : Int) (most : Int)) la2_ x65).1) x_.owner x_.id x_.cursor).1).id)), (Value.int .i64 (((getV ((stepL l2_ (max (0 : Int) (most : Int)) la2_ x65).1) x_.owner x_.id x_.cursor).1).owner)), (Value.int .u64 (((getV ((stepL l2_ (max (0 : Int) (most : Int)) la2_ x65).1) x_.owner x_.id x_.cursor).1).epoch)), (Value.int .u64 (((getV ((stepL l2_ (max (0 : Int) (most : Int)) la2_ x65).1) x_.owner x_.id x_.cursor).1).till)), (Value.bool (((getV ((stepL l2_ (max (0 : Int) (most : Int)) la2_ x65).1) x_.owner x_.id x_.cursor).1).cursor))])) rfl (Step.loadN Try.ag85 rfl (M.blk 0 rfl) (Nat.le_of_ble_eq_true rfl) rfl) ?_
                              refine WL.store (v := (Value.agg #[(Value.int .u64 (((getV ((stepL l2_ (max (0 : Int) (most : Int)) la2_ x65).1) x_.owner x_.id x_.cursor).1).id)), (Value.int .i64 (((getV ((stepL l2_ (max (0 : Int) (most : Int)) la2_ x65).1) x_.owner x_.id x_.cursor).1).owner)), (Value.int .u64 (((getV ((stepL l2_ (max (0 : Int) (most : Int)) la2_ x65).1) x_.owner x_.id x_.cursor).1).epoch)), (Value.int .u64 (((getV ((stepL l2_ (max (0 : Int) (most : Int)) la2_ x65).1) x_.owner x_.id x_.cursor).1).till)), (Value.bool (((getV ((stepL l2_ (max (0 : Int) (most : Int)) la2_ x65).1) x_.owner x_.id x_.cursor).1).cursor))])) (cs := [(Value.int .u64 (((getV ((stepL l2_ (max (0 : Int) (most : Int)) la2_ x65).1) x_.owner x_.id x_.cursor).1).id)), (Value.int .i64 (((getV ((stepL l2_ (max (0 : Int) (most : Int)) la2_ x65).1) x_.owner x_.id x_.cursor).1).owner)), (Value.int .u64 (((getV ((stepL l2_ (max (0 : Int) (most : Int)) la2_ x65).1) x_.owner x_.id x_.cursor).1).epoch)), (Value.int .u64 (((getV ((stepL l2_ (max (0 : Int) (most : Int)) la2_ x65).1) x_.owner x_.id x_.cursor).1).till)), (Value.bool (((getV ((stepL l2_ (max (0 : Int) (most : Int)) la2_ x65).1) x_.owner x_.id x_.cursor).1).cursor))]) (c' := #[(Value.int .u64 (((getV ((stepL l2_ (max (0 : Int) (most : Int)) la2_ x65).1) x_.owner x_.id x_.cursor).1).id)), (Value.int .i64 (((getV ((stepL l2_ (max (0 : Int) (most : Int)) la2_ x65).1) x_.owner x_.id x_.cursor).1).owner)), (Value.int .u64 (((getV ((stepL l2_ (max (0 : Int) (most : Int)) la2_ x65).1) x_.owner x_.id x_.cursor).1).epoch)), (Value.int .u64 (((getV ((stepL l2_ (max (0 : Int) (most : Int)) la2_ x65).1) x_.owner x_.id x_.cursor).1).till)), (Value.bool (((getV ((stepL l2_ (max (0 : Int) (most : Int)) la2_ x65).1) x_.owner x_.id x_.cursor).1).cursor))]) M 5 rfl rfl Try.el85.sized rfl rfl rfl rfl (Nat.le_of_ble_eq_true rfl) (cel_cons rfl (cel_cons rfl (cel_cons rfl (cel_cons rfl (cel_cons rfl cel_nil))))) rfl rfl (fun w118 M => ?_)
                              refine WL.nil ?_
                              refine W.region rfl ?_
                              refine WL.step (v := (Value.int .i64 ↑jb_)) rfl (Step.move rfl) ?_
                              refine WL.step (v := (Value.int .i64 (↑jb_ + 1))) rfl (Step.add rfl rfl (wrap_i64 (by omega))) ?_
                              refine WL.step (v := (Value.int .i64 (↑jb_ + 1))) rfl (Step.assign rfl) ?_
                              refine WL.nil ?_
                              replace M := M.sel (L' := [blk lb11 (.cells #[v87, (Value.int .i64 (max (0 : Int) (most : Int))), (Value.int .u64 ((stepL l2_ (max (0 : Int) (most : Int)) la2_ x65).2))] 147), own 85 5 v87 (((stepL l2_ (max (0 : Int) (most : Int)) la2_ x65).1).length) (((stepL l2_ (max (0 : Int) (most : Int)) la2_ x65).1).flatMap leaseE), blk b14 (.cells #[rv86, (Value.int .i64 (max (0 : Int) (most : Int))), (Value.int .u64 ((stepL l2_ (max (0 : Int) (most : Int)) la2_ x65).2))] 80), blk b42 (.cells #[(Value.int .u64 (((getV ((stepL l2_ (max (0 : Int) (most : Int)) la2_ x65).1) x_.owner x_.id x_.cursor).1).id)), (Value.int .i64 (((getV ((stepL l2_ (max (0 : Int) (most : Int)) la2_ x65).1) x_.owner x_.id x_.cursor).1).owner)), (Value.int .u64 (((getV ((stepL l2_ (max (0 : Int) (most : Int)) la2_ x65).1) x_.owner x_.id x_.cursor).1).epoch)), (Value.int .u64 (((getV ((stepL l2_ (max (0 : Int) (most : Int)) la2_ x65).1) x_.owner x_.id x_.cursor).1).till)), (Value.bool (((getV ((stepL l2_ (max (0 : Int) (most : Int)) la2_ x65).1) x_.owner x_.id x_.cursor).1).cursor))] 85)]) [1, 2, 4, 5] rfl (by decide)
                              replace M := M.facts (R' := [SlAt 5 rv86 ((stepL l2_ (max (0 : Int) (most : Int)) la2_ x65).1).length (((stepL l2_ (max (0 : Int) (most : Int)) la2_ x65).1).flatMap leaseE), SlAt 6 v ahead.length (ahead.flatMap lactE), SlAt 6 u behind.length (behind.flatMap lactE)]) (Facts.all ⟨M.shr' 0 rfl, M.shr' 2 rfl, M.shr' 3 rfl, trivial⟩)
                              exact ⟨_, (by omega), jb_ + 1, (stepL l2_ (max (0 : Int) (most : Int)) la2_ x65).1, ((stepL l2_ (max (0 : Int) (most : Int)) la2_ x65).2), _, _, ((getV ((stepL l2_ (max (0 : Int) (most : Int)) la2_ x65).1) x_.owner x_.id x_.cursor).1), ⟨(by omega), (hlj_.step), hg1, hsl, rfl⟩, ⟨rfl, rfl, rfl, rfl, rfl, rfl, rfl, rfl⟩, M⟩
          ·
            have h62p := of_decide_eq_false h62
            refine W.exit ?_
            refine thn_exit ?_
            refine thn_exit ?_
            refine inBlk_hit ?_
            refine W.seq' ?_
            refine W.region rfl ?_
            refine WL.callX rfl (law_works  (M.enterW0 trivial)) (CallsF.func Try.en41 rfl) ?_
            rintro _ w119 ⟨rfl, m⟩
            replace M := M.leaveW0 m
            clear m
            replace M : Mem _ _ _ [blk lb11 (.cells #[lv2_, (Value.int .i64 (max (0 : Int) (most : Int))), (Value.int .u64 la2_)] 147), own 85 5 lv2_ l2_.length (l2_.flatMap leaseE), blk b14 (.cells #[rv2_, (Value.int .i64 (max (0 : Int) (most : Int))), (Value.int .u64 la2_)] 80), blk b42 (.cells #[(Value.int .u64 x_.id), (Value.int .i64 x_.owner), (Value.int .u64 x_.epoch), (Value.int .u64 x_.till), (Value.bool x_.cursor)] 85)] [SlAt 5 rv2_ l2_.length (l2_.flatMap leaseE), SlAt 6 v ahead.length (ahead.flatMap lactE), SlAt 6 u behind.length (behind.flatMap lactE)] _ := M
            refine WL.step (v := (Value.bool true)) rfl (Step.assign rfl) ?_
            refine WL.nil ?_
            refine W.ret ?_
            refine ⟨.inl rfl, (Value.bool true), ?_, ?_⟩
            · exact ⟨rfl, (Res.r1 (show RV _ _ _ (.tmp 8) (Value.bool true) from by exact rfl))⟩
            refine ⟨?_, M.close [] rfl (by decide) trivial⟩
            rfl
end Go.Proofs
