/- Walks. -/
import Derived.Test.YtlehkjkpgmkbiaaTrC10
set_option maxRecDepth 100000
set_option linter.all false
namespace Go.Proofs
open Go Tp
theorem Try.en17 : Enters Try.prog 17 := fun _ _ => by kernel_rfl
theorem Try.en19 : Enters Try.prog 19 := fun _ _ => by kernel_rfl
theorem Try.en32 : Enters Try.prog 32 := fun _ _ => by kernel_rfl
theorem Try.en35 : Enters Try.prog 35 := fun _ _ => by kernel_rfl
theorem Try.en39 : Enters Try.prog 39 := fun _ _ => by kernel_rfl
theorem Try.en40 : Enters Try.prog 40 := fun _ _ => by kernel_rfl
theorem Try.en79 : Enters Try.prog 79 := fun _ _ => by kernel_rfl

theorem law_example {G : Nat → Prop} {w : World}    (M : Mem G (fun _ => False) w [] [] w) : Rets Try.prog 79 #[] w fun r w' => ∃ (cb' : Nat) (v' : Value), r = (Value.pointer (some ⟨cb', 0, none⟩)) ∧ Mem G (fun _ => False) w [blk cb' (.cells #[v'] 135), own 34 6 v' exL.length (exL.flatMap verE)] [] w' := by
  refine Rets.enter 12 _ Try.func79 rfl Try.ntmps79 Try.results79 (by simp) ?_
  refine W.seq' ?_
  refine W.region rfl ?_
  refine WL.step (v := (Value.pointer none)) rfl (Step.assign rfl) ?_
  refine WL.nil ?_
  refine W.seq' ?_
  refine W.region rfl ?_
  refine WL.callX rfl (law_live 2 5 (M.enterW0 trivial)) (CallsF.func Try.en39 rfl) ?_
  rintro _ w1 ⟨rfl, m⟩
  replace M := M.leaveW0 m
  clear m
  replace M : Mem _ _ _ [] [] _ := M
  refine WL.callX rfl (law_dead 4 (M.enterW0 trivial)) (CallsF.func Try.en40 rfl) ?_
  rintro _ w2 ⟨rfl, m⟩
  replace M := M.leaveW0 m
  clear m
  replace M : Mem _ _ _ [] [] _ := M
  refine WL.callX rfl (law_live 7 9 (M.enterW0 trivial)) (CallsF.func Try.en39 rfl) ?_
  rintro _ w3 ⟨rfl, m⟩
  replace M := M.leaveW0 m
  clear m
  replace M : Mem _ _ _ [] [] _ := M
  refine WL.new (obj := .cells #[(Value.int .u64 ((⟨2, false, ⟨1, 5, 5, 5⟩⟩ : Ver).epoch)), (Value.bool ((⟨2, false, ⟨1, 5, 5, 5⟩⟩ : Ver).dead)), (Value.int .i64 ((⟨2, false, ⟨1, 5, 5, 5⟩⟩ : Ver).agg.count)), (Value.int .i64 ((⟨2, false, ⟨1, 5, 5, 5⟩⟩ : Ver).agg.sum)), (Value.int .i64 ((⟨2, false, ⟨1, 5, 5, 5⟩⟩ : Ver).agg.min)), (Value.int .i64 ((⟨2, false, ⟨1, 5, 5, 5⟩⟩ : Ver).agg.max)), (Value.int .u64 ((⟨4, true, aggZ⟩ : Ver).epoch)), (Value.bool ((⟨4, true, aggZ⟩ : Ver).dead)), (Value.int .i64 ((⟨4, true, aggZ⟩ : Ver).agg.count)), (Value.int .i64 ((⟨4, true, aggZ⟩ : Ver).agg.sum)), (Value.int .i64 ((⟨4, true, aggZ⟩ : Ver).agg.min)), (Value.int .i64 ((⟨4, true, aggZ⟩ : Ver).agg.max)), (Value.int .u64 ((⟨7, false, ⟨1, 9, 9, 9⟩⟩ : Ver).epoch)), (Value.bool ((⟨7, false, ⟨1, 9, 9, 9⟩⟩ : Ver).dead)), (Value.int .i64 ((⟨7, false, ⟨1, 9, 9, 9⟩⟩ : Ver).agg.count)), (Value.int .i64 ((⟨7, false, ⟨1, 9, 9, 9⟩⟩ : Ver).agg.sum)), (Value.int .i64 ((⟨7, false, ⟨1, 9, 9, 9⟩⟩ : Ver).agg.min)), (Value.int .i64 ((⟨7, false, ⟨1, 9, 9, 9⟩⟩ : Ver).agg.max))] 34) (fun b => .slice (some ⟨b, 0, none⟩) 3 3) M rfl (fun w => Step.make (by kernel_rfl)) (fun b4 w5 hb4 M => ?_)
  refine WL.callX rfl (ch_of (Value.slice (some ⟨b4, 0, none⟩) 3 3) ([(⟨2, false, ⟨1, 5, 5, 5⟩⟩ : Ver), (⟨4, true, aggZ⟩ : Ver), (⟨7, false, ⟨1, 9, 9, 9⟩⟩ : Ver)] : List Ver) (by first | omega | assumption | decide | (simp only [List.length_nil, List.length_cons, List.length_take, List.length_drop]; omega)) (show (chainB ([(⟨2, false, ⟨1, 5, 5, 5⟩⟩ : Ver), (⟨4, true, aggZ⟩ : Ver), (⟨7, false, ⟨1, 9, 9, 9⟩⟩ : Ver)] : List Ver)) = true by rfl) (M.enterW0 ⟨((M.wideC0 0 rfl).imp fun _ h => SlAt.of_blk (n := 3) (size := 6) h rfl (by decide)), trivial⟩)) (CallsF.func Try.en17 rfl) ?_
  rintro _ w8 ⟨cb6, v7, rfl, m⟩
  replace M := M.leaveW0 m
  clear m
  replace M : Mem _ _ _ [blk cb6 (.cells #[v7] 135), own 34 6 v7 (([(⟨2, false, ⟨1, 5, 5, 5⟩⟩ : Ver), (⟨4, true, aggZ⟩ : Ver), (⟨7, false, ⟨1, 9, 9, 9⟩⟩ : Ver)] : List Ver).length) (([(⟨2, false, ⟨1, 5, 5, 5⟩⟩ : Ver), (⟨4, true, aggZ⟩ : Ver), (⟨7, false, ⟨1, 9, 9, 9⟩⟩ : Ver)] : List Ver).flatMap verE), blk b4 (.cells #[(Value.int .u64 ((⟨2, false, ⟨1, 5, 5, 5⟩⟩ : Ver).epoch)), (Value.bool ((⟨2, false, ⟨1, 5, 5, 5⟩⟩ : Ver).dead)), (Value.int .i64 ((⟨2, false, ⟨1, 5, 5, 5⟩⟩ : Ver).agg.count)), (Value.int .i64 ((⟨2, false, ⟨1, 5, 5, 5⟩⟩ : Ver).agg.sum)), (Value.int .i64 ((⟨2, false, ⟨1, 5, 5, 5⟩⟩ : Ver).agg.min)), (Value.int .i64 ((⟨2, false, ⟨1, 5, 5, 5⟩⟩ : Ver).agg.max)), (Value.int .u64 ((⟨4, true, aggZ⟩ : Ver).epoch)), (Value.bool ((⟨4, true, aggZ⟩ : Ver).dead)), (Value.int .i64 ((⟨4, true, aggZ⟩ : Ver).agg.count)), (Value.int .i64 ((⟨4, true, aggZ⟩ : Ver).agg.sum)), (Value.int .i64 ((⟨4, true, aggZ⟩ : Ver).agg.min)), (Value.int .i64 ((⟨4, true, aggZ⟩ : Ver).agg.max)), (Value.int .u64 ((⟨7, false, ⟨1, 9, 9, 9⟩⟩ : Ver).epoch)), (Value.bool ((⟨7, false, ⟨1, 9, 9, 9⟩⟩ : Ver).dead)), (Value.int .i64 ((⟨7, false, ⟨1, 9, 9, 9⟩⟩ : Ver).agg.count)), (Value.int .i64 ((⟨7, false, ⟨1, 9, 9, 9⟩⟩ : Ver).agg.sum)), (Value.int .i64 ((⟨7, false, ⟨1, 9, 9, 9⟩⟩ : Ver).agg.min)), (Value.int .i64 ((⟨7, false, ⟨1, 9, 9, 9⟩⟩ : Ver).agg.max))] 34)] [] _ := M
  have sl9 : IsSl v7 := SlAt.isSl (own_slAt (Mem.chunk M 1 rfl).inv)
  have hle10 := SlAt.le' (own_slAt (Mem.chunk M 1 rfl).inv)
  refine WL.step (v := (Value.tuple #[(Value.pointer (some ⟨cb6, 0, none⟩)), (Value.int .i64 0)])) rfl (Step.move rfl) ?_
  refine WL.step (v := (Value.pointer (some ⟨cb6, 0, none⟩))) rfl (Step.pure (by kernel_rfl)) ?_
  refine WL.step (v := (Value.int .i64 0)) rfl (Step.pure (by kernel_rfl)) ?_
  refine WL.step (v := (Value.pointer (some ⟨cb6, 0, none⟩))) rfl (Step.assign rfl) ?_
  refine WL.step (v := (Value.int .i64 0)) rfl (Step.assign rfl) ?_
  refine WL.nil ?_
  refine W.seq' ?_
  refine W.region rfl ?_
  refine WL.step (v := (Value.pointer (some ⟨cb6, 0, none⟩))) rfl (Step.move rfl) ?_
  refine WL.step (v := (Value.pointer (some ⟨cb6, 0, none⟩))) rfl (Step.assign rfl) ?_
  refine WL.nil ?_
  refine W.ret ?_
  refine ⟨.inl rfl, (Value.pointer (some ⟨cb6, 0, none⟩)), ?_, ?_⟩
  · exact ⟨rfl, (Res.r1 (show RV _ _ _ (.tmp 0) (Value.pointer (some ⟨cb6, 0, none⟩)) from by exact rfl))⟩
  have e11 : exL = ([(⟨2, false, ⟨1, 5, 5, 5⟩⟩ : Ver), (⟨4, true, aggZ⟩ : Ver), (⟨7, false, ⟨1, 9, 9, 9⟩⟩ : Ver)] : List Ver) := by
    rfl
  replace M := M.rechunk 1 (c' := own 34 6 v7 exL.length (exL.flatMap verE)) rfl (congrArg (fun z => own 34 6 v7 z.length (z.flatMap verE)) e11.symm)
  replace M : Mem _ _ _ [blk cb6 (.cells #[v7] 135), own 34 6 v7 exL.length (exL.flatMap verE), blk b4 (.cells #[(Value.int .u64 ((⟨2, false, ⟨1, 5, 5, 5⟩⟩ : Ver).epoch)), (Value.bool ((⟨2, false, ⟨1, 5, 5, 5⟩⟩ : Ver).dead)), (Value.int .i64 ((⟨2, false, ⟨1, 5, 5, 5⟩⟩ : Ver).agg.count)), (Value.int .i64 ((⟨2, false, ⟨1, 5, 5, 5⟩⟩ : Ver).agg.sum)), (Value.int .i64 ((⟨2, false, ⟨1, 5, 5, 5⟩⟩ : Ver).agg.min)), (Value.int .i64 ((⟨2, false, ⟨1, 5, 5, 5⟩⟩ : Ver).agg.max)), (Value.int .u64 ((⟨4, true, aggZ⟩ : Ver).epoch)), (Value.bool ((⟨4, true, aggZ⟩ : Ver).dead)), (Value.int .i64 ((⟨4, true, aggZ⟩ : Ver).agg.count)), (Value.int .i64 ((⟨4, true, aggZ⟩ : Ver).agg.sum)), (Value.int .i64 ((⟨4, true, aggZ⟩ : Ver).agg.min)), (Value.int .i64 ((⟨4, true, aggZ⟩ : Ver).agg.max)), (Value.int .u64 ((⟨7, false, ⟨1, 9, 9, 9⟩⟩ : Ver).epoch)), (Value.bool ((⟨7, false, ⟨1, 9, 9, 9⟩⟩ : Ver).dead)), (Value.int .i64 ((⟨7, false, ⟨1, 9, 9, 9⟩⟩ : Ver).agg.count)), (Value.int .i64 ((⟨7, false, ⟨1, 9, 9, 9⟩⟩ : Ver).agg.sum)), (Value.int .i64 ((⟨7, false, ⟨1, 9, 9, 9⟩⟩ : Ver).agg.min)), (Value.int .i64 ((⟨7, false, ⟨1, 9, 9, 9⟩⟩ : Ver).agg.max))] 34)] [] _ := M
  refine ⟨cb6, v7, ?_, M.close [0, 1] rfl (by decide) trivial⟩
  rfl

theorem law_works {G : Nat → Prop} {w : World}    (M : Mem G (fun _ => False) w [] [] w) : Rets Try.prog 16 #[] w fun r w' => r = (Value.bool true) ∧ Mem G (fun _ => False) w [] [] w' := by
  refine Rets.enter 82 _ Try.func16 rfl Try.ntmps16 Try.results16 (by simp) ?_
  refine W.seq' ?_
  refine W.region rfl ?_
  refine WL.step (v := (Value.bool false)) rfl (Step.assign rfl) ?_
  refine WL.nil ?_
  refine W.seq' ?_
  refine W.region rfl ?_
  refine WL.callX rfl (law_example  (M.enterW0 trivial)) (CallsF.func Try.en79 rfl) ?_
  rintro _ w3 ⟨cb1, v2, rfl, m⟩
  replace M := M.leaveW0 m
  clear m
  replace M : Mem _ _ _ [blk cb1 (.cells #[v2] 135), own 34 6 v2 exL.length (exL.flatMap verE)] [] _ := M
  have sl4 : IsSl v2 := SlAt.isSl (own_slAt (Mem.chunk M 1 rfl).inv)
  have hle5 := SlAt.le' (own_slAt (Mem.chunk M 1 rfl).inv)
  refine WL.step (v := (Value.pointer (some ⟨cb1, 0, none⟩))) rfl (Step.assign rfl) ?_
  refine WL.nil ?_
  refine W.seq' ?_
  refine W.region rfl ?_
  refine WL.step (v := (Value.pointer (some ⟨cb1, 0, none⟩))) rfl (Step.move rfl) ?_
  refine WL.callX rfl (ch_at cb1 v2 exL 1 (M.enterW0 ⟨(M.wideC0 0 rfl), ((M.wideC0 1 rfl).imp fun _ h => own_slAt h), trivial⟩)) (CallsF.func Try.en21 rfl) ?_
  rintro _ w6 ⟨rfl, m⟩
  replace M := M.leaveW0 m
  clear m
  replace M : Mem _ _ _ [blk cb1 (.cells #[v2] 135), own 34 6 v2 exL.length (exL.flatMap verE)] [] _ := M
  refine WL.step (v := (Value.tuple #[(Value.agg #[(Value.int .i64 ((atV exL 1).count)), (Value.int .i64 ((atV exL 1).sum)), (Value.int .i64 ((atV exL 1).min)), (Value.int .i64 ((atV exL 1).max))]), (Value.bool (!decide (atV exL 1 = aggZ)))])) rfl (Step.move rfl) ?_
  refine WL.step (v := (Value.agg #[(Value.int .i64 ((atV exL 1).count)), (Value.int .i64 ((atV exL 1).sum)), (Value.int .i64 ((atV exL 1).min)), (Value.int .i64 ((atV exL 1).max))])) rfl (Step.pure (by kernel_rfl)) ?_
  refine WL.step (v := (Value.bool false)) rfl (Step.cast (congrArg Value.bool (show (!decide (atV exL 1 = aggZ)) = false by rfl)) (Step.pure (by kernel_rfl))) ?_
  refine WL.alloc (c := #[(Value.int .i64 0), (Value.int .i64 0), (Value.int .i64 0), (Value.int .i64 0)]) M rfl Try.el32.zero rfl (fun b7 w8 hb7 M => ?_)
  refine WL.store (v := (Value.agg #[(Value.int .i64 ((atV exL 1).count)), (Value.int .i64 ((atV exL 1).sum)), (Value.int .i64 ((atV exL 1).min)), (Value.int .i64 ((atV exL 1).max))])) (cs := [(Value.int .i64 ((atV exL 1).count)), (Value.int .i64 ((atV exL 1).sum)), (Value.int .i64 ((atV exL 1).min)), (Value.int .i64 ((atV exL 1).max))]) (c' := #[(Value.int .i64 ((atV exL 1).count)), (Value.int .i64 ((atV exL 1).sum)), (Value.int .i64 ((atV exL 1).min)), (Value.int .i64 ((atV exL 1).max))]) M 0 rfl rfl Try.el32.sized rfl rfl rfl rfl (Nat.le_of_ble_eq_true rfl) (cel_cons rfl (cel_cons rfl (cel_cons rfl (cel_cons rfl cel_nil)))) rfl rfl (fun w9 M => ?_)
  refine WL.step (v := (Value.bool false)) rfl (Step.assign rfl) ?_
  refine WL.nil ?_
  refine W.seq' ?_
  refine W.region rfl ?_
  refine WL.step (v := (Value.pointer (some ⟨cb1, 0, none⟩))) rfl (Step.move rfl) ?_
  refine WL.callX rfl (ch_at cb1 v2 exL 3 (M.enterW0 ⟨(M.wideC0 1 rfl), ((M.wideC0 2 rfl).imp fun _ h => own_slAt h), trivial⟩)) (CallsF.func Try.en21 rfl) ?_
  rintro _ w10 ⟨rfl, m⟩
  replace M := M.leaveW0 m
  clear m
  replace M : Mem _ _ _ [blk b7 (.cells #[(Value.int .i64 ((atV exL 1).count)), (Value.int .i64 ((atV exL 1).sum)), (Value.int .i64 ((atV exL 1).min)), (Value.int .i64 ((atV exL 1).max))] 32), blk cb1 (.cells #[v2] 135), own 34 6 v2 exL.length (exL.flatMap verE)] [] _ := M
  refine WL.step (v := (Value.tuple #[(Value.agg #[(Value.int .i64 ((atV exL 3).count)), (Value.int .i64 ((atV exL 3).sum)), (Value.int .i64 ((atV exL 3).min)), (Value.int .i64 ((atV exL 3).max))]), (Value.bool (!decide (atV exL 3 = aggZ)))])) rfl (Step.move rfl) ?_
  refine WL.step (v := (Value.agg #[(Value.int .i64 ((atV exL 3).count)), (Value.int .i64 ((atV exL 3).sum)), (Value.int .i64 ((atV exL 3).min)), (Value.int .i64 ((atV exL 3).max))])) rfl (Step.pure (by kernel_rfl)) ?_
  refine WL.step (v := (Value.bool true)) rfl (Step.cast (congrArg Value.bool (show (!decide (atV exL 3 = aggZ)) = true by rfl)) (Step.pure (by kernel_rfl))) ?_
  refine WL.alloc (c := #[(Value.int .i64 0), (Value.int .i64 0), (Value.int .i64 0), (Value.int .i64 0)]) M rfl Try.el32.zero rfl (fun b11 w12 hb11 M => ?_)
  refine WL.store (v := (Value.agg #[(Value.int .i64 ((atV exL 3).count)), (Value.int .i64 ((atV exL 3).sum)), (Value.int .i64 ((atV exL 3).min)), (Value.int .i64 ((atV exL 3).max))])) (cs := [(Value.int .i64 ((atV exL 3).count)), (Value.int .i64 ((atV exL 3).sum)), (Value.int .i64 ((atV exL 3).min)), (Value.int .i64 ((atV exL 3).max))]) (c' := #[(Value.int .i64 ((atV exL 3).count)), (Value.int .i64 ((atV exL 3).sum)), (Value.int .i64 ((atV exL 3).min)), (Value.int .i64 ((atV exL 3).max))]) M 0 rfl rfl Try.el32.sized rfl rfl rfl rfl (Nat.le_of_ble_eq_true rfl) (cel_cons rfl (cel_cons rfl (cel_cons rfl (cel_cons rfl cel_nil)))) rfl rfl (fun w13 M => ?_)
  refine WL.step (v := (Value.bool true)) rfl (Step.assign rfl) ?_
  refine WL.nil ?_
  refine W.seq' ?_
  refine W.region rfl ?_
  refine WL.step (v := (Value.pointer (some ⟨cb1, 0, none⟩))) rfl (Step.move rfl) ?_
  refine WL.callX rfl (ch_at cb1 v2 exL 6 (M.enterW0 ⟨(M.wideC0 2 rfl), ((M.wideC0 3 rfl).imp fun _ h => own_slAt h), trivial⟩)) (CallsF.func Try.en21 rfl) ?_
  rintro _ w14 ⟨rfl, m⟩
  replace M := M.leaveW0 m
  clear m
  replace M : Mem _ _ _ [blk b11 (.cells #[(Value.int .i64 ((atV exL 3).count)), (Value.int .i64 ((atV exL 3).sum)), (Value.int .i64 ((atV exL 3).min)), (Value.int .i64 ((atV exL 3).max))] 32), blk b7 (.cells #[(Value.int .i64 ((atV exL 1).count)), (Value.int .i64 ((atV exL 1).sum)), (Value.int .i64 ((atV exL 1).min)), (Value.int .i64 ((atV exL 1).max))] 32), blk cb1 (.cells #[v2] 135), own 34 6 v2 exL.length (exL.flatMap verE)] [] _ := M
  refine WL.step (v := (Value.tuple #[(Value.agg #[(Value.int .i64 ((atV exL 6).count)), (Value.int .i64 ((atV exL 6).sum)), (Value.int .i64 ((atV exL 6).min)), (Value.int .i64 ((atV exL 6).max))]), (Value.bool (!decide (atV exL 6 = aggZ)))])) rfl (Step.move rfl) ?_
  refine WL.step (v := (Value.agg #[(Value.int .i64 ((atV exL 6).count)), (Value.int .i64 ((atV exL 6).sum)), (Value.int .i64 ((atV exL 6).min)), (Value.int .i64 ((atV exL 6).max))])) rfl (Step.pure (by kernel_rfl)) ?_
  refine WL.step (v := (Value.bool false)) rfl (Step.cast (congrArg Value.bool (show (!decide (atV exL 6 = aggZ)) = false by rfl)) (Step.pure (by kernel_rfl))) ?_
  refine WL.alloc (c := #[(Value.int .i64 0), (Value.int .i64 0), (Value.int .i64 0), (Value.int .i64 0)]) M rfl Try.el32.zero rfl (fun b15 w16 hb15 M => ?_)
  refine WL.store (v := (Value.agg #[(Value.int .i64 ((atV exL 6).count)), (Value.int .i64 ((atV exL 6).sum)), (Value.int .i64 ((atV exL 6).min)), (Value.int .i64 ((atV exL 6).max))])) (cs := [(Value.int .i64 ((atV exL 6).count)), (Value.int .i64 ((atV exL 6).sum)), (Value.int .i64 ((atV exL 6).min)), (Value.int .i64 ((atV exL 6).max))]) (c' := #[(Value.int .i64 ((atV exL 6).count)), (Value.int .i64 ((atV exL 6).sum)), (Value.int .i64 ((atV exL 6).min)), (Value.int .i64 ((atV exL 6).max))]) M 0 rfl rfl Try.el32.sized rfl rfl rfl rfl (Nat.le_of_ble_eq_true rfl) (cel_cons rfl (cel_cons rfl (cel_cons rfl (cel_cons rfl cel_nil)))) rfl rfl (fun w17 M => ?_)
  refine WL.step (v := (Value.bool false)) rfl (Step.assign rfl) ?_
  refine WL.nil ?_
  refine W.seq' ?_
  refine W.region rfl ?_
  refine WL.step (v := (Value.pointer (some ⟨cb1, 0, none⟩))) rfl (Step.move rfl) ?_
  refine WL.callX rfl (ch_at cb1 v2 exL 7 (M.enterW0 ⟨(M.wideC0 3 rfl), ((M.wideC0 4 rfl).imp fun _ h => own_slAt h), trivial⟩)) (CallsF.func Try.en21 rfl) ?_
  rintro _ w18 ⟨rfl, m⟩
  replace M := M.leaveW0 m
  clear m
  replace M : Mem _ _ _ [blk b15 (.cells #[(Value.int .i64 ((atV exL 6).count)), (Value.int .i64 ((atV exL 6).sum)), (Value.int .i64 ((atV exL 6).min)), (Value.int .i64 ((atV exL 6).max))] 32), blk b11 (.cells #[(Value.int .i64 ((atV exL 3).count)), (Value.int .i64 ((atV exL 3).sum)), (Value.int .i64 ((atV exL 3).min)), (Value.int .i64 ((atV exL 3).max))] 32), blk b7 (.cells #[(Value.int .i64 ((atV exL 1).count)), (Value.int .i64 ((atV exL 1).sum)), (Value.int .i64 ((atV exL 1).min)), (Value.int .i64 ((atV exL 1).max))] 32), blk cb1 (.cells #[v2] 135), own 34 6 v2 exL.length (exL.flatMap verE)] [] _ := M
  refine WL.step (v := (Value.tuple #[(Value.agg #[(Value.int .i64 ((atV exL 7).count)), (Value.int .i64 ((atV exL 7).sum)), (Value.int .i64 ((atV exL 7).min)), (Value.int .i64 ((atV exL 7).max))]), (Value.bool (!decide (atV exL 7 = aggZ)))])) rfl (Step.move rfl) ?_
  refine WL.step (v := (Value.agg #[(Value.int .i64 ((atV exL 7).count)), (Value.int .i64 ((atV exL 7).sum)), (Value.int .i64 ((atV exL 7).min)), (Value.int .i64 ((atV exL 7).max))])) rfl (Step.pure (by kernel_rfl)) ?_
  refine WL.step (v := (Value.bool true)) rfl (Step.cast (congrArg Value.bool (show (!decide (atV exL 7 = aggZ)) = true by rfl)) (Step.pure (by kernel_rfl))) ?_
  refine WL.alloc (c := #[(Value.int .i64 0), (Value.int .i64 0), (Value.int .i64 0), (Value.int .i64 0)]) M rfl Try.el32.zero rfl (fun b19 w20 hb19 M => ?_)
  refine WL.store (v := (Value.agg #[(Value.int .i64 ((atV exL 7).count)), (Value.int .i64 ((atV exL 7).sum)), (Value.int .i64 ((atV exL 7).min)), (Value.int .i64 ((atV exL 7).max))])) (cs := [(Value.int .i64 ((atV exL 7).count)), (Value.int .i64 ((atV exL 7).sum)), (Value.int .i64 ((atV exL 7).min)), (Value.int .i64 ((atV exL 7).max))]) (c' := #[(Value.int .i64 ((atV exL 7).count)), (Value.int .i64 ((atV exL 7).sum)), (Value.int .i64 ((atV exL 7).min)), (Value.int .i64 ((atV exL 7).max))]) M 0 rfl rfl Try.el32.sized rfl rfl rfl rfl (Nat.le_of_ble_eq_true rfl) (cel_cons rfl (cel_cons rfl (cel_cons rfl (cel_cons rfl cel_nil)))) rfl rfl (fun w21 M => ?_)
  refine WL.step (v := (Value.bool true)) rfl (Step.assign rfl) ?_
  refine WL.nil ?_
  refine W.seq' ?_
  refine W.seq' ?_
  refine W.region rfl ?_
  refine WL.step (v := (Value.bool false)) rfl (Step.move rfl) ?_
  refine WL.step (v := (Value.bool false)) rfl (Step.move rfl) ?_
  refine WL.step (v := (Value.bool true)) rfl (Step.move rfl) ?_
  refine WL.step (v := (Value.bool false)) rfl (Step.pure (by kernel_rfl)) ?_
  refine WL.step (v := (Value.bool false)) rfl (Step.pick (t := false) rfl rfl) ?_
  refine WL.step (v := (Value.bool false)) rfl (Step.move rfl) ?_
  refine WL.step (v := (Value.pointer (some ⟨b11, 1, none⟩))) rfl (Step.pure (by kernel_rfl)) ?_
  refine WL.step (v := (Value.int .i64 ((atV exL 3).sum))) rfl (Step.load1 Try.sc2 rfl ((M.cell 2 rfl 1).trans rfl)) ?_
  refine WL.step (v := (Value.bool false)) rfl (Step.cast (congrArg Value.bool (show (((atV exL 3).sum : Int) != (5 : Int)) = false by rfl)) (Step.pure (by kernel_rfl))) ?_
  refine WL.step (v := (Value.bool false)) rfl (Step.pick (t := false) rfl rfl) ?_
  refine WL.step (v := (Value.bool false)) rfl (Step.move rfl) ?_
  refine WL.step (v := (Value.bool false)) rfl (Step.move rfl) ?_
  refine WL.step (v := (Value.bool false)) rfl (Step.pick (t := false) rfl rfl) ?_
  refine WL.step (v := (Value.bool false)) rfl (Step.move rfl) ?_
  refine WL.step (v := (Value.bool true)) rfl (Step.move rfl) ?_
  refine WL.step (v := (Value.bool false)) rfl (Step.pure (by kernel_rfl)) ?_
  refine WL.step (v := (Value.bool false)) rfl (Step.pick (t := false) rfl rfl) ?_
  refine WL.step (v := (Value.bool false)) rfl (Step.move rfl) ?_
  refine WL.step (v := (Value.pointer (some ⟨b19, 1, none⟩))) rfl (Step.pure (by kernel_rfl)) ?_
  refine WL.step (v := (Value.int .i64 ((atV exL 7).sum))) rfl (Step.load1 Try.sc2 rfl ((M.cell 0 rfl 1).trans rfl)) ?_
  refine WL.step (v := (Value.bool false)) rfl (Step.cast (congrArg Value.bool (show (((atV exL 7).sum : Int) != (9 : Int)) = false by rfl)) (Step.pure (by kernel_rfl))) ?_
  refine WL.step (v := (Value.bool false)) rfl (Step.pick (t := false) rfl rfl) ?_
  refine WL.step (v := (Value.bool false)) rfl (Step.move rfl) ?_
  refine WL.step (v := (Value.pointer (some ⟨cb1, 0, none⟩))) rfl (Step.move rfl) ?_
  refine WL.callX rfl (ch_garb cb1 v2 exL 2 3 (M.enterW0 ⟨(M.wideC0 4 rfl), ((M.wideC0 5 rfl).imp fun _ h => own_slAt h), trivial⟩)) (CallsF.func Try.en18 rfl) ?_
  rintro _ w22 ⟨rfl, m⟩
  replace M := M.leaveW0 m
  clear m
  replace M : Mem _ _ _ [blk b19 (.cells #[(Value.int .i64 ((atV exL 7).count)), (Value.int .i64 ((atV exL 7).sum)), (Value.int .i64 ((atV exL 7).min)), (Value.int .i64 ((atV exL 7).max))] 32), blk b15 (.cells #[(Value.int .i64 ((atV exL 6).count)), (Value.int .i64 ((atV exL 6).sum)), (Value.int .i64 ((atV exL 6).min)), (Value.int .i64 ((atV exL 6).max))] 32), blk b11 (.cells #[(Value.int .i64 ((atV exL 3).count)), (Value.int .i64 ((atV exL 3).sum)), (Value.int .i64 ((atV exL 3).min)), (Value.int .i64 ((atV exL 3).max))] 32), blk b7 (.cells #[(Value.int .i64 ((atV exL 1).count)), (Value.int .i64 ((atV exL 1).sum)), (Value.int .i64 ((atV exL 1).min)), (Value.int .i64 ((atV exL 1).max))] 32), blk cb1 (.cells #[v2] 135), own 34 6 v2 exL.length (exL.flatMap verE)] [] _ := M
  rw [(show (garb exL 2 3) = false by rfl)]
  refine WL.step (v := (Value.bool false)) rfl (Step.pick (t := false) rfl rfl) ?_
  refine WL.step (v := (Value.bool false)) rfl (Step.move rfl) ?_
  refine WL.step (v := (Value.pointer (some ⟨cb1, 0, none⟩))) rfl (Step.move rfl) ?_
  refine WL.callX rfl (ch_garb cb1 v2 exL 2 4 (M.enterW0 ⟨(M.wideC0 4 rfl), ((M.wideC0 5 rfl).imp fun _ h => own_slAt h), trivial⟩)) (CallsF.func Try.en18 rfl) ?_
  rintro _ w23 ⟨rfl, m⟩
  replace M := M.leaveW0 m
  clear m
  replace M : Mem _ _ _ [blk b19 (.cells #[(Value.int .i64 ((atV exL 7).count)), (Value.int .i64 ((atV exL 7).sum)), (Value.int .i64 ((atV exL 7).min)), (Value.int .i64 ((atV exL 7).max))] 32), blk b15 (.cells #[(Value.int .i64 ((atV exL 6).count)), (Value.int .i64 ((atV exL 6).sum)), (Value.int .i64 ((atV exL 6).min)), (Value.int .i64 ((atV exL 6).max))] 32), blk b11 (.cells #[(Value.int .i64 ((atV exL 3).count)), (Value.int .i64 ((atV exL 3).sum)), (Value.int .i64 ((atV exL 3).min)), (Value.int .i64 ((atV exL 3).max))] 32), blk b7 (.cells #[(Value.int .i64 ((atV exL 1).count)), (Value.int .i64 ((atV exL 1).sum)), (Value.int .i64 ((atV exL 1).min)), (Value.int .i64 ((atV exL 1).max))] 32), blk cb1 (.cells #[v2] 135), own 34 6 v2 exL.length (exL.flatMap verE)] [] _ := M
  rw [(show (garb exL 2 4) = true by rfl)]
  refine WL.step (v := (Value.bool false)) rfl (Step.pure (by kernel_rfl)) ?_
  refine WL.step (v := (Value.bool false)) rfl (Step.pick (t := false) rfl rfl) ?_
  refine WL.step (v := (Value.bool false)) rfl (Step.move rfl) ?_
  refine WL.step (v := (Value.pointer (some ⟨cb1, 0, none⟩))) rfl (Step.move rfl) ?_
  refine WL.callX rfl (ch_garb cb1 v2 exL 4 6 (M.enterW0 ⟨(M.wideC0 4 rfl), ((M.wideC0 5 rfl).imp fun _ h => own_slAt h), trivial⟩)) (CallsF.func Try.en18 rfl) ?_
  rintro _ w24 ⟨rfl, m⟩
  replace M := M.leaveW0 m
  clear m
  replace M : Mem _ _ _ [blk b19 (.cells #[(Value.int .i64 ((atV exL 7).count)), (Value.int .i64 ((atV exL 7).sum)), (Value.int .i64 ((atV exL 7).min)), (Value.int .i64 ((atV exL 7).max))] 32), blk b15 (.cells #[(Value.int .i64 ((atV exL 6).count)), (Value.int .i64 ((atV exL 6).sum)), (Value.int .i64 ((atV exL 6).min)), (Value.int .i64 ((atV exL 6).max))] 32), blk b11 (.cells #[(Value.int .i64 ((atV exL 3).count)), (Value.int .i64 ((atV exL 3).sum)), (Value.int .i64 ((atV exL 3).min)), (Value.int .i64 ((atV exL 3).max))] 32), blk b7 (.cells #[(Value.int .i64 ((atV exL 1).count)), (Value.int .i64 ((atV exL 1).sum)), (Value.int .i64 ((atV exL 1).min)), (Value.int .i64 ((atV exL 1).max))] 32), blk cb1 (.cells #[v2] 135), own 34 6 v2 exL.length (exL.flatMap verE)] [] _ := M
  rw [(show (garb exL 4 6) = false by rfl)]
  refine WL.step (v := (Value.bool false)) rfl (Step.pick (t := false) rfl rfl) ?_
  refine WL.nil ?_
  refine W.cond (t := false) rfl (fun h => by cases h) (fun _ => ?_)
  refine W.skip ?_
  refine W.seq' ?_
  refine W.region rfl ?_
  refine WL.step (v := (Value.pointer (some ⟨cb1, 0, none⟩))) rfl (Step.move rfl) ?_
  refine WL.callX rfl (ch_drop cb1 v2 exL 2 4 (M.enterW (C := [blk cb1 (.cells #[v2] 135), own 34 6 v2 exL.length (exL.flatMap verE)]) (D := [blk b19 (.cells #[(Value.int .i64 ((atV exL 7).count)), (Value.int .i64 ((atV exL 7).sum)), (Value.int .i64 ((atV exL 7).min)), (Value.int .i64 ((atV exL 7).max))] 32), blk b15 (.cells #[(Value.int .i64 ((atV exL 6).count)), (Value.int .i64 ((atV exL 6).sum)), (Value.int .i64 ((atV exL 6).min)), (Value.int .i64 ((atV exL 6).max))] 32), blk b11 (.cells #[(Value.int .i64 ((atV exL 3).count)), (Value.int .i64 ((atV exL 3).sum)), (Value.int .i64 ((atV exL 3).min)), (Value.int .i64 ((atV exL 3).max))] 32), blk b7 (.cells #[(Value.int .i64 ((atV exL 1).count)), (Value.int .i64 ((atV exL 1).sum)), (Value.int .i64 ((atV exL 1).min)), (Value.int .i64 ((atV exL 1).max))] 32)]) [4, 5, 0, 1, 2, 3] rfl (by decide) trivial)) (CallsF.func Try.en35 rfl) ?_
  rintro _ w26 ⟨v25, rfl, m⟩
  replace M := M.leaveW (C := [blk cb1 (.cells #[v2] 135), own 34 6 v2 exL.length (exL.flatMap verE)]) (D := [blk b19 (.cells #[(Value.int .i64 ((atV exL 7).count)), (Value.int .i64 ((atV exL 7).sum)), (Value.int .i64 ((atV exL 7).min)), (Value.int .i64 ((atV exL 7).max))] 32), blk b15 (.cells #[(Value.int .i64 ((atV exL 6).count)), (Value.int .i64 ((atV exL 6).sum)), (Value.int .i64 ((atV exL 6).min)), (Value.int .i64 ((atV exL 6).max))] 32), blk b11 (.cells #[(Value.int .i64 ((atV exL 3).count)), (Value.int .i64 ((atV exL 3).sum)), (Value.int .i64 ((atV exL 3).min)), (Value.int .i64 ((atV exL 3).max))] 32), blk b7 (.cells #[(Value.int .i64 ((atV exL 1).count)), (Value.int .i64 ((atV exL 1).sum)), (Value.int .i64 ((atV exL 1).min)), (Value.int .i64 ((atV exL 1).max))] 32)]) [4, 5, 0, 1, 2, 3] rfl (by decide) m
  clear m
  replace M : Mem _ _ _ [blk cb1 (.cells #[v25] 135), own 34 6 v25 (((dropV exL 2 4).1).length) (((dropV exL 2 4).1).flatMap verE), blk b19 (.cells #[(Value.int .i64 ((atV exL 7).count)), (Value.int .i64 ((atV exL 7).sum)), (Value.int .i64 ((atV exL 7).min)), (Value.int .i64 ((atV exL 7).max))] 32), blk b15 (.cells #[(Value.int .i64 ((atV exL 6).count)), (Value.int .i64 ((atV exL 6).sum)), (Value.int .i64 ((atV exL 6).min)), (Value.int .i64 ((atV exL 6).max))] 32), blk b11 (.cells #[(Value.int .i64 ((atV exL 3).count)), (Value.int .i64 ((atV exL 3).sum)), (Value.int .i64 ((atV exL 3).min)), (Value.int .i64 ((atV exL 3).max))] 32), blk b7 (.cells #[(Value.int .i64 ((atV exL 1).count)), (Value.int .i64 ((atV exL 1).sum)), (Value.int .i64 ((atV exL 1).min)), (Value.int .i64 ((atV exL 1).max))] 32)] [] _ := M
  have sl27 : IsSl v25 := SlAt.isSl (own_slAt (Mem.chunk M 1 rfl).inv)
  have hle28 := SlAt.le' (own_slAt (Mem.chunk M 1 rfl).inv)
  rw [(show ((dropV exL 2 4).2) = true by rfl)]
  refine WL.step (v := (Value.bool true)) rfl (Step.move rfl) ?_
  refine WL.step (v := (Value.pointer (some ⟨cb1, 0, none⟩))) rfl (Step.move rfl) ?_
  refine WL.callX rfl (ch_garb cb1 v25 ((dropV exL 2 4).1) 4 6 (M.enterW0 ⟨(M.wideC0 0 rfl), ((M.wideC0 1 rfl).imp fun _ h => own_slAt h), trivial⟩)) (CallsF.func Try.en18 rfl) ?_
  rintro _ w29 ⟨rfl, m⟩
  replace M := M.leaveW0 m
  clear m
  replace M : Mem _ _ _ [blk cb1 (.cells #[v25] 135), own 34 6 v25 (((dropV exL 2 4).1).length) (((dropV exL 2 4).1).flatMap verE), blk b19 (.cells #[(Value.int .i64 ((atV exL 7).count)), (Value.int .i64 ((atV exL 7).sum)), (Value.int .i64 ((atV exL 7).min)), (Value.int .i64 ((atV exL 7).max))] 32), blk b15 (.cells #[(Value.int .i64 ((atV exL 6).count)), (Value.int .i64 ((atV exL 6).sum)), (Value.int .i64 ((atV exL 6).min)), (Value.int .i64 ((atV exL 6).max))] 32), blk b11 (.cells #[(Value.int .i64 ((atV exL 3).count)), (Value.int .i64 ((atV exL 3).sum)), (Value.int .i64 ((atV exL 3).min)), (Value.int .i64 ((atV exL 3).max))] 32), blk b7 (.cells #[(Value.int .i64 ((atV exL 1).count)), (Value.int .i64 ((atV exL 1).sum)), (Value.int .i64 ((atV exL 1).min)), (Value.int .i64 ((atV exL 1).max))] 32)] [] _ := M
  rw [(show (garb ((dropV exL 2 4).1) 4 6) = true by rfl)]
  refine WL.step (v := (Value.bool true)) rfl (Step.pick (t := true) rfl rfl) ?_
  refine WL.step (v := (Value.bool true)) rfl (Step.move rfl) ?_
  refine WL.step (v := (Value.pointer (some ⟨cb1, 0, none⟩))) rfl (Step.move rfl) ?_
  refine WL.callX rfl (ch_len cb1 v25 ((dropV exL 2 4).1) (by first | omega | assumption | decide | (simp only [List.length_nil, List.length_cons, List.length_take, List.length_drop]; omega)) (M.enterW0 ⟨(M.wideC0 0 rfl), ((M.wideC0 1 rfl).imp fun _ h => own_slAt h), trivial⟩)) (CallsF.func Try.en32 rfl) ?_
  rintro _ w30 ⟨rfl, m⟩
  replace M := M.leaveW0 m
  clear m
  replace M : Mem _ _ _ [blk cb1 (.cells #[v25] 135), own 34 6 v25 (((dropV exL 2 4).1).length) (((dropV exL 2 4).1).flatMap verE), blk b19 (.cells #[(Value.int .i64 ((atV exL 7).count)), (Value.int .i64 ((atV exL 7).sum)), (Value.int .i64 ((atV exL 7).min)), (Value.int .i64 ((atV exL 7).max))] 32), blk b15 (.cells #[(Value.int .i64 ((atV exL 6).count)), (Value.int .i64 ((atV exL 6).sum)), (Value.int .i64 ((atV exL 6).min)), (Value.int .i64 ((atV exL 6).max))] 32), blk b11 (.cells #[(Value.int .i64 ((atV exL 3).count)), (Value.int .i64 ((atV exL 3).sum)), (Value.int .i64 ((atV exL 3).min)), (Value.int .i64 ((atV exL 3).max))] 32), blk b7 (.cells #[(Value.int .i64 ((atV exL 1).count)), (Value.int .i64 ((atV exL 1).sum)), (Value.int .i64 ((atV exL 1).min)), (Value.int .i64 ((atV exL 1).max))] 32)] [] _ := M
  refine WL.step (v := (Value.bool true)) rfl (Step.cast (congrArg Value.bool (show ((↑((dropV exL 2 4).1).length : Int) == (2 : Int)) = true by rfl)) (Step.pure (by kernel_rfl))) ?_
  refine WL.step (v := (Value.bool true)) rfl (Step.pick (t := true) rfl rfl) ?_
  refine WL.step (v := (Value.bool true)) rfl (Step.move rfl) ?_
  refine WL.callX rfl (law_example  (M.enterW0 trivial)) (CallsF.func Try.en79 rfl) ?_
  rintro _ w33 ⟨cb31, v32, rfl, m⟩
  replace M := M.leaveW0 m
  clear m
  replace M : Mem _ _ _ [blk cb31 (.cells #[v32] 135), own 34 6 v32 exL.length (exL.flatMap verE), blk cb1 (.cells #[v25] 135), own 34 6 v25 (((dropV exL 2 4).1).length) (((dropV exL 2 4).1).flatMap verE), blk b19 (.cells #[(Value.int .i64 ((atV exL 7).count)), (Value.int .i64 ((atV exL 7).sum)), (Value.int .i64 ((atV exL 7).min)), (Value.int .i64 ((atV exL 7).max))] 32), blk b15 (.cells #[(Value.int .i64 ((atV exL 6).count)), (Value.int .i64 ((atV exL 6).sum)), (Value.int .i64 ((atV exL 6).min)), (Value.int .i64 ((atV exL 6).max))] 32), blk b11 (.cells #[(Value.int .i64 ((atV exL 3).count)), (Value.int .i64 ((atV exL 3).sum)), (Value.int .i64 ((atV exL 3).min)), (Value.int .i64 ((atV exL 3).max))] 32), blk b7 (.cells #[(Value.int .i64 ((atV exL 1).count)), (Value.int .i64 ((atV exL 1).sum)), (Value.int .i64 ((atV exL 1).min)), (Value.int .i64 ((atV exL 1).max))] 32)] [] _ := M
  have sl34 : IsSl v32 := SlAt.isSl (own_slAt (Mem.chunk M 1 rfl).inv)
  have hle35 := SlAt.le' (own_slAt (Mem.chunk M 1 rfl).inv)
  refine WL.callX rfl (ch_trim cb31 v32 exL 7 (by first | omega | assumption | decide | (simp only [List.length_nil, List.length_cons, List.length_take, List.length_drop]; omega)) (M.enterW (C := [blk cb31 (.cells #[v32] 135), own 34 6 v32 exL.length (exL.flatMap verE)]) (D := [blk cb1 (.cells #[v25] 135), own 34 6 v25 (((dropV exL 2 4).1).length) (((dropV exL 2 4).1).flatMap verE), blk b19 (.cells #[(Value.int .i64 ((atV exL 7).count)), (Value.int .i64 ((atV exL 7).sum)), (Value.int .i64 ((atV exL 7).min)), (Value.int .i64 ((atV exL 7).max))] 32), blk b15 (.cells #[(Value.int .i64 ((atV exL 6).count)), (Value.int .i64 ((atV exL 6).sum)), (Value.int .i64 ((atV exL 6).min)), (Value.int .i64 ((atV exL 6).max))] 32), blk b11 (.cells #[(Value.int .i64 ((atV exL 3).count)), (Value.int .i64 ((atV exL 3).sum)), (Value.int .i64 ((atV exL 3).min)), (Value.int .i64 ((atV exL 3).max))] 32), blk b7 (.cells #[(Value.int .i64 ((atV exL 1).count)), (Value.int .i64 ((atV exL 1).sum)), (Value.int .i64 ((atV exL 1).min)), (Value.int .i64 ((atV exL 1).max))] 32)]) [0, 1, 2, 3, 4, 5, 6, 7] rfl (by decide) trivial)) (CallsF.func Try.en19 rfl) ?_
  rintro _ w37 ⟨v36, rfl, m⟩
  replace M := M.leaveW (C := [blk cb31 (.cells #[v32] 135), own 34 6 v32 exL.length (exL.flatMap verE)]) (D := [blk cb1 (.cells #[v25] 135), own 34 6 v25 (((dropV exL 2 4).1).length) (((dropV exL 2 4).1).flatMap verE), blk b19 (.cells #[(Value.int .i64 ((atV exL 7).count)), (Value.int .i64 ((atV exL 7).sum)), (Value.int .i64 ((atV exL 7).min)), (Value.int .i64 ((atV exL 7).max))] 32), blk b15 (.cells #[(Value.int .i64 ((atV exL 6).count)), (Value.int .i64 ((atV exL 6).sum)), (Value.int .i64 ((atV exL 6).min)), (Value.int .i64 ((atV exL 6).max))] 32), blk b11 (.cells #[(Value.int .i64 ((atV exL 3).count)), (Value.int .i64 ((atV exL 3).sum)), (Value.int .i64 ((atV exL 3).min)), (Value.int .i64 ((atV exL 3).max))] 32), blk b7 (.cells #[(Value.int .i64 ((atV exL 1).count)), (Value.int .i64 ((atV exL 1).sum)), (Value.int .i64 ((atV exL 1).min)), (Value.int .i64 ((atV exL 1).max))] 32)]) [0, 1, 2, 3, 4, 5, 6, 7] rfl (by decide) m
  clear m
  replace M : Mem _ _ _ [blk cb31 (.cells #[v36] 135), own 34 6 v36 (((trimV exL 7).1).length) (((trimV exL 7).1).flatMap verE), blk cb1 (.cells #[v25] 135), own 34 6 v25 (((dropV exL 2 4).1).length) (((dropV exL 2 4).1).flatMap verE), blk b19 (.cells #[(Value.int .i64 ((atV exL 7).count)), (Value.int .i64 ((atV exL 7).sum)), (Value.int .i64 ((atV exL 7).min)), (Value.int .i64 ((atV exL 7).max))] 32), blk b15 (.cells #[(Value.int .i64 ((atV exL 6).count)), (Value.int .i64 ((atV exL 6).sum)), (Value.int .i64 ((atV exL 6).min)), (Value.int .i64 ((atV exL 6).max))] 32), blk b11 (.cells #[(Value.int .i64 ((atV exL 3).count)), (Value.int .i64 ((atV exL 3).sum)), (Value.int .i64 ((atV exL 3).min)), (Value.int .i64 ((atV exL 3).max))] 32), blk b7 (.cells #[(Value.int .i64 ((atV exL 1).count)), (Value.int .i64 ((atV exL 1).sum)), (Value.int .i64 ((atV exL 1).min)), (Value.int .i64 ((atV exL 1).max))] 32)] [] _ := M
  have sl38 : IsSl v36 := SlAt.isSl (own_slAt (Mem.chunk M 1 rfl).inv)
  have hle39 := SlAt.le' (own_slAt (Mem.chunk M 1 rfl).inv)
  refine WL.step (v := (Value.bool true)) rfl (Step.cast (congrArg Value.bool (show ((↑(trimV exL 7).2 : Int) == (2 : Int)) = true by rfl)) (Step.pure (by kernel_rfl))) ?_
  refine WL.step (v := (Value.bool true)) rfl (Step.pick (t := true) rfl rfl) ?_
  refine WL.step (v := (Value.bool true)) rfl (Step.assign rfl) ?_
  refine WL.nil ?_
  refine W.ret ?_
  refine ⟨.inl rfl, (Value.bool true), ?_, ?_⟩
  · exact ⟨rfl, (Res.r1 (show RV _ _ _ (.tmp 0) (Value.bool true) from by exact rfl))⟩
  refine ⟨?_, M.close [] rfl (by decide) trivial⟩
  rfl
end Go.Proofs
