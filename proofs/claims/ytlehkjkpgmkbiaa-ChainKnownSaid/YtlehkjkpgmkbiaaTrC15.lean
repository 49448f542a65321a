/- Walks. -/
import Derived.Test.YtlehkjkpgmkbiaaTrC14
import Derived.Test.YtlehkjkpgmkbiaaTrChain2
set_option maxRecDepth 100000
set_option linter.all false
namespace Go.Proofs
open Go Tp
theorem Try.un37 : Und Try.prog 37 (.slice 23) := by unfold Und; kernel_rfl
theorem Try.el23 : Elem Try.prog 23 (Value.int .u64 0) 1 8 := Elem.mk (by kernel_rfl)

set_option maxHeartbeats 4000000 in
theorem law_keeps {G : Nat → Prop} {w : World} (v : Value) (l : List Ver) (floor : Int) (more : Int) (at_ : Int)  (hu : (0 ≤ floor ∧ floor < 18446744073709551616) ∧ (0 ≤ more ∧ more < 18446744073709551616) ∧ (0 ≤ at_ ∧ at_ < 18446744073709551616)) (hwf : ∀ x ∈ l, 0 ≤ x.epoch ∧ x.epoch < 18446744073709551616) (M : Mem G (fun _ => False) w [] [SlAt 6 v l.length (l.flatMap verE)] w) : Rets Try.prog 3 #[v, (Value.int .u64 floor), (Value.int .u64 more), (Value.int .u64 at_)] w fun r w' => r = (Value.bool true) ∧ Mem G (fun _ => False) w [] [] w' := by
  refine Rets.enter 194 _ Try.func3 rfl Try.ntmps3 Try.results3 (by simp) ?_
  have hle1 := SlAt.le' (M.rep 0 rfl)
  have sl2 : IsSl v := SlAt.isSl (Mem.rep M 0 rfl)
  refine W.seq' ?_
  refine W.region rfl ?_
  refine WL.step (v := (Value.bool false)) rfl (Step.assign rfl) ?_
  refine WL.nil ?_
  refine W.seq' ?_
  refine W.seq' ?_
  refine W.region rfl ?_
  refine WL.step (v := v) rfl (Step.move rfl) ?_
  refine WL.step (v := (Value.int .i64 ↑l.length)) rfl (Step.lenSl Try.un22 rfl (M.rep 0 rfl)) ?_
  refine WL.step (v := (Value.bool (decide ((↑l.length : Int) > (20 : Int))))) rfl (Step.pure (by kernel_rfl)) ?_
  refine WL.step (v := (Value.bool (decide ((↑l.length : Int) > (20 : Int))))) rfl (Step.move rfl) ?_
  rcases Bool.eq_false_or_eq_true (decide ((↑l.length : Int) > (20 : Int))) with h3 | h3
  ·
    have h3p := of_decide_eq_true h3
    rw [h3]
    refine WL.pass rfl ?_
    refine WL.pass rfl ?_
    refine WL.pass rfl ?_
    refine WL.step (v := (Value.bool true)) rfl (Step.pick (t := true) rfl rfl) ?_
    refine WL.nil ?_
    refine W.cond (t := true) rfl (fun _ => ?_) (fun h => by cases h)
    refine W.seq' ?_
    refine W.region rfl ?_
    refine WL.callX rfl (law_works  (M.enterW0 trivial)) (CallsF.func Try.en16 rfl) ?_
    rintro _ w4 ⟨rfl, m⟩
    replace M := M.leaveW0 m
    clear m
    replace M : Mem _ _ _ [] [SlAt 6 v l.length (l.flatMap verE)] _ := M
    refine WL.step (v := (Value.bool true)) rfl (Step.assign rfl) ?_
    refine WL.nil ?_
    refine W.ret ?_
    refine ⟨.inl rfl, (Value.bool true), ?_, ?_⟩
    · exact ⟨rfl, (Res.r1 (show RV _ _ _ (.tmp 8) (Value.bool true) from by exact rfl))⟩
    refine ⟨?_, M.close [] rfl (by decide) trivial⟩
    rfl
  ·
    have h3p := of_decide_eq_false h3
    rw [h3]
    refine WL.step (v := v) rfl (Step.move rfl) ?_
    refine WL.callX rfl (ch_right v l (M.enterW0 ⟨(M.wideR0 0 rfl), trivial⟩)) (CallsF.func Try.en15 rfl) ?_
    rintro _ w5 ⟨rfl, m⟩
    replace M := M.leaveW0 m
    clear m
    replace M : Mem _ _ _ [] [SlAt 6 v l.length (l.flatMap verE)] _ := M
    refine WL.step (v := (Value.bool (!(chainB l)))) rfl (Step.pure (by kernel_rfl)) ?_
    refine WL.step (v := (Value.bool (!(chainB l)))) rfl (Step.pick (t := false) rfl rfl) ?_
    refine WL.nil ?_
    refine W.cond (t := !(chainB l)) rfl (fun h6 => ?_) (fun h6 => ?_)
    ·
      refine W.seq' ?_
      refine W.region rfl ?_
      refine WL.callX rfl (law_works  (M.enterW0 trivial)) (CallsF.func Try.en16 rfl) ?_
      rintro _ w7 ⟨rfl, m⟩
      replace M := M.leaveW0 m
      clear m
      replace M : Mem _ _ _ [] [SlAt 6 v l.length (l.flatMap verE)] _ := M
      refine WL.step (v := (Value.bool true)) rfl (Step.assign rfl) ?_
      refine WL.nil ?_
      refine W.ret ?_
      refine ⟨.inl rfl, (Value.bool true), ?_, ?_⟩
      · exact ⟨rfl, (Res.r1 (show RV _ _ _ (.tmp 8) (Value.bool true) from by exact rfl))⟩
      refine ⟨?_, M.close [] rfl (by decide) trivial⟩
      rfl
    ·
      have hcl : chainP l := chainB_iff.1 (by simpa using h6)
      have hlat : floor ≤ floor + min more (18446744073709551615 - floor) := by omega
      refine W.skip ?_
      refine W.seq' ?_
      refine W.region rfl ?_
      refine WL.step (v := v) rfl (Step.move rfl) ?_
      refine WL.callX rfl (ch_of v l (by first | omega | assumption | decide | (simp only [List.length_nil, List.length_cons, List.length_take, List.length_drop]; omega)) (show (chainB l) = true by simpa using h6) (M.enterW0 ⟨(M.wideR0 0 rfl), trivial⟩)) (CallsF.func Try.en17 rfl) ?_
      rintro _ w10 ⟨cb8, v9, rfl, m⟩
      replace M := M.leaveW0 m
      clear m
      replace M : Mem _ _ _ [blk cb8 (.cells #[v9] 135), own 34 6 v9 l.length (l.flatMap verE)] [SlAt 6 v l.length (l.flatMap verE)] _ := M
      have sl11 : IsSl v9 := SlAt.isSl (own_slAt (Mem.chunk M 1 rfl).inv)
      have hle12 := SlAt.le' (own_slAt (Mem.chunk M 1 rfl).inv)
      refine WL.step (v := (Value.tuple #[(Value.pointer (some ⟨cb8, 0, none⟩)), (Value.int .i64 0)])) rfl (Step.move rfl) ?_
      refine WL.step (v := (Value.pointer (some ⟨cb8, 0, none⟩))) rfl (Step.pure (by kernel_rfl)) ?_
      refine WL.step (v := (Value.int .i64 0)) rfl (Step.pure (by kernel_rfl)) ?_
      refine WL.step (v := (Value.pointer (some ⟨cb8, 0, none⟩))) rfl (Step.assign rfl) ?_
      refine WL.step (v := (Value.int .i64 0)) rfl (Step.assign rfl) ?_
      refine WL.nil ?_
      refine W.seq' ?_
      refine W.region rfl ?_
      refine WL.step (v := v) rfl (Step.move rfl) ?_
      refine WL.callX rfl (ch_of v l (by first | omega | assumption | decide | (simp only [List.length_nil, List.length_cons, List.length_take, List.length_drop]; omega)) (show (chainB l) = true by simpa using h6) (M.enterW0 ⟨(M.wideR0 0 rfl), trivial⟩)) (CallsF.func Try.en17 rfl) ?_
      rintro _ w15 ⟨cb13, v14, rfl, m⟩
      replace M := M.leaveW0 m
      clear m
      replace M : Mem _ _ _ [blk cb13 (.cells #[v14] 135), own 34 6 v14 l.length (l.flatMap verE), blk cb8 (.cells #[v9] 135), own 34 6 v9 l.length (l.flatMap verE)] [SlAt 6 v l.length (l.flatMap verE)] _ := M
      have sl16 : IsSl v14 := SlAt.isSl (own_slAt (Mem.chunk M 1 rfl).inv)
      have hle17 := SlAt.le' (own_slAt (Mem.chunk M 1 rfl).inv)
      refine WL.step (v := (Value.tuple #[(Value.pointer (some ⟨cb13, 0, none⟩)), (Value.int .i64 0)])) rfl (Step.move rfl) ?_
      refine WL.step (v := (Value.pointer (some ⟨cb13, 0, none⟩))) rfl (Step.pure (by kernel_rfl)) ?_
      refine WL.step (v := (Value.int .i64 0)) rfl (Step.pure (by kernel_rfl)) ?_
      refine WL.step (v := (Value.pointer (some ⟨cb13, 0, none⟩))) rfl (Step.assign rfl) ?_
      refine WL.step (v := (Value.int .i64 0)) rfl (Step.assign rfl) ?_
      refine WL.nil ?_
      refine W.seq' ?_
      refine W.seq' ?_
      refine W.region rfl ?_
      refine WL.step (v := (Value.int .i64 0)) rfl (Step.move rfl) ?_
      refine WL.step (v := (Value.bool false)) rfl (Step.pure (by kernel_rfl)) ?_
      refine WL.step (v := (Value.bool false)) rfl (Step.move rfl) ?_
      refine WL.step (v := (Value.int .i64 0)) rfl (Step.move rfl) ?_
      refine WL.step (v := (Value.bool false)) rfl (Step.pure (by kernel_rfl)) ?_
      refine WL.step (v := (Value.bool false)) rfl (Step.pick (t := false) rfl rfl) ?_
      refine WL.nil ?_
      refine W.cond (t := false) rfl (fun h => by cases h) (fun _ => ?_)
      refine W.skip ?_
      refine W.seq' ?_
      refine W.region rfl ?_
      refine WL.step (v := (Value.int .u64 floor)) rfl (Step.move rfl) ?_
      refine WL.step (v := (Value.int .u64 more)) rfl (Step.move rfl) ?_
      refine WL.step (v := (Value.int .u64 floor)) rfl (Step.move rfl) ?_
      refine WL.step (v := (Value.int .u64 ((18446744073709551615 : Int) - floor))) rfl (Step.sub rfl rfl (wrap_u64 (by omega))) ?_
      refine WL.step (v := (Value.int .u64 (min (more : Int) ((18446744073709551615 : Int) - floor : Int)))) rfl (Step.minI rfl rfl) ?_
      refine WL.step (v := (Value.int .u64 (floor + (min (more : Int) ((18446744073709551615 : Int) - floor : Int))))) rfl (Step.add rfl rfl (wrap_u64 (by omega))) ?_
      refine WL.step (v := (Value.int .u64 (floor + (min (more : Int) ((18446744073709551615 : Int) - floor : Int))))) rfl (Step.assign rfl) ?_
      refine WL.nil ?_
      refine W.seq' ?_
      refine W.seq' ?_
      refine W.region rfl ?_
      refine WL.step (v := (Value.int .i64 0)) rfl (Step.assign rfl) ?_
      refine WL.nil ?_
      refine W.block ?_
      refine W.loop (fun kk ρ w' => ∃ (ia_ : Nat), ((ia_ ≤ l.length) ∧ kk = l.length - ia_) ∧ ρ.has [(0, v), (1, (Value.int .u64 floor)), (3, (Value.int .u64 at_)), (9, (Value.pointer (some ⟨cb8, 0, none⟩))), (11, (Value.pointer (some ⟨cb13, 0, none⟩))), (13, (Value.int .u64 (floor + (min (more : Int) ((18446744073709551615 : Int) - floor : Int))))), (14, (Value.int .i64 ↑ia_))] ∧ Mem G (fun _ => False) w [blk cb13 (.cells #[v14] 135), own 34 6 v14 l.length (l.flatMap verE), blk cb8 (.cells #[v9] 135), own 34 6 v9 l.length (l.flatMap verE)] [SlAt 6 v l.length (l.flatMap verE)]  w') _ ⟨0, ⟨(Nat.zero_le _), rfl⟩, ⟨rfl, rfl, rfl, rfl, rfl, rfl, rfl, rfl, rfl⟩, M⟩ ?_
      rintro _ ρ19 w18 ⟨ia_, ⟨hi20, rfl⟩, hρ, M⟩
      obtain ⟨ρ19, rfl⟩ := hρ.know
      clear hρ
      refine W.seq' ?_
      refine W.seq' ?_
      refine W.region rfl ?_
      refine WL.step (v := (Value.int .i64 ↑ia_)) rfl (Step.move rfl) ?_
      refine WL.step (v := v) rfl (Step.move rfl) ?_
      refine WL.step (v := (Value.int .i64 ↑l.length)) rfl (Step.lenSl Try.un22 rfl (M.rep 0 rfl)) ?_
      refine WL.step (v := (Value.bool (decide ((↑ia_ : Int) < (↑l.length : Int))))) rfl (Step.pure (by kernel_rfl)) ?_
      refine WL.nil ?_
      refine W.cond (t := decide ((↑ia_ : Int) < (↑l.length : Int))) rfl (fun h21 => ?_) (fun h21 => ?_)
      ·
        have h21p := of_decide_eq_true h21
        refine W.skip ?_
        refine W.seq' ?_
        refine W.block ?_
        refine W.seq' ?_
        refine W.region rfl ?_
        refine WL.step (v := (Value.pointer (some ⟨cb8, 0, none⟩))) rfl (Step.move rfl) ?_
        refine WL.step (v := v) rfl (Step.move rfl) ?_
        refine WL.step (v := (Value.int .i64 ↑ia_)) rfl (Step.move rfl) ?_
        obtain ⟨cap23, hb22⟩ := SlAt.base (M.rep 0 rfl) (by omega)
        obtain ⟨x24, hx24⟩ := elem_of_lt (xs := l) (i := ia_) (by omega)
        have hxw := hwf x24 (List.mem_of_getElem? hx24)
        have hxp := rightV_pos (hcl.right hx24)
        refine WL.step (v := (Value.pointer (some ⟨(sBlk v), sOff v + ia_ * 6, none⟩))) rfl (Step.indexAddr (i := ia_) (Try.un22).run Try.el34.sized rfl rfl (by omega) hb22 (by omega)) ?_
        refine WL.step (v := (Value.pointer (some ⟨(sBlk v), sOff v + ia_ * 6, none⟩))) rfl (Step.pure (by kernel_rfl)) ?_
        refine WL.step (v := (Value.int .u64 x24.epoch)) rfl (Step.loadE (k := 0) Try.sc23 (flat_ec (M.rep 0 rfl) hx24 verE_len) (by decide) rfl rfl) ?_
        refine WL.step (v := (Value.int .u64 floor)) rfl (Step.move rfl) ?_
        refine WL.callX rfl (ch_garb cb8 v9 l x24.epoch floor (M.enterW0 ⟨(M.wideC0 2 rfl), ((M.wideC0 3 rfl).imp fun _ h => own_slAt h), trivial⟩)) (CallsF.func Try.en18 rfl) ?_
        rintro _ w25 ⟨rfl, m⟩
        replace M := M.leaveW0 m
        clear m
        replace M : Mem _ _ _ [blk cb13 (.cells #[v14] 135), own 34 6 v14 l.length (l.flatMap verE), blk cb8 (.cells #[v9] 135), own 34 6 v9 l.length (l.flatMap verE)] [SlAt 6 v l.length (l.flatMap verE)] _ := M
        refine WL.step (v := (Value.bool (garb l x24.epoch floor))) rfl (Step.move rfl) ?_
        rcases Bool.eq_false_or_eq_true (garb l x24.epoch floor) with h26 | h26
        ·
          rw [h26]
          refine WL.step (v := (Value.pointer (some ⟨cb8, 0, none⟩))) rfl (Step.move rfl) ?_
          refine WL.step (v := v) rfl (Step.move rfl) ?_
          refine WL.step (v := (Value.int .i64 ↑ia_)) rfl (Step.move rfl) ?_
          refine WL.step (v := (Value.pointer (some ⟨(sBlk v), sOff v + ia_ * 6, none⟩))) rfl (Step.indexAddr (i := ia_) (Try.un22).run Try.el34.sized rfl rfl (by omega) hb22 (by omega)) ?_
          refine WL.step (v := (Value.pointer (some ⟨(sBlk v), sOff v + ia_ * 6, none⟩))) rfl (Step.pure (by kernel_rfl)) ?_
          refine WL.step (v := (Value.int .u64 x24.epoch)) rfl (Step.loadE (k := 0) Try.sc23 (flat_ec (M.rep 0 rfl) hx24 verE_len) (by decide) rfl rfl) ?_
          refine WL.step (v := (Value.int .u64 (floor + (min (more : Int) ((18446744073709551615 : Int) - floor : Int))))) rfl (Step.move rfl) ?_
          refine WL.callX rfl (ch_garb cb8 v9 l x24.epoch (floor + (min (more : Int) ((18446744073709551615 : Int) - floor : Int))) (M.enterW0 ⟨(M.wideC0 2 rfl), ((M.wideC0 3 rfl).imp fun _ h => own_slAt h), trivial⟩)) (CallsF.func Try.en18 rfl) ?_
          rintro _ w27 ⟨rfl, m⟩
          replace M := M.leaveW0 m
          clear m
          replace M : Mem _ _ _ [blk cb13 (.cells #[v14] 135), own 34 6 v14 l.length (l.flatMap verE), blk cb8 (.cells #[v9] 135), own 34 6 v9 l.length (l.flatMap verE)] [SlAt 6 v l.length (l.flatMap verE)] _ := M
          refine WL.step (v := (Value.bool (!(garb l x24.epoch (floor + (min (more : Int) ((18446744073709551615 : Int) - floor : Int))))))) rfl (Step.pure (by kernel_rfl)) ?_
          refine WL.step (v := (Value.bool (!(garb l x24.epoch (floor + (min (more : Int) ((18446744073709551615 : Int) - floor : Int))))))) rfl (Step.pick (t := true) rfl rfl) ?_
          refine WL.nil ?_
          refine W.cond (t := !(garb l x24.epoch (floor + (min (more : Int) ((18446744073709551615 : Int) - floor : Int))))) rfl (fun h28 => ?_) (fun h28 => ?_)
          ·
            exact absurd (garb_mono h26 hlat) (by simpa using h28)
          ·
            refine W.skip ?_
            refine W.region rfl ?_
            refine WL.step (v := (Value.int .i64 ↑ia_)) rfl (Step.move rfl) ?_
            refine WL.step (v := (Value.int .i64 (↑ia_ + 1))) rfl (Step.add rfl rfl (wrap_i64 (by omega))) ?_
            refine WL.step (v := (Value.int .i64 (↑ia_ + 1))) rfl (Step.assign rfl) ?_
            refine WL.nil ?_
            exact ⟨_, (by omega), ia_ + 1, ⟨(by omega), rfl⟩, ⟨rfl, rfl, rfl, rfl, rfl, rfl, rfl, rfl, rfl⟩, M⟩
        ·
          rw [h26]
          refine WL.pass rfl ?_
          refine WL.pass rfl ?_
          refine WL.pass rfl ?_
          refine WL.pass rfl ?_
          refine WL.pass rfl ?_
          refine WL.pass rfl ?_
          refine WL.pass rfl ?_
          refine WL.pass rfl ?_
          refine WL.pass rfl ?_
          refine WL.step (v := (Value.bool false)) rfl (Step.pick (t := false) rfl rfl) ?_
          refine WL.nil ?_
          refine W.cond (t := false) rfl (fun h => by cases h) (fun _ => ?_)
          refine W.skip ?_
          refine W.region rfl ?_
          refine WL.step (v := (Value.int .i64 ↑ia_)) rfl (Step.move rfl) ?_
          refine WL.step (v := (Value.int .i64 (↑ia_ + 1))) rfl (Step.add rfl rfl (wrap_i64 (by omega))) ?_
          refine WL.step (v := (Value.int .i64 (↑ia_ + 1))) rfl (Step.assign rfl) ?_
          refine WL.nil ?_
          exact ⟨_, (by omega), ia_ + 1, ⟨(by omega), rfl⟩, ⟨rfl, rfl, rfl, rfl, rfl, rfl, rfl, rfl, rfl⟩, M⟩
      ·
        have h21p := of_decide_eq_false h21
        refine W.exit ?_
        refine thn_exit ?_
        refine thn_exit ?_
        refine inBlk_hit ?_
        refine W.seq' ?_
        refine W.region rfl ?_
        refine WL.step (v := (Value.pointer (some ⟨cb13, 0, none⟩))) rfl (Step.move rfl) ?_
        refine WL.step (v := (Value.int .u64 floor)) rfl (Step.move rfl) ?_
        refine WL.callX rfl (ch_trim cb13 v14 l floor (by first | omega | assumption | decide | (simp only [List.length_nil, List.length_cons, List.length_take, List.length_drop]; omega)) (M.enterW (C := [blk cb13 (.cells #[v14] 135), own 34 6 v14 l.length (l.flatMap verE)]) (D := [blk cb8 (.cells #[v9] 135), own 34 6 v9 l.length (l.flatMap verE)]) [0, 1, 2, 3] rfl (by decide) trivial)) (CallsF.func Try.en19 rfl) ?_
        rintro _ w30 ⟨v29, rfl, m⟩
        replace M := M.leaveW (C := [blk cb13 (.cells #[v14] 135), own 34 6 v14 l.length (l.flatMap verE)]) (D := [blk cb8 (.cells #[v9] 135), own 34 6 v9 l.length (l.flatMap verE)]) [0, 1, 2, 3] rfl (by decide) m
        clear m
        replace M : Mem _ _ _ [blk cb13 (.cells #[v29] 135), own 34 6 v29 (((trimV l floor).1).length) (((trimV l floor).1).flatMap verE), blk cb8 (.cells #[v9] 135), own 34 6 v9 l.length (l.flatMap verE)] [SlAt 6 v l.length (l.flatMap verE)] _ := M
        have sl31 : IsSl v29 := SlAt.isSl (own_slAt (Mem.chunk M 1 rfl).inv)
        have hle32 := SlAt.le' (own_slAt (Mem.chunk M 1 rfl).inv)
        have htl1 := trim_len1 (l := l) (f := floor)
        refine WL.step (v := (Value.int .i64 (↑(trimV l floor).2))) rfl (Step.assign rfl) ?_
        refine WL.nil ?_
        refine W.seq' ?_
        refine W.region rfl ?_
        refine WL.step (v := (Value.pointer (some ⟨cb13, 0, none⟩))) rfl (Step.move rfl) ?_
        refine WL.callX rfl (ch_versions cb13 v29 ((trimV l floor).1) (by first | omega | assumption | decide | (simp only [List.length_nil, List.length_cons, List.length_take, List.length_drop]; omega)) (M.enterW0 ⟨(M.wideC0 0 rfl), ((M.wideC0 1 rfl).imp fun _ h => own_slAt h), trivial⟩)) (CallsF.func Try.en20 rfl) ?_
        rintro v33 w34 ⟨_, rfl, m⟩
        replace M := M.leaveW0 m
        clear m
        replace M : Mem _ _ _ [own 34 6 v33 (((trimV l floor).1).length) (((trimV l floor).1).flatMap verE), blk cb13 (.cells #[v29] 135), own 34 6 v29 (((trimV l floor).1).length) (((trimV l floor).1).flatMap verE), blk cb8 (.cells #[v9] 135), own 34 6 v9 l.length (l.flatMap verE)] [SlAt 6 v l.length (l.flatMap verE)] _ := M
        have sl35 : IsSl v33 := SlAt.isSl (own_slAt (Mem.chunk M 0 rfl).inv)
        have hle36 := SlAt.le' (own_slAt (Mem.chunk M 0 rfl).inv)
        refine WL.step (v := v33) rfl (Step.assign rfl) ?_
        refine WL.nil ?_
        refine W.seq' ?_
        refine W.seq' ?_
        refine W.region rfl ?_
        refine WL.step (v := (Value.int .i64 (↑(trimV l floor).2))) rfl (Step.move rfl) ?_
        refine WL.step (v := v) rfl (Step.move rfl) ?_
        refine WL.step (v := (Value.int .i64 ↑l.length)) rfl (Step.lenSl Try.un22 rfl (M.rep 0 rfl)) ?_
        refine WL.step (v := v33) rfl (Step.move rfl) ?_
        refine WL.step (v := (Value.int .i64 (↑(((trimV l floor).1).length)))) rfl (Step.lenSl Try.un22 rfl (own_slAt (M.chunk 0 rfl).inv)) ?_
        refine WL.step (v := (Value.int .i64 ((↑l.length : Int) - (↑(((trimV l floor).1).length))))) rfl (Step.sub rfl rfl (wrap_i64 (by omega))) ?_
        refine WL.step (v := (Value.bool ((↑(trimV l floor).2 : Int) != ((↑l.length : Int) - (↑(((trimV l floor).1).length)) : Int)))) rfl (Step.pure (by kernel_rfl)) ?_
        refine WL.step (v := (Value.bool ((↑(trimV l floor).2 : Int) != ((↑l.length : Int) - (↑(((trimV l floor).1).length)) : Int)))) rfl (Step.move rfl) ?_
        rcases Bool.eq_false_or_eq_true ((↑(trimV l floor).2 : Int) != ((↑l.length : Int) - (↑(((trimV l floor).1).length)) : Int)) with h37 | h37
        ·
          have h37p : ¬ (↑(trimV l floor).2 : Int) = ((↑l.length : Int) - (↑(((trimV l floor).1).length)) : Int) := by simpa using h37
          have htl := trim_len (l := l) (f := floor)
          exact absurd h37 (by simp; omega)
        ·
          have h37p : (↑(trimV l floor).2 : Int) = ((↑l.length : Int) - (↑(((trimV l floor).1).length)) : Int) := by simpa using h37
          rw [h37]
          refine WL.step (v := v33) rfl (Step.move rfl) ?_
          refine WL.callX rfl (ch_right v33 ((trimV l floor).1) (M.enterW0 ⟨((M.wideC0 0 rfl).imp fun _ h => own_slAt h), trivial⟩)) (CallsF.func Try.en15 rfl) ?_
          rintro _ w38 ⟨rfl, m⟩
          replace M := M.leaveW0 m
          clear m
          replace M : Mem _ _ _ [own 34 6 v33 (((trimV l floor).1).length) (((trimV l floor).1).flatMap verE), blk cb13 (.cells #[v29] 135), own 34 6 v29 (((trimV l floor).1).length) (((trimV l floor).1).flatMap verE), blk cb8 (.cells #[v9] 135), own 34 6 v9 l.length (l.flatMap verE)] [SlAt 6 v l.length (l.flatMap verE)] _ := M
          rw [(chainB_iff.2 hcl.trim)]
          refine WL.step (v := (Value.bool false)) rfl (Step.pure (by kernel_rfl)) ?_
          refine WL.step (v := (Value.bool false)) rfl (Step.pick (t := false) rfl rfl) ?_
          refine WL.nil ?_
          refine W.cond (t := false) rfl (fun h => by cases h) (fun _ => ?_)
          refine W.skip ?_
          refine W.seq' ?_
          refine W.region rfl ?_
          refine WL.step (v := (Value.int .i64 0)) rfl (Step.assign rfl) ?_
          refine WL.nil ?_
          refine W.seq' ?_
          refine W.seq' ?_
          refine W.region rfl ?_
          refine WL.step (v := (Value.int .i64 0)) rfl (Step.assign rfl) ?_
          refine WL.nil ?_
          refine W.block ?_
          refine W.loop (fun kk ρ w' => ∃ (ib_ : Nat) (low_ : Nat), ((ib_ ≤ (trimV l floor).1.length) ∧ (low_ ≤ 1) ∧ (ib_ = 0 → low_ = 0) ∧ kk = (trimV l floor).1.length - ib_) ∧ ρ.has [(0, v), (1, (Value.int .u64 floor)), (3, (Value.int .u64 at_)), (9, (Value.pointer (some ⟨cb8, 0, none⟩))), (11, (Value.pointer (some ⟨cb13, 0, none⟩))), (13, (Value.int .u64 (floor + (min (more : Int) ((18446744073709551615 : Int) - floor : Int))))), (16, v33), (17, (Value.int .i64 ↑low_)), (18, (Value.int .i64 ↑ib_))] ∧ Mem G (fun _ => False) w [own 34 6 v33 (((trimV l floor).1).length) (((trimV l floor).1).flatMap verE), blk cb13 (.cells #[v29] 135), own 34 6 v29 (((trimV l floor).1).length) (((trimV l floor).1).flatMap verE), blk cb8 (.cells #[v9] 135), own 34 6 v9 l.length (l.flatMap verE)] [SlAt 6 v l.length (l.flatMap verE)]  w') _ ⟨0, 0, ⟨(Nat.zero_le _), (Nat.zero_le _), (fun _ => rfl), rfl⟩, ⟨rfl, rfl, rfl, rfl, rfl, rfl, rfl, rfl, rfl, rfl, rfl⟩, M⟩ ?_
          rintro _ ρ40 w39 ⟨ib_, low_, ⟨hi41, hi42, hi43, rfl⟩, hρ, M⟩
          obtain ⟨ρ40, rfl⟩ := hρ.know
          clear hρ
          refine W.seq' ?_
          refine W.seq' ?_
          refine W.region rfl ?_
          refine WL.step (v := (Value.int .i64 ↑ib_)) rfl (Step.move rfl) ?_
          refine WL.step (v := v33) rfl (Step.move rfl) ?_
          refine WL.step (v := (Value.int .i64 (↑(((trimV l floor).1).length)))) rfl (Step.lenSl Try.un22 rfl (own_slAt (M.chunk 0 rfl).inv)) ?_
          refine WL.step (v := (Value.bool (decide ((↑ib_ : Int) < (↑(((trimV l floor).1).length) : Int))))) rfl (Step.pure (by kernel_rfl)) ?_
          refine WL.nil ?_
          refine W.cond (t := decide ((↑ib_ : Int) < (↑(((trimV l floor).1).length) : Int))) rfl (fun h44 => ?_) (fun h44 => ?_)
          ·
            have h44p := of_decide_eq_true h44
            refine W.skip ?_
            refine W.seq' ?_
            refine W.block ?_
            refine W.seq' ?_
            refine W.seq' ?_
            refine W.region rfl ?_
            refine WL.step (v := v33) rfl (Step.move rfl) ?_
            refine WL.step (v := (Value.int .i64 ↑ib_)) rfl (Step.move rfl) ?_
            obtain ⟨cap46, hb45⟩ := SlAt.base (own_slAt (M.chunk 0 rfl).inv) (by omega)
            obtain ⟨x47, hx47⟩ := elem_of_lt (xs := ((trimV l floor).1)) (i := ib_) (by omega)
            refine WL.step (v := (Value.pointer (some ⟨(sBlk v33), sOff v33 + ib_ * 6, none⟩))) rfl (Step.indexAddr (i := ib_) (Try.un22).run Try.el34.sized rfl rfl (by omega) hb45 (by omega)) ?_
            refine WL.step (v := (Value.pointer (some ⟨(sBlk v33), sOff v33 + ib_ * 6, none⟩))) rfl (Step.pure (by kernel_rfl)) ?_
            refine WL.step (v := (Value.int .u64 x47.epoch)) rfl (Step.loadE (k := 0) Try.sc23 (flat_ec (own_slAt (M.chunk 0 rfl).inv) hx47 verE_len) (by decide) rfl rfl) ?_
            refine WL.step (v := (Value.int .u64 floor)) rfl (Step.move rfl) ?_
            refine WL.step (v := (Value.bool (decide ((x47.epoch : Int) ≤ (floor : Int))))) rfl (Step.pure (by kernel_rfl)) ?_
            refine WL.nil ?_
            refine W.cond (t := decide ((x47.epoch : Int) ≤ (floor : Int))) rfl (fun h48 => ?_) (fun h48 => ?_)
            ·
              have h48p := of_decide_eq_true h48
              refine W.seq' ?_
              refine W.region rfl ?_
              refine WL.step (v := (Value.int .i64 ↑low_)) rfl (Step.move rfl) ?_
              refine WL.step (v := (Value.int .i64 (↑low_ + 1))) rfl (Step.add rfl rfl (wrap_i64 (by omega))) ?_
              refine WL.step (v := (Value.int .i64 (↑low_ + 1))) rfl (Step.assign rfl) ?_
              refine WL.nil ?_
              refine W.seq' ?_
              refine W.region rfl ?_
              refine WL.step (v := v33) rfl (Step.move rfl) ?_
              refine WL.step (v := (Value.int .i64 ↑ib_)) rfl (Step.move rfl) ?_
              refine WL.step (v := (Value.pointer (some ⟨(sBlk v33), sOff v33 + ib_ * 6, none⟩))) rfl (Step.indexAddr (i := ib_) (Try.un22).run Try.el34.sized rfl rfl (by omega) hb45 (by omega)) ?_
              refine WL.step (v := (Value.pointer (some ⟨(sBlk v33), sOff v33 + ib_ * 6 + 1, none⟩))) rfl (Step.pure (by kernel_rfl)) ?_
              refine WL.step (v := (Value.bool x47.dead)) rfl (Step.loadE (k := 1) Try.sc4 (flat_ec (own_slAt (M.chunk 0 rfl).inv) hx47 verE_len) (by decide) rfl rfl) ?_
              refine WL.nil ?_
              refine W.cond (t := x47.dead) rfl (fun h49 => ?_) (fun h49 => ?_)
              ·
                exact absurd (trim_low hcl hx47 h48p).2 (by simp [h49])
              ·
                refine W.skip ?_
                refine W.seq' ?_
                refine W.region rfl ?_
                refine WL.step (v := (Value.pointer (some ⟨cb13, 0, none⟩))) rfl (Step.move rfl) ?_
                refine WL.step (v := v33) rfl (Step.move rfl) ?_
                refine WL.step (v := (Value.int .i64 ↑ib_)) rfl (Step.move rfl) ?_
                refine WL.step (v := (Value.pointer (some ⟨(sBlk v33), sOff v33 + ib_ * 6, none⟩))) rfl (Step.indexAddr (i := ib_) (Try.un22).run Try.el34.sized rfl rfl (by omega) hb45 (by omega)) ?_
                refine WL.step (v := (Value.pointer (some ⟨(sBlk v33), sOff v33 + ib_ * 6, none⟩))) rfl (Step.pure (by kernel_rfl)) ?_
                refine WL.step (v := (Value.int .u64 x47.epoch)) rfl (Step.loadE (k := 0) Try.sc23 (flat_ec (own_slAt (M.chunk 0 rfl).inv) hx47 verE_len) (by decide) rfl rfl) ?_
                refine WL.step (v := (Value.int .u64 floor)) rfl (Step.move rfl) ?_
                refine WL.callX rfl (ch_garb cb13 v29 ((trimV l floor).1) x47.epoch floor (M.enterW0 ⟨(M.wideC0 1 rfl), ((M.wideC0 2 rfl).imp fun _ h => own_slAt h), trivial⟩)) (CallsF.func Try.en18 rfl) ?_
                rintro _ w50 ⟨rfl, m⟩
                replace M := M.leaveW0 m
                clear m
                replace M : Mem _ _ _ [own 34 6 v33 (((trimV l floor).1).length) (((trimV l floor).1).flatMap verE), blk cb13 (.cells #[v29] 135), own 34 6 v29 (((trimV l floor).1).length) (((trimV l floor).1).flatMap verE), blk cb8 (.cells #[v9] 135), own 34 6 v9 l.length (l.flatMap verE)] [SlAt 6 v l.length (l.flatMap verE)] _ := M
                refine WL.nil ?_
                refine W.cond (t := garb ((trimV l floor).1) x47.epoch floor) rfl (fun h51 => ?_) (fun h51 => ?_)
                ·
                  exact absurd (trim_clean hcl.trim hx47) (by simp [h51])
                ·
                  refine W.skip ?_
                  refine W.region rfl ?_
                  refine WL.step (v := (Value.int .i64 ↑ib_)) rfl (Step.move rfl) ?_
                  refine WL.step (v := (Value.int .i64 (↑ib_ + 1))) rfl (Step.add rfl rfl (wrap_i64 (by omega))) ?_
                  refine WL.step (v := (Value.int .i64 (↑ib_ + 1))) rfl (Step.assign rfl) ?_
                  refine WL.nil ?_
                  have hz0 := (trim_low hcl hx47 h48p).1
                  exact ⟨_, (by omega), ib_ + 1, low_ + 1, ⟨(by omega), (by omega), (by omega), rfl⟩, ⟨rfl, rfl, rfl, rfl, rfl, rfl, rfl, rfl, rfl, rfl, rfl⟩, M⟩
            ·
              have h48p := of_decide_eq_false h48
              refine W.skip ?_
              refine W.seq' ?_
              refine W.region rfl ?_
              refine WL.step (v := (Value.pointer (some ⟨cb13, 0, none⟩))) rfl (Step.move rfl) ?_
              refine WL.step (v := v33) rfl (Step.move rfl) ?_
              refine WL.step (v := (Value.int .i64 ↑ib_)) rfl (Step.move rfl) ?_
              refine WL.step (v := (Value.pointer (some ⟨(sBlk v33), sOff v33 + ib_ * 6, none⟩))) rfl (Step.indexAddr (i := ib_) (Try.un22).run Try.el34.sized rfl rfl (by omega) hb45 (by omega)) ?_
              refine WL.step (v := (Value.pointer (some ⟨(sBlk v33), sOff v33 + ib_ * 6, none⟩))) rfl (Step.pure (by kernel_rfl)) ?_
              refine WL.step (v := (Value.int .u64 x47.epoch)) rfl (Step.loadE (k := 0) Try.sc23 (flat_ec (own_slAt (M.chunk 0 rfl).inv) hx47 verE_len) (by decide) rfl rfl) ?_
              refine WL.step (v := (Value.int .u64 floor)) rfl (Step.move rfl) ?_
              refine WL.callX rfl (ch_garb cb13 v29 ((trimV l floor).1) x47.epoch floor (M.enterW0 ⟨(M.wideC0 1 rfl), ((M.wideC0 2 rfl).imp fun _ h => own_slAt h), trivial⟩)) (CallsF.func Try.en18 rfl) ?_
              rintro _ w52 ⟨rfl, m⟩
              replace M := M.leaveW0 m
              clear m
              replace M : Mem _ _ _ [own 34 6 v33 (((trimV l floor).1).length) (((trimV l floor).1).flatMap verE), blk cb13 (.cells #[v29] 135), own 34 6 v29 (((trimV l floor).1).length) (((trimV l floor).1).flatMap verE), blk cb8 (.cells #[v9] 135), own 34 6 v9 l.length (l.flatMap verE)] [SlAt 6 v l.length (l.flatMap verE)] _ := M
              refine WL.nil ?_
              refine W.cond (t := garb ((trimV l floor).1) x47.epoch floor) rfl (fun h53 => ?_) (fun h53 => ?_)
              ·
                exact absurd (trim_clean hcl.trim hx47) (by simp [h53])
              ·
                refine W.skip ?_
                refine W.region rfl ?_
                refine WL.step (v := (Value.int .i64 ↑ib_)) rfl (Step.move rfl) ?_
                refine WL.step (v := (Value.int .i64 (↑ib_ + 1))) rfl (Step.add rfl rfl (wrap_i64 (by omega))) ?_
                refine WL.step (v := (Value.int .i64 (↑ib_ + 1))) rfl (Step.assign rfl) ?_
                refine WL.nil ?_
                exact ⟨_, (by omega), ib_ + 1, low_, ⟨(by omega), (by omega), (by omega), rfl⟩, ⟨rfl, rfl, rfl, rfl, rfl, rfl, rfl, rfl, rfl, rfl, rfl⟩, M⟩
          ·
            have h44p := of_decide_eq_false h44
            refine W.exit ?_
            refine thn_exit ?_
            refine thn_exit ?_
            refine inBlk_hit ?_
            refine W.seq' ?_
            refine W.region rfl ?_
            refine WL.step (v := (Value.int .u64 floor)) rfl (Step.move rfl) ?_
            refine WL.step (v := (Value.int .u64 (floor + (min (more : Int) ((18446744073709551615 : Int) - floor : Int))))) rfl (Step.move rfl) ?_
            refine WL.step (v := (Value.int .u64 at_)) rfl (Step.move rfl) ?_
            refine WL.step (v := (Value.int .u64 floor)) rfl (Step.move rfl) ?_
            refine WL.step (v := (Value.int .u64 (max (at_ : Int) (floor : Int)))) rfl (Step.maxI rfl rfl) ?_
            refine WL.new (obj := .cells #[(Value.int .u64 floor), (Value.int .u64 (floor + (min (more : Int) ((18446744073709551615 : Int) - floor : Int)))), (Value.int .u64 (max (at_ : Int) (floor : Int))), (Value.int .u64 18446744073709551615)] 23) (fun b => .slice (some ⟨b, 0, none⟩) 4 4) M rfl (fun w => Step.make (by kernel_rfl)) (fun b54 w55 hb54 M => ?_)
            refine WL.step (v := (Value.slice (some ⟨b54, 0, none⟩) 4 4)) rfl (Step.assign rfl) ?_
            refine WL.nil ?_
            refine W.seq' ?_
            refine W.seq' ?_
            refine W.region rfl ?_
            refine WL.step (v := (Value.int .i64 0)) rfl (Step.assign rfl) ?_
            refine WL.nil ?_
            refine W.block ?_
            replace M := M.ownBlk 0 (n := 4) (size := 1) rfl rfl (by decide)
            replace M : Mem _ _ _ [own 23 1 (Value.slice (some ⟨b54, 0, none⟩) 4 4) (([floor, (floor + (min (more : Int) ((18446744073709551615 : Int) - floor : Int))), (max (at_ : Int) (floor : Int)), 18446744073709551615] : List Int).length) (([floor, (floor + (min (more : Int) ((18446744073709551615 : Int) - floor : Int))), (max (at_ : Int) (floor : Int)), 18446744073709551615] : List Int).flatMap u64E), own 34 6 v33 (((trimV l floor).1).length) (((trimV l floor).1).flatMap verE), blk cb13 (.cells #[v29] 135), own 34 6 v29 (((trimV l floor).1).length) (((trimV l floor).1).flatMap verE), blk cb8 (.cells #[v9] 135), own 34 6 v9 l.length (l.flatMap verE)] [SlAt 6 v l.length (l.flatMap verE)] _ := M
            replace M := M.rechunk 0 (c' := own 23 1 (Value.slice (some ⟨b54, 0, none⟩) 4 4) (([floor, floor + min more (18446744073709551615 - floor), max at_ floor, 18446744073709551615]).length) (([floor, floor + min more (18446744073709551615 - floor), max at_ floor, 18446744073709551615]).flatMap u64E)) rfl rfl
            replace M : Mem _ _ _ [own 23 1 (Value.slice (some ⟨b54, 0, none⟩) 4 4) (([floor, floor + min more (18446744073709551615 - floor), max at_ floor, 18446744073709551615]).length) (([floor, floor + min more (18446744073709551615 - floor), max at_ floor, 18446744073709551615]).flatMap u64E), own 34 6 v33 (((trimV l floor).1).length) (((trimV l floor).1).flatMap verE), blk cb13 (.cells #[v29] 135), own 34 6 v29 (((trimV l floor).1).length) (((trimV l floor).1).flatMap verE), blk cb8 (.cells #[v9] 135), own 34 6 v9 l.length (l.flatMap verE)] [SlAt 6 v l.length (l.flatMap verE)] _ := M
            refine W.loop (fun kk ρ w' => ∃ (ic_ : Nat) (ev_ : Value) (es_ : List Int), ((ic_ ≤ l.length) ∧ (es_.length = 4 + 2 * ic_) ∧ (∀ y ∈ es_, floor ≤ y) ∧ kk = l.length - ic_) ∧ ρ.has [(0, v), (1, (Value.int .u64 floor)), (9, (Value.pointer (some ⟨cb8, 0, none⟩))), (11, (Value.pointer (some ⟨cb13, 0, none⟩))), (17, (Value.int .i64 ↑low_)), (19, ev_), (20, (Value.int .i64 ↑ic_))] ∧ Mem G (fun _ => False) w [own 23 1 ev_ es_.length (es_.flatMap u64E), own 34 6 v33 (((trimV l floor).1).length) (((trimV l floor).1).flatMap verE), blk cb13 (.cells #[v29] 135), own 34 6 v29 (((trimV l floor).1).length) (((trimV l floor).1).flatMap verE), blk cb8 (.cells #[v9] 135), own 34 6 v9 l.length (l.flatMap verE)] [SlAt 6 v l.length (l.flatMap verE)]  w') _ ⟨0, _, [floor, floor + min more (18446744073709551615 - floor), max at_ floor, 18446744073709551615], ⟨(Nat.zero_le _), rfl, (by simp; omega), rfl⟩, ⟨rfl, rfl, rfl, rfl, rfl, rfl, rfl, rfl, rfl⟩, M⟩ ?_
            rintro _ ρ57 w56 ⟨ic_, ev_, es_, ⟨hi58, hi59, hi60, rfl⟩, hρ, M⟩
            obtain ⟨ρ57, rfl⟩ := hρ.know
            clear hρ
            have sl61 : IsSl ev_ := SlAt.isSl (own_slAt (M.chunk 0 rfl).inv)
            have hel_ := hi59
            refine W.seq' ?_
            refine W.seq' ?_
            refine W.region rfl ?_
            refine WL.step (v := (Value.int .i64 ↑ic_)) rfl (Step.move rfl) ?_
            refine WL.step (v := v) rfl (Step.move rfl) ?_
            refine WL.step (v := (Value.int .i64 ↑l.length)) rfl (Step.lenSl Try.un22 rfl (M.rep 0 rfl)) ?_
            refine WL.step (v := (Value.bool (decide ((↑ic_ : Int) < (↑l.length : Int))))) rfl (Step.pure (by kernel_rfl)) ?_
            refine WL.nil ?_
            refine W.cond (t := decide ((↑ic_ : Int) < (↑l.length : Int))) rfl (fun h62 => ?_) (fun h62 => ?_)
            ·
              have h62p := of_decide_eq_true h62
              refine W.skip ?_
              refine W.seq' ?_
              refine W.block ?_
              obtain ⟨cap64, hb63⟩ := SlAt.base (M.rep 0 rfl) (by omega)
              obtain ⟨x65, hx65⟩ := elem_of_lt (xs := l) (i := ic_) (by omega)
              have hxw := hwf x65 (List.mem_of_getElem? hx65)
              have hxp := rightV_pos (hcl.right hx65)
              refine W.drawn M [0, 1, 2, 3, 4, 5, 6, 7, 8, 9, 10, 11, 12, 13, 14, 15, 16, 17, 18] [17] [16] [own 34 6 v33 (((trimV l floor).1).length) (((trimV l floor).1).flatMap verE), blk cb13 (.cells #[v29] 135), own 34 6 v29 (((trimV l floor).1).length) (((trimV l floor).1).flatMap verE), blk cb8 (.cells #[v9] 135), own 34 6 v9 l.length (l.flatMap verE)] [SlAt 6 v l.length (l.flatMap verE)] (List.Sublist.cons _ (List.Sublist.cons_cons _ (List.Sublist.cons_cons _ (List.Sublist.cons_cons _ (List.Sublist.cons_cons _ (List.Sublist.cons_cons _ List.Sublist.slnil)))))) (fun _ h => h) Try.mixed (by kernel_rfl) ?_
              refine TW.pure (v := ev_) rfl (by decide) (by decide) rfl (fun w => (Step.move rfl)) ?_
              refine TW.pure (v := v) rfl (by decide) (by decide) rfl (fun w => (Step.move rfl)) ?_
              refine TW.pure (v := (Value.int .i64 ↑ic_)) rfl (by decide) (by decide) rfl (fun w => (Step.move rfl)) ?_
              refine TW.pure (v := (Value.pointer (some ⟨(sBlk v), sOff v + ic_ * 6, none⟩))) rfl (by decide) (by decide) rfl (fun w => (Step.indexAddr (i := ic_) (Try.un22).run Try.el34.sized rfl rfl (by omega) hb63 (by omega))) ?_
              refine TW.pure (v := (Value.pointer (some ⟨(sBlk v), sOff v + ic_ * 6, none⟩))) rfl (by decide) (by decide) rfl (fun w => (Step.pure (by kernel_rfl))) ?_
              refine TW.read (v := (Value.int .u64 x65.epoch)) rfl (by decide) (by decide) rfl (fun A w M => (Step.loadE (k := 0) Try.sc23 (flat_ec (M.rep 0 rfl) hx65 verE_len) (by decide) rfl rfl)) ?_
              refine TW.pure (v := (Value.int .u64 floor)) rfl (by decide) (by decide) rfl (fun w => (Step.move rfl)) ?_
              refine TW.pure (v := (Value.int .u64 (max (x65.epoch : Int) (floor : Int)))) rfl (by decide) (by decide) rfl (fun w => (Step.maxI rfl rfl)) ?_
              refine TW.pure (v := v) rfl (by decide) (by decide) rfl (fun w => (Step.move rfl)) ?_
              refine TW.pure (v := (Value.int .i64 ↑ic_)) rfl (by decide) (by decide) rfl (fun w => (Step.move rfl)) ?_
              refine TW.pure (v := (Value.pointer (some ⟨(sBlk v), sOff v + ic_ * 6, none⟩))) rfl (by decide) (by decide) rfl (fun w => (Step.indexAddr (i := ic_) (Try.un22).run Try.el34.sized rfl rfl (by omega) hb63 (by omega))) ?_
              refine TW.pure (v := (Value.pointer (some ⟨(sBlk v), sOff v + ic_ * 6, none⟩))) rfl (by decide) (by decide) rfl (fun w => (Step.pure (by kernel_rfl))) ?_
              refine TW.read (v := (Value.int .u64 x65.epoch)) rfl (by decide) (by decide) rfl (fun A w M => (Step.loadE (k := 0) Try.sc23 (flat_ec (M.rep 0 rfl) hx65 verE_len) (by decide) rfl rfl)) ?_
              refine TW.pure (v := (Value.int .u64 ((x65.epoch : Int) - 1))) rfl (by decide) (by decide) rfl (fun w => (Step.sub rfl rfl (wrap_u64 (by omega)))) ?_
              refine TW.pure (v := (Value.int .u64 floor)) rfl (by decide) (by decide) rfl (fun w => (Step.move rfl)) ?_
              refine TW.pure (v := (Value.int .u64 (max ((x65.epoch : Int) - 1 : Int) (floor : Int)))) rfl (by decide) (by decide) rfl (fun w => (Step.maxI rfl rfl)) ?_
              refine TW.new (obj := .cells #[(Value.int .u64 (max (x65.epoch : Int) (floor : Int))), (Value.int .u64 (max ((x65.epoch : Int) - 1 : Int) (floor : Int)))] 23) (fun b => .slice (some ⟨b, 0, none⟩) 2 2) rfl (by decide) (by decide) rfl (fun w => Step.make (by kernel_rfl)) (fun b74 => ?_)
              refine TW.doesM (fun v_ => own 23 1 v_ ((es_ ++ ([(max (x65.epoch : Int) (floor : Int)), (max ((x65.epoch : Int) - 1 : Int) (floor : Int))] : List Int)).length) ((es_ ++ ([(max (x65.epoch : Int) (floor : Int)), (max ((x65.epoch : Int) - 1 : Int) (floor : Int))] : List Int)).flatMap u64E)) 1 rfl rfl (by decide) rfl (fun v_ => (List.Sublist.cons _ (List.Sublist.cons _ (List.Sublist.cons_cons _ (List.Sublist.cons_cons _ (List.Sublist.cons_cons _ (List.Sublist.cons_cons _ (List.Sublist.cons_cons _ List.Sublist.slnil)))))))) (fun r h => h) (fun A w M => M.appendF' es_ ([(max (x65.epoch : Int) (floor : Int)), (max ((x65.epoch : Int) - 1 : Int) (floor : Int))] : List Int) (sv := (Value.slice (some ⟨b74, 0, none⟩) 2 2)) 2 Try.un37 Try.el23 rfl (by decide) rfl rfl rfl (SlAt.of_blk (M.blk 1 rfl) rfl (by decide)) u64E_cel (by have := trivial; simp only [maxLen, List.length_nil, List.length_cons, List.length_append]; omega) (by have := trivial; (try simp only [List.length_nil, List.length_cons, List.length_append]); omega)) (fun v75 hin => ?_)
              obtain ⟨_, _, hin⟩ := hin
              have sl77 : IsSl v75 := SlAt.isSl (own_slAt (Mem.chunk hin 2 rfl).inv)
              clear hin
              change TW _ _ _ _ _ _ _ _ (MemA _ _ _ [blk b74 (.cells #[(Value.int .u64 (max (x65.epoch : Int) (floor : Int))), (Value.int .u64 (max ((x65.epoch : Int) - 1 : Int) (floor : Int)))] 23), own 23 1 v75 ((es_ ++ ([(max (x65.epoch : Int) (floor : Int)), (max ((x65.epoch : Int) - 1 : Int) (floor : Int))] : List Int)).length) ((es_ ++ ([(max (x65.epoch : Int) (floor : Int)), (max ((x65.epoch : Int) - 1 : Int) (floor : Int))] : List Int)).flatMap u64E), own 34 6 v33 (((trimV l floor).1).length) (((trimV l floor).1).flatMap verE), blk cb13 (.cells #[v29] 135), own 34 6 v29 (((trimV l floor).1).length) (((trimV l floor).1).flatMap verE), blk cb8 (.cells #[v9] 135), own 34 6 v9 l.length (l.flatMap verE)] [SlAt 6 v l.length (l.flatMap verE)])
              refine TW.pure (v := v75) rfl (by decide) (by decide) rfl (fun w => (Step.assign rfl)) ?_
              refine TW.done (fun w78 M => ?_)
              refine W.region rfl ?_
              refine WL.step (v := (Value.int .i64 ↑ic_)) rfl (Step.move rfl) ?_
              refine WL.step (v := (Value.int .i64 (↑ic_ + 1))) rfl (Step.add rfl rfl (wrap_i64 (by omega))) ?_
              refine WL.step (v := (Value.int .i64 (↑ic_ + 1))) rfl (Step.assign rfl) ?_
              refine WL.nil ?_
              replace M := M.sel (L' := [own 23 1 v75 ((es_ ++ ([(max (x65.epoch : Int) (floor : Int)), (max ((x65.epoch : Int) - 1 : Int) (floor : Int))] : List Int)).length) ((es_ ++ ([(max (x65.epoch : Int) (floor : Int)), (max ((x65.epoch : Int) - 1 : Int) (floor : Int))] : List Int)).flatMap u64E), own 34 6 v33 (((trimV l floor).1).length) (((trimV l floor).1).flatMap verE), blk cb13 (.cells #[v29] 135), own 34 6 v29 (((trimV l floor).1).length) (((trimV l floor).1).flatMap verE), blk cb8 (.cells #[v9] 135), own 34 6 v9 l.length (l.flatMap verE)]) [1, 2, 3, 4, 5, 6] rfl (by decide)
              exact ⟨_, (by omega), ic_ + 1, _, es_ ++ ([(max (x65.epoch : Int) (floor : Int)), (max ((x65.epoch : Int) - 1 : Int) (floor : Int))] : List Int), ⟨(by omega), (by simp; omega), (mem_more hi60 (by omega) (by omega)), rfl⟩, ⟨rfl, rfl, rfl, rfl, rfl, rfl, rfl, rfl, rfl⟩, M⟩
            ·
              have h62p := of_decide_eq_false h62
              refine W.exit ?_
              refine thn_exit ?_
              refine thn_exit ?_
              refine inBlk_hit ?_
              refine W.seq' ?_
              refine W.seq' ?_
              refine W.region rfl ?_
              refine WL.step (v := (Value.int .i64 0)) rfl (Step.assign rfl) ?_
              refine WL.nil ?_
              refine W.block ?_
              refine W.loop (fun kk ρ w' => ∃ (id_ : Nat), ((id_ ≤ es_.length) ∧ kk = es_.length - id_) ∧ ρ.has [(9, (Value.pointer (some ⟨cb8, 0, none⟩))), (11, (Value.pointer (some ⟨cb13, 0, none⟩))), (17, (Value.int .i64 ↑low_)), (19, ev_), (21, (Value.int .i64 ↑id_))] ∧ Mem G (fun _ => False) w [own 23 1 ev_ es_.length (es_.flatMap u64E), own 34 6 v33 (((trimV l floor).1).length) (((trimV l floor).1).flatMap verE), blk cb13 (.cells #[v29] 135), own 34 6 v29 (((trimV l floor).1).length) (((trimV l floor).1).flatMap verE), blk cb8 (.cells #[v9] 135), own 34 6 v9 l.length (l.flatMap verE)] [SlAt 6 v l.length (l.flatMap verE)]  w') _ ⟨0, ⟨(Nat.zero_le _), rfl⟩, ⟨rfl, rfl, rfl, rfl, rfl, rfl, rfl⟩, M⟩ ?_
              rintro _ ρ80 w79 ⟨id_, ⟨hi81, rfl⟩, hρ, M⟩
              obtain ⟨ρ80, rfl⟩ := hρ.know
              clear hρ
              refine W.seq' ?_
              refine W.seq' ?_
              refine W.region rfl ?_
              refine WL.step (v := (Value.int .i64 ↑id_)) rfl (Step.move rfl) ?_
              refine WL.step (v := ev_) rfl (Step.move rfl) ?_
              refine WL.step (v := (Value.int .i64 ↑es_.length)) rfl (Step.lenSl Try.un37 rfl (own_slAt (M.chunk 0 rfl).inv)) ?_
              refine WL.step (v := (Value.bool (decide ((↑id_ : Int) < (↑es_.length : Int))))) rfl (Step.pure (by kernel_rfl)) ?_
              refine WL.nil ?_
              refine W.cond (t := decide ((↑id_ : Int) < (↑es_.length : Int))) rfl (fun h82 => ?_) (fun h82 => ?_)
              ·
                have h82p := of_decide_eq_true h82
                refine W.skip ?_
                refine W.seq' ?_
                refine W.block ?_
                refine W.seq' ?_
                refine W.region rfl ?_
                refine WL.step (v := (Value.pointer (some ⟨cb8, 0, none⟩))) rfl (Step.move rfl) ?_
                refine WL.step (v := ev_) rfl (Step.move rfl) ?_
                refine WL.step (v := (Value.int .i64 ↑id_)) rfl (Step.move rfl) ?_
                obtain ⟨cap84, hb83⟩ := SlAt.base (own_slAt (M.chunk 0 rfl).inv) (by omega)
                obtain ⟨x85, hx85⟩ := elem_of_lt (xs := es_) (i := id_) (by omega)
                refine WL.step (v := (Value.pointer (some ⟨(sBlk ev_), sOff ev_ + id_ * 1, none⟩))) rfl (Step.indexAddr (i := id_) (Try.un37).run Try.el23.sized rfl rfl (by omega) hb83 (by omega)) ?_
                refine WL.step (v := (Value.int .u64 x85)) rfl (Step.loadE (k := 0) Try.sc23 (flat_ec (own_slAt (M.chunk 0 rfl).inv) hx85 u64E_len) (by decide) rfl rfl) ?_
                refine WL.callX rfl (ch_at cb8 v9 l x85 (M.enterW0 ⟨(M.wideC0 4 rfl), ((M.wideC0 5 rfl).imp fun _ h => own_slAt h), trivial⟩)) (CallsF.func Try.en21 rfl) ?_
                rintro _ w86 ⟨rfl, m⟩
                replace M := M.leaveW0 m
                clear m
                replace M : Mem _ _ _ [own 23 1 ev_ es_.length (es_.flatMap u64E), own 34 6 v33 (((trimV l floor).1).length) (((trimV l floor).1).flatMap verE), blk cb13 (.cells #[v29] 135), own 34 6 v29 (((trimV l floor).1).length) (((trimV l floor).1).flatMap verE), blk cb8 (.cells #[v9] 135), own 34 6 v9 l.length (l.flatMap verE)] [SlAt 6 v l.length (l.flatMap verE)] _ := M
                refine WL.step (v := (Value.tuple #[(Value.agg #[(Value.int .i64 ((atV l x85).count)), (Value.int .i64 ((atV l x85).sum)), (Value.int .i64 ((atV l x85).min)), (Value.int .i64 ((atV l x85).max))]), (Value.bool (!decide (atV l x85 = aggZ)))])) rfl (Step.move rfl) ?_
                refine WL.step (v := (Value.agg #[(Value.int .i64 ((atV l x85).count)), (Value.int .i64 ((atV l x85).sum)), (Value.int .i64 ((atV l x85).min)), (Value.int .i64 ((atV l x85).max))])) rfl (Step.pure (by kernel_rfl)) ?_
                refine WL.step (v := (Value.bool (!decide (atV l x85 = aggZ)))) rfl (Step.pure (by kernel_rfl)) ?_
                refine WL.alloc (c := #[(Value.int .i64 0), (Value.int .i64 0), (Value.int .i64 0), (Value.int .i64 0)]) M rfl Try.el32.zero rfl (fun b87 w88 hb87 M => ?_)
                refine WL.store (v := (Value.agg #[(Value.int .i64 ((atV l x85).count)), (Value.int .i64 ((atV l x85).sum)), (Value.int .i64 ((atV l x85).min)), (Value.int .i64 ((atV l x85).max))])) (cs := [(Value.int .i64 ((atV l x85).count)), (Value.int .i64 ((atV l x85).sum)), (Value.int .i64 ((atV l x85).min)), (Value.int .i64 ((atV l x85).max))]) (c' := #[(Value.int .i64 ((atV l x85).count)), (Value.int .i64 ((atV l x85).sum)), (Value.int .i64 ((atV l x85).min)), (Value.int .i64 ((atV l x85).max))]) M 0 rfl rfl Try.el32.sized rfl rfl rfl rfl (Nat.le_of_ble_eq_true rfl) (cel_cons rfl (cel_cons rfl (cel_cons rfl (cel_cons rfl cel_nil)))) rfl rfl (fun w89 M => ?_)
                refine WL.step (v := (Value.bool (!decide (atV l x85 = aggZ)))) rfl (Step.assign rfl) ?_
                refine WL.nil ?_
                refine W.seq' ?_
                refine W.region rfl ?_
                refine WL.step (v := (Value.pointer (some ⟨cb13, 0, none⟩))) rfl (Step.move rfl) ?_
                refine WL.step (v := ev_) rfl (Step.move rfl) ?_
                refine WL.step (v := (Value.int .i64 ↑id_)) rfl (Step.move rfl) ?_
                refine WL.step (v := (Value.pointer (some ⟨(sBlk ev_), sOff ev_ + id_ * 1, none⟩))) rfl (Step.indexAddr (i := id_) (Try.un37).run Try.el23.sized rfl rfl (by omega) hb83 (by omega)) ?_
                refine WL.step (v := (Value.int .u64 x85)) rfl (Step.loadE (k := 0) Try.sc23 (flat_ec (own_slAt (M.chunk 1 rfl).inv) hx85 u64E_len) (by decide) rfl rfl) ?_
                refine WL.callX rfl (ch_at cb13 v29 ((trimV l floor).1) x85 (M.enterW0 ⟨(M.wideC0 3 rfl), ((M.wideC0 4 rfl).imp fun _ h => own_slAt h), trivial⟩)) (CallsF.func Try.en21 rfl) ?_
                rintro _ w90 ⟨rfl, m⟩
                replace M := M.leaveW0 m
                clear m
                replace M : Mem _ _ _ [blk b87 (.cells #[(Value.int .i64 ((atV l x85).count)), (Value.int .i64 ((atV l x85).sum)), (Value.int .i64 ((atV l x85).min)), (Value.int .i64 ((atV l x85).max))] 32), own 23 1 ev_ es_.length (es_.flatMap u64E), own 34 6 v33 (((trimV l floor).1).length) (((trimV l floor).1).flatMap verE), blk cb13 (.cells #[v29] 135), own 34 6 v29 (((trimV l floor).1).length) (((trimV l floor).1).flatMap verE), blk cb8 (.cells #[v9] 135), own 34 6 v9 l.length (l.flatMap verE)] [SlAt 6 v l.length (l.flatMap verE)] _ := M
                refine WL.step (v := (Value.tuple #[(Value.agg #[(Value.int .i64 ((atV ((trimV l floor).1) x85).count)), (Value.int .i64 ((atV ((trimV l floor).1) x85).sum)), (Value.int .i64 ((atV ((trimV l floor).1) x85).min)), (Value.int .i64 ((atV ((trimV l floor).1) x85).max))]), (Value.bool (!decide (atV ((trimV l floor).1) x85 = aggZ)))])) rfl (Step.move rfl) ?_
                refine WL.step (v := (Value.agg #[(Value.int .i64 ((atV ((trimV l floor).1) x85).count)), (Value.int .i64 ((atV ((trimV l floor).1) x85).sum)), (Value.int .i64 ((atV ((trimV l floor).1) x85).min)), (Value.int .i64 ((atV ((trimV l floor).1) x85).max))])) rfl (Step.pure (by kernel_rfl)) ?_
                refine WL.step (v := (Value.bool (!decide (atV ((trimV l floor).1) x85 = aggZ)))) rfl (Step.pure (by kernel_rfl)) ?_
                refine WL.alloc (c := #[(Value.int .i64 0), (Value.int .i64 0), (Value.int .i64 0), (Value.int .i64 0)]) M rfl Try.el32.zero rfl (fun b91 w92 hb91 M => ?_)
                refine WL.store (v := (Value.agg #[(Value.int .i64 ((atV ((trimV l floor).1) x85).count)), (Value.int .i64 ((atV ((trimV l floor).1) x85).sum)), (Value.int .i64 ((atV ((trimV l floor).1) x85).min)), (Value.int .i64 ((atV ((trimV l floor).1) x85).max))])) (cs := [(Value.int .i64 ((atV ((trimV l floor).1) x85).count)), (Value.int .i64 ((atV ((trimV l floor).1) x85).sum)), (Value.int .i64 ((atV ((trimV l floor).1) x85).min)), (Value.int .i64 ((atV ((trimV l floor).1) x85).max))]) (c' := #[(Value.int .i64 ((atV ((trimV l floor).1) x85).count)), (Value.int .i64 ((atV ((trimV l floor).1) x85).sum)), (Value.int .i64 ((atV ((trimV l floor).1) x85).min)), (Value.int .i64 ((atV ((trimV l floor).1) x85).max))]) M 0 rfl rfl Try.el32.sized rfl rfl rfl rfl (Nat.le_of_ble_eq_true rfl) (cel_cons rfl (cel_cons rfl (cel_cons rfl (cel_cons rfl cel_nil)))) rfl rfl (fun w93 M => ?_)
                refine WL.step (v := (Value.bool (!decide (atV ((trimV l floor).1) x85 = aggZ)))) rfl (Step.assign rfl) ?_
                refine WL.nil ?_
                refine W.seq' ?_
                refine W.region rfl ?_
                refine WL.step (v := (Value.agg #[(Value.int .i64 ((atV l x85).count)), (Value.int .i64 ((atV l x85).sum)), (Value.int .i64 ((atV l x85).min)), (Value.int .i64 ((atV l x85).max))])) rfl (Step.loadN Try.ag32 rfl (M.blk 1 rfl) (Nat.le_of_ble_eq_true rfl) rfl) ?_
                refine WL.step (v := (Value.agg #[(Value.int .i64 ((atV ((trimV l floor).1) x85).count)), (Value.int .i64 ((atV ((trimV l floor).1) x85).sum)), (Value.int .i64 ((atV ((trimV l floor).1) x85).min)), (Value.int .i64 ((atV ((trimV l floor).1) x85).max))])) rfl (Step.loadN Try.ag32 rfl (M.blk 0 rfl) (Nat.le_of_ble_eq_true rfl) rfl) ?_
                refine WL.step (v := (Value.bool (!decide ((atV l x85) = (atV ((trimV l floor).1) x85))))) rfl (Step.cast (congrArg (fun z => Value.bool (!z)) (agg_eqB (atV l x85) (atV ((trimV l floor).1) x85))) (Step.neqAgg Try.eg32 rfl rfl rfl (Try.eq32 9998 ((atV l x85).count : Int) ((atV l x85).sum : Int) ((atV l x85).min : Int) ((atV l x85).max : Int) ((atV ((trimV l floor).1) x85).count : Int) ((atV ((trimV l floor).1) x85).sum : Int) ((atV ((trimV l floor).1) x85).min : Int) ((atV ((trimV l floor).1) x85).max : Int)))) ?_
                refine WL.step (v := (Value.bool (!decide ((atV l x85) = (atV ((trimV l floor).1) x85))))) rfl (Step.move rfl) ?_
                rcases Bool.eq_false_or_eq_true (!decide ((atV l x85) = (atV ((trimV l floor).1) x85))) with h94 | h94
                ·
                  have hat : atV (trimV l floor).1 x85 = atV l x85 := trim_at hcl (hi60 _ (List.mem_of_getElem? hx85))
                  exact absurd h94 (by simp [hat])
                ·
                  rw [h94]
                  refine WL.step (v := (Value.bool (!decide (atV l x85 = aggZ)))) rfl (Step.move rfl) ?_
                  refine WL.step (v := (Value.bool (!decide (atV ((trimV l floor).1) x85 = aggZ)))) rfl (Step.move rfl) ?_
                  refine WL.step (v := (Value.bool (!((!decide (atV l x85 = aggZ)) == (!decide (atV ((trimV l floor).1) x85 = aggZ)))))) rfl (Step.pure (by kernel_rfl)) ?_
                  refine WL.step (v := (Value.bool (!((!decide (atV l x85 = aggZ)) == (!decide (atV ((trimV l floor).1) x85 = aggZ)))))) rfl (Step.pick (t := false) rfl rfl) ?_
                  refine WL.nil ?_
                  refine W.cond (t := !((!decide (atV l x85 = aggZ)) == (!decide (atV ((trimV l floor).1) x85 = aggZ)))) rfl (fun h95 => ?_) (fun h95 => ?_)
                  ·
                    have hat : atV (trimV l floor).1 x85 = atV l x85 := trim_at hcl (hi60 _ (List.mem_of_getElem? hx85))
                    exact absurd h95 (by simp [hat])
                  ·
                    refine W.skip ?_
                    refine W.region rfl ?_
                    refine WL.step (v := (Value.int .i64 ↑id_)) rfl (Step.move rfl) ?_
                    refine WL.step (v := (Value.int .i64 (↑id_ + 1))) rfl (Step.add rfl rfl (wrap_i64 (by omega))) ?_
                    refine WL.step (v := (Value.int .i64 (↑id_ + 1))) rfl (Step.assign rfl) ?_
                    refine WL.nil ?_
                    replace M := M.sel (L' := [own 23 1 ev_ es_.length (es_.flatMap u64E), own 34 6 v33 (((trimV l floor).1).length) (((trimV l floor).1).flatMap verE), blk cb13 (.cells #[v29] 135), own 34 6 v29 (((trimV l floor).1).length) (((trimV l floor).1).flatMap verE), blk cb8 (.cells #[v9] 135), own 34 6 v9 l.length (l.flatMap verE)]) [2, 3, 4, 5, 6, 7] rfl (by decide)
                    exact ⟨_, (by omega), id_ + 1, ⟨(by omega), rfl⟩, ⟨rfl, rfl, rfl, rfl, rfl, rfl, rfl⟩, M⟩
              ·
                have h82p := of_decide_eq_false h82
                refine W.exit ?_
                refine thn_exit ?_
                refine thn_exit ?_
                refine inBlk_hit ?_
                refine W.seq' ?_
                refine W.region rfl ?_
                refine WL.step (v := (Value.int .i64 ↑low_)) rfl (Step.move rfl) ?_
                refine WL.step (v := (Value.bool (decide ((↑low_ : Int) ≤ (1 : Int))))) rfl (Step.pure (by kernel_rfl)) ?_
                refine WL.step (v := (Value.bool (decide ((↑low_ : Int) ≤ (1 : Int))))) rfl (Step.move rfl) ?_
                rcases Bool.eq_false_or_eq_true (decide ((↑low_ : Int) ≤ (1 : Int))) with h96 | h96
                ·
                  have h96p := of_decide_eq_true h96
                  rw [h96]
                  refine WL.callX rfl (law_works  (M.enterW0 trivial)) (CallsF.func Try.en16 rfl) ?_
                  rintro _ w97 ⟨rfl, m⟩
                  replace M := M.leaveW0 m
                  clear m
                  replace M : Mem _ _ _ [own 23 1 ev_ es_.length (es_.flatMap u64E), own 34 6 v33 (((trimV l floor).1).length) (((trimV l floor).1).flatMap verE), blk cb13 (.cells #[v29] 135), own 34 6 v29 (((trimV l floor).1).length) (((trimV l floor).1).flatMap verE), blk cb8 (.cells #[v9] 135), own 34 6 v9 l.length (l.flatMap verE)] [SlAt 6 v l.length (l.flatMap verE)] _ := M
                  refine WL.step (v := (Value.bool true)) rfl (Step.pick (t := true) rfl rfl) ?_
                  refine WL.step (v := (Value.bool true)) rfl (Step.assign rfl) ?_
                  refine WL.nil ?_
                  refine W.ret ?_
                  refine ⟨.inl rfl, (Value.bool true), ?_, ?_⟩
                  · exact ⟨rfl, (Res.r1 (show RV _ _ _ (.tmp 8) (Value.bool true) from by exact rfl))⟩
                  refine ⟨?_, M.close [] rfl (by decide) trivial⟩
                  rfl
                ·
                  have h96p := of_decide_eq_false h96
                  omega
end Go.Proofs
