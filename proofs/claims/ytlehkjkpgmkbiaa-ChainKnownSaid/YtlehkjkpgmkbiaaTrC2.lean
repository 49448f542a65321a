/- Walks. -/
import Derived.Test.YtlehkjkpgmkbiaaTrC1
set_option maxRecDepth 100000
set_option linter.all false
namespace Go.Proofs
open Go Tp
theorem Try.un22 : Und Try.prog 22 (.slice 34) := by unfold Und; kernel_rfl
theorem Try.un41 : Und Try.prog 41 (.slice 51) := by unfold Und; kernel_rfl
theorem Try.ag34 : Aggr Try.prog 34 6 := ⟨fun _ => by kernel_rfl, fun _ => by kernel_rfl⟩
theorem Try.ag51 : Aggr Try.prog 51 6 := ⟨fun _ => by kernel_rfl, fun _ => by kernel_rfl⟩
theorem Try.el34 : Elem Try.prog 34 (Value.agg #[(Value.int .u64 0), (Value.bool false), (Value.int .i64 0), (Value.int .i64 0), (Value.int .i64 0), (Value.int .i64 0)]) 6 48 := Elem.mk (by kernel_rfl)
theorem Try.el51 : Elem Try.prog 51 (Value.agg #[(Value.int .u64 0), (Value.bool false), (Value.int .i64 0), (Value.int .i64 0), (Value.int .i64 0), (Value.int .i64 0)]) 6 48 := Elem.mk (by kernel_rfl)
theorem Try.en15 : Enters Try.prog 15 := fun _ _ => by kernel_rfl
theorem Try.en78 : Enters Try.prog 78 := fun _ _ => by kernel_rfl
theorem Try.en80 : Enters Try.prog 80 := fun _ _ => by kernel_rfl
theorem Try.en86 : Enters Try.prog 86 := fun _ _ => by kernel_rfl
theorem Try.sc22 : Scal Try.prog 22 := fun _ => by kernel_rfl
theorem Try.sc26 : Scal Try.prog 26 := fun _ => by kernel_rfl

theorem clone_ver {G : Nat → Prop} {w : World} (v : Value) (xs : List Ver)  (hb : xs.length * 48 ≤ 140737488355328) (M : Mem G (fun _ => False) w [] [SlAt 6 v xs.length (xs.flatMap verE)] w) : Rets Try.prog 80 #[v] w fun r w' => ∃ (v' : Value), r = v' ∧ Mem G (fun _ => False) w [own 34 6 v' xs.length (xs.flatMap verE)] [] w' := by
  refine Rets.enter 8 _ Try.func80 rfl Try.ntmps80 Try.results80 (by simp) ?_
  have hle1 := SlAt.le' (M.rep 0 rfl)
  have sl2 : IsSl v := SlAt.isSl (Mem.rep M 0 rfl)
  refine W.seq' ?_
  refine W.region rfl ?_
  refine WL.step (v := (Value.slice none 0 0)) rfl (Step.assign rfl) ?_
  refine WL.nil ?_
  refine W.seq' ?_
  refine W.seq' ?_
  refine W.region rfl ?_
  refine WL.step (v := v) rfl (Step.move rfl) ?_
  rcases SlAt.cases (M.rep 0 rfl) with ⟨hn3, hn3z⟩ | ⟨_, _, hn3⟩
  ·
    refine WL.step (v := (Value.bool true)) rfl (Step.eqNil Try.un22 rfl hn3 rfl) ?_
    refine WL.nil ?_
    refine W.cond (t := true) rfl (fun _ => ?_) (fun h => by cases h)
    refine W.seq' ?_
    refine W.region rfl ?_
    refine WL.step (v := (Value.slice none 0 0)) rfl (Step.assign rfl) ?_
    refine WL.nil ?_
    refine W.ret ?_
    refine ⟨.inl rfl, (Value.slice none 0 0), ?_, ?_⟩
    · exact ⟨rfl, (Res.r1 (show RV _ _ _ (.tmp 2) (Value.slice none 0 0) from by exact rfl))⟩
    replace M := M.ownNil 34 6
    have e4 : xs = [] := by
      exact List.eq_nil_of_length_eq_zero hn3z
    replace M : Mem _ _ _ [own 34 6 (Value.slice none 0 0) (([] : List Ver).length) (([] : List Ver).flatMap verE)] [SlAt 6 v xs.length (xs.flatMap verE)] _ := M
    replace M := M.rechunk 0 (c' := own 34 6 (Value.slice none 0 0) xs.length (xs.flatMap verE)) rfl (by rw [e4])
    replace M : Mem _ _ _ [own 34 6 (Value.slice none 0 0) xs.length (xs.flatMap verE)] [SlAt 6 v xs.length (xs.flatMap verE)] _ := M
    refine ⟨(Value.slice none 0 0), ?_, M.close [0] rfl (by decide) trivial⟩
    rfl
  ·
    refine WL.step (v := (Value.bool false)) rfl (Step.eqSome Try.un22 rfl hn3 rfl) ?_
    refine WL.nil ?_
    refine W.cond (t := false) rfl (fun h => by cases h) (fun _ => ?_)
    refine W.skip ?_
    refine W.seq' ?_
    refine W.region rfl ?_
    refine WL.new (obj := .cells #[] 34) (fun b => .slice (some ⟨b, 0, none⟩) 0 0) M rfl (fun w => Step.make (by kernel_rfl)) (fun b5 w6 hb5 M => ?_)
    refine WL.step (v := v) rfl (Step.move rfl) ?_
    replace M := M.ownBlk 0 (n := 0) (size := 6) rfl rfl (by decide)
    replace M : Mem _ _ _ [own 34 6 (Value.slice (some ⟨b5, 0, none⟩) 0 0) (([] : List Ver).length) (([] : List Ver).flatMap verE)] [SlAt 6 v xs.length (xs.flatMap verE)] _ := M
    refine WL.does rfl (M.appendF ([] : List Ver) xs (sv := v) 0 Try.un22 Try.el34 rfl (by decide) rfl rfl rfl (M.rep 0 rfl) verE_cel (by have := trivial; simp only [maxLen, List.length_nil, List.length_cons, List.length_append]; omega) (by have := trivial; (try simp only [List.length_nil, List.length_cons, List.length_append]); omega)) ?_
    rintro v7 w8 M
    replace M : Mem _ _ _ [own 34 6 v7 xs.length (xs.flatMap verE)] [SlAt 6 v xs.length (xs.flatMap verE)] _ := M
    have sl9 : IsSl v7 := SlAt.isSl (own_slAt (M.chunk 0 rfl).inv)
    refine WL.step (v := v7) rfl (Step.assign rfl) ?_
    refine WL.nil ?_
    refine W.ret ?_
    refine ⟨.inl rfl, v7, ?_, ?_⟩
    · exact ⟨rfl, (Res.r1 (show RV _ _ _ (.tmp 2) v7 from by exact rfl))⟩
    refine ⟨v7, ?_, M.close [0] rfl (by decide) trivial⟩
    rfl

theorem ch_right {G : Nat → Prop} {w : World} (v : Value) (l : List Ver)   (M : Mem G (fun _ => False) w [] [SlAt 6 v l.length (l.flatMap verE)] w) : Rets Try.prog 15 #[v] w fun r w' => r = (Value.bool (chainB l)) ∧ Mem G (fun _ => False) w [] [] w' := by
  refine Rets.enter 31 _ Try.func15 rfl Try.ntmps15 Try.results15 (by simp) ?_
  have hle1 := SlAt.le' (M.rep 0 rfl)
  have sl2 : IsSl v := SlAt.isSl (Mem.rep M 0 rfl)
  refine W.seq' ?_
  refine W.region rfl ?_
  refine WL.step (v := (Value.bool false)) rfl (Step.assign rfl) ?_
  refine WL.nil ?_
  refine W.seq' ?_
  refine W.seq' ?_
  refine W.region rfl ?_
  refine WL.step (v := v) rfl (Step.move rfl) ?_
  refine WL.step (v := (Value.int .i64 ↑l.length)) rfl (Step.lenSl Try.un22 rfl (M.rep 0 rfl)) ?_
  refine WL.step (v := (Value.int .i64 0)) rfl (Step.move rfl) ?_
  refine WL.nil ?_
  refine W.block ?_
  refine W.loop (fun kk ρ w' => ∃ (i_ : Nat), ((i_ ≤ l.length) ∧ (chainP (l.take i_)) ∧ kk = l.length - i_) ∧ ρ.has [(0, v), (5, v), (6, (Value.int .i64 ↑l.length)), (7, (Value.int .i64 ↑i_))] ∧ Mem G (fun _ => False) w [] [SlAt 6 v l.length (l.flatMap verE)]  w') _ ⟨0, ⟨(Nat.zero_le _), (by simp [chainP]), rfl⟩, ⟨rfl, rfl, rfl, rfl, rfl, rfl⟩, M⟩ ?_
  rintro _ ρ4 w3 ⟨i_, ⟨hi5, hi6, rfl⟩, hρ, M⟩
  obtain ⟨ρ4, rfl⟩ := hρ.know
  clear hρ
  refine W.seq' ?_
  refine W.region rfl ?_
  refine WL.step (v := (Value.bool (decide ((↑i_ : Int) < (↑l.length : Int))))) rfl (Step.pure (by kernel_rfl)) ?_
  refine WL.nil ?_
  refine W.seq' ?_
  refine W.cond (t := decide ((↑i_ : Int) < (↑l.length : Int))) rfl (fun h7 => ?_) (fun h7 => ?_)
  ·
    have h7p := of_decide_eq_true h7
    refine W.skip ?_
    refine W.seq' ?_
    refine W.block ?_
    refine W.seq' ?_
    refine W.region rfl ?_
    refine WL.step (v := (Value.int .i64 ↑i_)) rfl (Step.move rfl) ?_
    obtain ⟨cap9, hb8⟩ := SlAt.base (M.rep 0 rfl) (by omega)
    obtain ⟨x10, hx10⟩ := elem_of_lt (xs := l) (i := i_) (by omega)
    refine WL.step (v := (Value.pointer (some ⟨(sBlk v), sOff v + i_ * 6, none⟩))) rfl (Step.indexAddr (i := i_) (Try.un22).run Try.el34.sized rfl rfl (by omega) hb8 (by omega)) ?_
    refine WL.step (v := (Value.agg #[(Value.int .u64 x10.epoch), (Value.bool x10.dead), (Value.int .i64 x10.agg.count), (Value.int .i64 x10.agg.sum), (Value.int .i64 x10.agg.min), (Value.int .i64 x10.agg.max)])) rfl (Step.loadEN (k := 0) (cs' := [(Value.int .u64 x10.epoch), (Value.bool x10.dead), (Value.int .i64 x10.agg.count), (Value.int .i64 x10.agg.sum), (Value.int .i64 x10.agg.min), (Value.int .i64 x10.agg.max)]) Try.ag34 (flat_ec (M.rep 0 rfl) hx10 verE_len) (by decide) rfl rfl rfl) ?_
    refine WL.alloc (c := #[(Value.int .u64 0), (Value.bool false), (Value.int .i64 0), (Value.int .i64 0), (Value.int .i64 0), (Value.int .i64 0)]) M rfl Try.el34.zero rfl (fun b11 w12 hb11 M => ?_)
    refine WL.step (v := (Value.int .i64 ↑i_)) rfl (Step.assign rfl) ?_
    refine WL.store (v := (Value.agg #[(Value.int .u64 x10.epoch), (Value.bool x10.dead), (Value.int .i64 x10.agg.count), (Value.int .i64 x10.agg.sum), (Value.int .i64 x10.agg.min), (Value.int .i64 x10.agg.max)])) (cs := [(Value.int .u64 x10.epoch), (Value.bool x10.dead), (Value.int .i64 x10.agg.count), (Value.int .i64 x10.agg.sum), (Value.int .i64 x10.agg.min), (Value.int .i64 x10.agg.max)]) (c' := #[(Value.int .u64 x10.epoch), (Value.bool x10.dead), (Value.int .i64 x10.agg.count), (Value.int .i64 x10.agg.sum), (Value.int .i64 x10.agg.min), (Value.int .i64 x10.agg.max)]) M 0 rfl rfl Try.el34.sized rfl rfl rfl rfl (Nat.le_of_ble_eq_true rfl) (cel_cons rfl (cel_cons rfl (cel_cons rfl (cel_cons rfl (cel_cons rfl (cel_cons rfl cel_nil)))))) rfl rfl (fun w13 M => ?_)
    refine WL.nil ?_
    refine W.seq' ?_
    rcases Bool.eq_false_or_eq_true (!(rightV x10)) with h14 | h14
    ·
      refine W.drawn M [0, 1, 2, 3, 4, 5, 6, 7, 8, 9, 10, 11, 12, 13, 14, 15, 16, 17] [1] [] [blk b11 (.cells #[(Value.int .u64 x10.epoch), (Value.bool x10.dead), (Value.int .i64 x10.agg.count), (Value.int .i64 x10.agg.sum), (Value.int .i64 x10.agg.min), (Value.int .i64 x10.agg.max)] 34)] [SlAt 6 v l.length (l.flatMap verE)] (List.Sublist.cons_cons _ List.Sublist.slnil) (fun _ h => h) Try.mixed (by kernel_rfl) ?_
      refine TW.read (v := (Value.agg #[(Value.int .u64 x10.epoch), (Value.bool x10.dead), (Value.int .i64 x10.agg.count), (Value.int .i64 x10.agg.sum), (Value.int .i64 x10.agg.min), (Value.int .i64 x10.agg.max)])) rfl (by decide) (by decide) rfl (fun A w M => (Step.loadN Try.ag34 rfl (M.blk 1 rfl) (Nat.le_of_ble_eq_true rfl) rfl)) ?_
      refine TW.callX (ι := Unit) (fun jx v_ => v_ = (Value.bool (rightV x10))) (fun jx => [blk b11 (.cells #[(Value.int .u64 x10.epoch), (Value.bool x10.dead), (Value.int .i64 x10.agg.count), (Value.int .i64 x10.agg.sum), (Value.int .i64 x10.agg.min), (Value.int .i64 x10.agg.max)] 34)]) (fun jx => [SlAt 6 v l.length (l.flatMap verE)]) rfl (by decide) rfl (fun jx => (List.Sublist.cons_cons _ List.Sublist.slnil)) (fun jx r h => h) (fun A w M => Rets.mono (ver_right x10 (M.enterW0 trivial)) (fun v_ w_ ⟨e_, m⟩ => ⟨(), e_, (M.leaveW0 m).sel (L' := [fl A, blk b11 (.cells #[(Value.int .u64 x10.epoch), (Value.bool x10.dead), (Value.int .i64 x10.agg.count), (Value.int .i64 x10.agg.sum), (Value.int .i64 x10.agg.min), (Value.int .i64 x10.agg.max)] 34)]) [0, 1] rfl (by decide), fun b hb => M.keptW0 m (fl A) (List.mem_cons_self ..) b hb⟩)) (fun w => CallsF.func Try.en78 rfl) (fun jx v hp hin => ?_)
      replace hp := hp.symm; subst hp
      clear hin
      change TW _ _ _ _ _ _ _ _ (MemA _ _ _ [blk b11 (.cells #[(Value.int .u64 x10.epoch), (Value.bool x10.dead), (Value.int .i64 x10.agg.count), (Value.int .i64 x10.agg.sum), (Value.int .i64 x10.agg.min), (Value.int .i64 x10.agg.max)] 34)] [SlAt 6 v l.length (l.flatMap verE)])
      rw [(show (rightV x10) = false by simpa using h14)]
      refine TW.pure (v := (Value.bool true)) rfl (by decide) (by decide) rfl (fun w => (Step.pure (by kernel_rfl))) ?_
      refine TW.pure (v := (Value.bool true)) rfl (by decide) (by decide) rfl (fun w => (Step.move rfl)) ?_
      refine TW.skip rfl rfl ?_
      refine TW.skip rfl rfl ?_
      refine TW.skip rfl rfl ?_
      refine TW.skip rfl rfl ?_
      refine TW.skip rfl rfl ?_
      refine TW.skip rfl rfl ?_
      refine TW.skip rfl rfl ?_
      refine TW.skip rfl rfl ?_
      refine TW.skip rfl rfl ?_
      refine TW.skip rfl rfl ?_
      refine TW.skip rfl rfl ?_
      refine TW.skip rfl rfl ?_
      refine TW.skip rfl rfl ?_
      refine TW.pure (v := (Value.bool true)) rfl (by decide) (by decide) rfl (fun w => (Step.pick (t := true) rfl rfl)) ?_
      refine TW.done (fun w15 M => ?_)
      refine W.cond (t := true) rfl (fun _ => ?_) (fun h => by cases h)
      refine W.seq' ?_
      refine W.region rfl ?_
      refine WL.step (v := (Value.bool false)) rfl (Step.assign rfl) ?_
      refine WL.nil ?_
      refine W.ret ?_
      refine ⟨.inl rfl, (Value.bool false), ?_, ?_⟩
      · exact ⟨rfl, (Res.r1 (show RV _ _ _ (.tmp 2) (Value.bool false) from by exact rfl))⟩
      refine ⟨?_, M.close [] rfl (by decide) trivial⟩
      refine congrArg Value.bool (Eq.symm ?_)
      exact chain_no hx10 (.inl (by simpa using h14))
    ·
      rcases Bool.eq_false_or_eq_true (decide ((↑i_ : Int) > (0 : Int))) with h16 | h16
      ·
        have h16p := of_decide_eq_true h16
        obtain ⟨x17, hx17⟩ := elem_of_lt (xs := l) (i := i_ - 1) (by omega)
        refine W.drawn M [0, 1, 2, 3, 4, 5, 6, 7, 8, 9, 10, 11, 12, 13, 14, 15, 16, 17] [1] [] [blk b11 (.cells #[(Value.int .u64 x10.epoch), (Value.bool x10.dead), (Value.int .i64 x10.agg.count), (Value.int .i64 x10.agg.sum), (Value.int .i64 x10.agg.min), (Value.int .i64 x10.agg.max)] 34)] [SlAt 6 v l.length (l.flatMap verE)] (List.Sublist.cons_cons _ List.Sublist.slnil) (fun _ h => h) Try.mixed (by kernel_rfl) ?_
        refine TW.read (v := (Value.agg #[(Value.int .u64 x10.epoch), (Value.bool x10.dead), (Value.int .i64 x10.agg.count), (Value.int .i64 x10.agg.sum), (Value.int .i64 x10.agg.min), (Value.int .i64 x10.agg.max)])) rfl (by decide) (by decide) rfl (fun A w M => (Step.loadN Try.ag34 rfl (M.blk 1 rfl) (Nat.le_of_ble_eq_true rfl) rfl)) ?_
        refine TW.callX (ι := Unit) (fun jx v_ => v_ = (Value.bool (rightV x10))) (fun jx => [blk b11 (.cells #[(Value.int .u64 x10.epoch), (Value.bool x10.dead), (Value.int .i64 x10.agg.count), (Value.int .i64 x10.agg.sum), (Value.int .i64 x10.agg.min), (Value.int .i64 x10.agg.max)] 34)]) (fun jx => [SlAt 6 v l.length (l.flatMap verE)]) rfl (by decide) rfl (fun jx => (List.Sublist.cons_cons _ List.Sublist.slnil)) (fun jx r h => h) (fun A w M => Rets.mono (ver_right x10 (M.enterW0 trivial)) (fun v_ w_ ⟨e_, m⟩ => ⟨(), e_, (M.leaveW0 m).sel (L' := [fl A, blk b11 (.cells #[(Value.int .u64 x10.epoch), (Value.bool x10.dead), (Value.int .i64 x10.agg.count), (Value.int .i64 x10.agg.sum), (Value.int .i64 x10.agg.min), (Value.int .i64 x10.agg.max)] 34)]) [0, 1] rfl (by decide), fun b hb => M.keptW0 m (fl A) (List.mem_cons_self ..) b hb⟩)) (fun w => CallsF.func Try.en78 rfl) (fun jx v hp hin => ?_)
        replace hp := hp.symm; subst hp
        clear hin
        change TW _ _ _ _ _ _ _ _ (MemA _ _ _ [blk b11 (.cells #[(Value.int .u64 x10.epoch), (Value.bool x10.dead), (Value.int .i64 x10.agg.count), (Value.int .i64 x10.agg.sum), (Value.int .i64 x10.agg.min), (Value.int .i64 x10.agg.max)] 34)] [SlAt 6 v l.length (l.flatMap verE)])
        rw [(show (rightV x10) = true by simpa using h14)]
        refine TW.pure (v := (Value.bool false)) rfl (by decide) (by decide) rfl (fun w => (Step.pure (by kernel_rfl))) ?_
        refine TW.pure (v := (Value.bool false)) rfl (by decide) (by decide) rfl (fun w => (Step.move rfl)) ?_
        refine TW.pure (v := (Value.int .i64 ↑i_)) rfl (by decide) (by decide) rfl (fun w => (Step.move rfl)) ?_
        refine TW.pure (v := (Value.bool true)) rfl (by decide) (by decide) rfl (fun w => (Step.cast (congrArg Value.bool h16) (Step.pure (by kernel_rfl)))) ?_
        refine TW.pure (v := (Value.bool true)) rfl (by decide) (by decide) rfl (fun w => (Step.move rfl)) ?_
        refine TW.pure (v := v) rfl (by decide) (by decide) rfl (fun w => (Step.move rfl)) ?_
        refine TW.pure (v := (Value.int .i64 ↑i_)) rfl (by decide) (by decide) rfl (fun w => (Step.move rfl)) ?_
        refine TW.pure (v := (Value.int .i64 ((↑i_ : Int) - 1))) rfl (by decide) (by decide) rfl (fun w => (Step.sub rfl rfl (wrap_i64 (by omega)))) ?_
        refine TW.pure (v := (Value.pointer (some ⟨(sBlk v), sOff v + (i_ - 1) * 6, none⟩))) rfl (by decide) (by decide) rfl (fun w => (Step.indexAddr (i := i_ - 1) (Try.un22).run Try.el34.sized rfl rfl (by omega) hb8 (by omega))) ?_
        refine TW.pure (v := (Value.pointer (some ⟨(sBlk v), sOff v + (i_ - 1) * 6, none⟩))) rfl (by decide) (by decide) rfl (fun w => (Step.pure (by kernel_rfl))) ?_
        refine TW.read (v := (Value.int .u64 x17.epoch)) rfl (by decide) (by decide) rfl (fun A w M => (Step.loadE (k := 0) Try.sc23 (flat_ec (M.rep 0 rfl) hx17 verE_len) (by decide) rfl rfl)) ?_
        refine TW.pure (v := (Value.pointer (some ⟨b11, 0, none⟩))) rfl (by decide) (by decide) rfl (fun w => (Step.pure (by kernel_rfl))) ?_
        refine TW.read (v := (Value.int .u64 x10.epoch)) rfl (by decide) (by decide) rfl (fun A w M => (Step.load1 Try.sc23 rfl ((M.cell 1 rfl 0).trans rfl))) ?_
        refine TW.pure (v := (Value.bool (decide ((x17.epoch : Int) ≥ (x10.epoch : Int))))) rfl (by decide) (by decide) rfl (fun w => (Step.pure (by kernel_rfl))) ?_
        refine TW.pure (v := (Value.bool (decide ((x17.epoch : Int) ≥ (x10.epoch : Int))))) rfl (by decide) (by decide) rfl (fun w => (Step.pick (t := true) rfl rfl)) ?_
        refine TW.pure (v := (Value.bool (decide ((x17.epoch : Int) ≥ (x10.epoch : Int))))) rfl (by decide) (by decide) rfl (fun w => (Step.pick (t := false) rfl rfl)) ?_
        refine TW.done (fun w18 M => ?_)
        refine W.cond (t := decide ((x17.epoch : Int) ≥ (x10.epoch : Int))) rfl (fun h19 => ?_) (fun h19 => ?_)
        ·
          have h19p := of_decide_eq_true h19
          refine W.seq' ?_
          refine W.region rfl ?_
          refine WL.step (v := (Value.bool false)) rfl (Step.assign rfl) ?_
          refine WL.nil ?_
          refine W.ret ?_
          refine ⟨.inl rfl, (Value.bool false), ?_, ?_⟩
          · exact ⟨rfl, (Res.r1 (show RV _ _ _ (.tmp 2) (Value.bool false) from by exact rfl))⟩
          refine ⟨?_, M.close [] rfl (by decide) trivial⟩
          refine congrArg Value.bool (Eq.symm ?_)
          exact chain_no hx10 (.inr ⟨_, by omega, hx17, by omega⟩)
        ·
          have h19p := of_decide_eq_false h19
          refine W.skip ?_
          refine W.region rfl ?_
          refine WL.step (v := (Value.int .i64 (↑i_ + 1))) rfl (Step.add rfl rfl (wrap_i64 (by omega))) ?_
          refine WL.step (v := (Value.int .i64 (↑i_ + 1))) rfl (Step.move rfl) ?_
          refine WL.nil ?_
          replace M := M.sel (L' := []) [] rfl (by decide)
          exact ⟨_, (by omega), i_ + 1, ⟨(by omega), (chain_step hi6 hx10 (by simpa using h14) (Or.inr ⟨_, hx17, by omega⟩)), rfl⟩, ⟨rfl, rfl, rfl, rfl, rfl, rfl⟩, M⟩
      ·
        have h16p := of_decide_eq_false h16
        refine W.drawn M [0, 1, 2, 3, 4, 5, 6, 7, 8, 9, 10, 11, 12, 13, 14, 15, 16, 17] [1] [] [blk b11 (.cells #[(Value.int .u64 x10.epoch), (Value.bool x10.dead), (Value.int .i64 x10.agg.count), (Value.int .i64 x10.agg.sum), (Value.int .i64 x10.agg.min), (Value.int .i64 x10.agg.max)] 34)] [SlAt 6 v l.length (l.flatMap verE)] (List.Sublist.cons_cons _ List.Sublist.slnil) (fun _ h => h) Try.mixed (by kernel_rfl) ?_
        refine TW.read (v := (Value.agg #[(Value.int .u64 x10.epoch), (Value.bool x10.dead), (Value.int .i64 x10.agg.count), (Value.int .i64 x10.agg.sum), (Value.int .i64 x10.agg.min), (Value.int .i64 x10.agg.max)])) rfl (by decide) (by decide) rfl (fun A w M => (Step.loadN Try.ag34 rfl (M.blk 1 rfl) (Nat.le_of_ble_eq_true rfl) rfl)) ?_
        refine TW.callX (ι := Unit) (fun jx v_ => v_ = (Value.bool (rightV x10))) (fun jx => [blk b11 (.cells #[(Value.int .u64 x10.epoch), (Value.bool x10.dead), (Value.int .i64 x10.agg.count), (Value.int .i64 x10.agg.sum), (Value.int .i64 x10.agg.min), (Value.int .i64 x10.agg.max)] 34)]) (fun jx => [SlAt 6 v l.length (l.flatMap verE)]) rfl (by decide) rfl (fun jx => (List.Sublist.cons_cons _ List.Sublist.slnil)) (fun jx r h => h) (fun A w M => Rets.mono (ver_right x10 (M.enterW0 trivial)) (fun v_ w_ ⟨e_, m⟩ => ⟨(), e_, (M.leaveW0 m).sel (L' := [fl A, blk b11 (.cells #[(Value.int .u64 x10.epoch), (Value.bool x10.dead), (Value.int .i64 x10.agg.count), (Value.int .i64 x10.agg.sum), (Value.int .i64 x10.agg.min), (Value.int .i64 x10.agg.max)] 34)]) [0, 1] rfl (by decide), fun b hb => M.keptW0 m (fl A) (List.mem_cons_self ..) b hb⟩)) (fun w => CallsF.func Try.en78 rfl) (fun jx v hp hin => ?_)
        replace hp := hp.symm; subst hp
        clear hin
        change TW _ _ _ _ _ _ _ _ (MemA _ _ _ [blk b11 (.cells #[(Value.int .u64 x10.epoch), (Value.bool x10.dead), (Value.int .i64 x10.agg.count), (Value.int .i64 x10.agg.sum), (Value.int .i64 x10.agg.min), (Value.int .i64 x10.agg.max)] 34)] [SlAt 6 v l.length (l.flatMap verE)])
        rw [(show (rightV x10) = true by simpa using h14)]
        refine TW.pure (v := (Value.bool false)) rfl (by decide) (by decide) rfl (fun w => (Step.pure (by kernel_rfl))) ?_
        refine TW.pure (v := (Value.bool false)) rfl (by decide) (by decide) rfl (fun w => (Step.move rfl)) ?_
        refine TW.pure (v := (Value.int .i64 ↑i_)) rfl (by decide) (by decide) rfl (fun w => (Step.move rfl)) ?_
        refine TW.pure (v := (Value.bool false)) rfl (by decide) (by decide) rfl (fun w => (Step.cast (congrArg Value.bool h16) (Step.pure (by kernel_rfl)))) ?_
        refine TW.pure (v := (Value.bool false)) rfl (by decide) (by decide) rfl (fun w => (Step.move rfl)) ?_
        refine TW.skip rfl rfl ?_
        refine TW.skip rfl rfl ?_
        refine TW.skip rfl rfl ?_
        refine TW.skip rfl rfl ?_
        refine TW.skip rfl rfl ?_
        refine TW.skip rfl rfl ?_
        refine TW.skip rfl rfl ?_
        refine TW.skip rfl rfl ?_
        refine TW.skip rfl rfl ?_
        refine TW.pure (v := (Value.bool false)) rfl (by decide) (by decide) rfl (fun w => (Step.pick (t := false) rfl rfl)) ?_
        refine TW.pure (v := (Value.bool false)) rfl (by decide) (by decide) rfl (fun w => (Step.pick (t := false) rfl rfl)) ?_
        refine TW.done (fun w20 M => ?_)
        refine W.cond (t := false) rfl (fun h => by cases h) (fun _ => ?_)
        refine W.skip ?_
        refine W.region rfl ?_
        refine WL.step (v := (Value.int .i64 (↑i_ + 1))) rfl (Step.add rfl rfl (wrap_i64 (by omega))) ?_
        refine WL.step (v := (Value.int .i64 (↑i_ + 1))) rfl (Step.move rfl) ?_
        refine WL.nil ?_
        replace M := M.sel (L' := []) [] rfl (by decide)
        exact ⟨_, (by omega), i_ + 1, ⟨(by omega), (chain_step hi6 hx10 (by simpa using h14) (Or.inl (by omega))), rfl⟩, ⟨rfl, rfl, rfl, rfl, rfl, rfl⟩, M⟩
  ·
    have h7p := of_decide_eq_false h7
    refine W.exit ?_
    refine thn_exit ?_
    refine thn_exit ?_
    refine inBlk_hit ?_
    refine W.seq' ?_
    refine W.region rfl ?_
    refine WL.step (v := (Value.bool true)) rfl (Step.assign rfl) ?_
    refine WL.nil ?_
    refine W.ret ?_
    refine ⟨.inl rfl, (Value.bool true), ?_, ?_⟩
    · exact ⟨rfl, (Res.r1 (show RV _ _ _ (.tmp 2) (Value.bool true) from by exact rfl))⟩
    refine ⟨?_, M.close [] rfl (by decide) trivial⟩
    refine congrArg Value.bool (Eq.symm ?_)
    exact chain_yes hi6 (by omega)

theorem rf_right {G : Nat → Prop} {w : World} (v : Value) (l : List Ver)   (M : Mem G (fun _ => False) w [] [SlAt 6 v l.length (l.flatMap verE)] w) : Rets Try.prog 24 #[v] w fun r w' => r = (Value.bool (chainB l)) ∧ Mem G (fun _ => False) w [] [] w' := by
  refine Rets.enter 34 _ Try.func24 rfl Try.ntmps24 Try.results24 (by simp) ?_
  have hle1 := SlAt.le' (M.rep 0 rfl)
  have sl2 : IsSl v := SlAt.isSl (Mem.rep M 0 rfl)
  refine W.seq' ?_
  refine W.region rfl ?_
  refine WL.step (v := (Value.bool false)) rfl (Step.assign rfl) ?_
  refine WL.nil ?_
  refine W.seq' ?_
  refine W.seq' ?_
  refine W.region rfl ?_
  refine WL.step (v := (Value.int .i64 0)) rfl (Step.assign rfl) ?_
  refine WL.nil ?_
  refine W.block ?_
  refine W.loop (fun kk ρ w' => ∃ (i_ : Nat), ((i_ ≤ l.length) ∧ (chainP (l.take i_)) ∧ kk = l.length - i_) ∧ ρ.has [(0, v), (3, (Value.int .i64 ↑i_))] ∧ Mem G (fun _ => False) w [] [SlAt 6 v l.length (l.flatMap verE)]  w') _ ⟨0, ⟨(Nat.zero_le _), (by simp [chainP]), rfl⟩, ⟨rfl, rfl, rfl, rfl⟩, M⟩ ?_
  rintro _ ρ4 w3 ⟨i_, ⟨hi5, hi6, rfl⟩, hρ, M⟩
  obtain ⟨ρ4, rfl⟩ := hρ.know
  clear hρ
  refine W.seq' ?_
  refine W.seq' ?_
  refine W.region rfl ?_
  refine WL.step (v := (Value.int .i64 ↑i_)) rfl (Step.move rfl) ?_
  refine WL.step (v := v) rfl (Step.move rfl) ?_
  refine WL.step (v := (Value.int .i64 ↑l.length)) rfl (Step.lenSl Try.un41 rfl (M.rep 0 rfl)) ?_
  refine WL.step (v := (Value.bool (decide ((↑i_ : Int) < (↑l.length : Int))))) rfl (Step.pure (by kernel_rfl)) ?_
  refine WL.nil ?_
  refine W.cond (t := decide ((↑i_ : Int) < (↑l.length : Int))) rfl (fun h7 => ?_) (fun h7 => ?_)
  ·
    have h7p := of_decide_eq_true h7
    refine W.skip ?_
    refine W.seq' ?_
    refine W.block ?_
    refine W.seq' ?_
    obtain ⟨cap9, hb8⟩ := SlAt.base (M.rep 0 rfl) (by omega)
    obtain ⟨x10, hx10⟩ := elem_of_lt (xs := l) (i := i_) (by omega)
    rcases Bool.eq_false_or_eq_true (!(rightV x10)) with h11 | h11
    ·
      refine W.drawn M [0, 1, 2, 3, 4, 5, 6, 7, 8, 9, 10, 11, 12, 13, 14, 15, 16, 17, 18, 19, 20, 21, 22, 23] [4] [] [] [SlAt 6 v l.length (l.flatMap verE)] List.Sublist.slnil (fun _ h => h) Try.mixed (by kernel_rfl) ?_
      refine TW.pure (v := v) rfl (by decide) (by decide) rfl (fun w => (Step.move rfl)) ?_
      refine TW.pure (v := (Value.int .i64 ↑i_)) rfl (by decide) (by decide) rfl (fun w => (Step.move rfl)) ?_
      refine TW.pure (v := (Value.pointer (some ⟨(sBlk v), sOff v + i_ * 6, none⟩))) rfl (by decide) (by decide) rfl (fun w => (Step.indexAddr (i := i_) (Try.un41).run Try.el51.sized rfl rfl (by omega) hb8 (by omega))) ?_
      refine TW.read (v := (Value.agg #[(Value.int .u64 x10.epoch), (Value.bool x10.dead), (Value.int .i64 x10.agg.count), (Value.int .i64 x10.agg.sum), (Value.int .i64 x10.agg.min), (Value.int .i64 x10.agg.max)])) rfl (by decide) (by decide) rfl (fun A w M => (Step.loadEN (k := 0) (cs' := [(Value.int .u64 x10.epoch), (Value.bool x10.dead), (Value.int .i64 x10.agg.count), (Value.int .i64 x10.agg.sum), (Value.int .i64 x10.agg.min), (Value.int .i64 x10.agg.max)]) Try.ag51 (flat_ec (M.rep 0 rfl) hx10 verE_len) (by decide) rfl rfl rfl)) ?_
      refine TW.callX (ι := Unit) (fun jx v_ => v_ = (Value.bool (rightV x10))) (fun jx => []) (fun jx => [SlAt 6 v l.length (l.flatMap verE)]) rfl (by decide) rfl (fun jx => List.Sublist.slnil) (fun jx r h => h) (fun A w M => Rets.mono (ref_right1 x10 (M.enterW0 trivial)) (fun v_ w_ ⟨e_, m⟩ => ⟨(), e_, (M.leaveW0 m).sel (L' := [fl A]) [0] rfl (by decide), fun b hb => M.keptW0 m (fl A) (List.mem_cons_self ..) b hb⟩)) (fun w => CallsF.func Try.en86 rfl) (fun jx v hp hin => ?_)
      replace hp := hp.symm; subst hp
      clear hin
      change TW _ _ _ _ _ _ _ _ (MemA _ _ _ [] [SlAt 6 v l.length (l.flatMap verE)])
      rw [(show (rightV x10) = false by simpa using h11)]
      refine TW.pure (v := (Value.bool true)) rfl (by decide) (by decide) rfl (fun w => (Step.pure (by kernel_rfl))) ?_
      refine TW.pure (v := (Value.bool true)) rfl (by decide) (by decide) rfl (fun w => (Step.move rfl)) ?_
      refine TW.skip rfl rfl ?_
      refine TW.skip rfl rfl ?_
      refine TW.skip rfl rfl ?_
      refine TW.skip rfl rfl ?_
      refine TW.skip rfl rfl ?_
      refine TW.skip rfl rfl ?_
      refine TW.skip rfl rfl ?_
      refine TW.skip rfl rfl ?_
      refine TW.skip rfl rfl ?_
      refine TW.skip rfl rfl ?_
      refine TW.skip rfl rfl ?_
      refine TW.skip rfl rfl ?_
      refine TW.skip rfl rfl ?_
      refine TW.skip rfl rfl ?_
      refine TW.skip rfl rfl ?_
      refine TW.skip rfl rfl ?_
      refine TW.pure (v := (Value.bool true)) rfl (by decide) (by decide) rfl (fun w => (Step.pick (t := true) rfl rfl)) ?_
      refine TW.done (fun w12 M => ?_)
      refine W.cond (t := true) rfl (fun _ => ?_) (fun h => by cases h)
      refine W.seq' ?_
      refine W.region rfl ?_
      refine WL.step (v := (Value.bool false)) rfl (Step.assign rfl) ?_
      refine WL.nil ?_
      refine W.ret ?_
      refine ⟨.inl rfl, (Value.bool false), ?_, ?_⟩
      · exact ⟨rfl, (Res.r1 (show RV _ _ _ (.tmp 2) (Value.bool false) from by exact rfl))⟩
      refine ⟨?_, M.close [] rfl (by decide) trivial⟩
      refine congrArg Value.bool (Eq.symm ?_)
      exact chain_no hx10 (.inl (by simpa using h11))
    ·
      rcases Bool.eq_false_or_eq_true (decide ((↑i_ : Int) > (0 : Int))) with h13 | h13
      ·
        have h13p := of_decide_eq_true h13
        obtain ⟨x14, hx14⟩ := elem_of_lt (xs := l) (i := i_ - 1) (by omega)
        refine W.drawn M [0, 1, 2, 3, 4, 5, 6, 7, 8, 9, 10, 11, 12, 13, 14, 15, 16, 17, 18, 19, 20, 21, 22, 23] [4] [] [] [SlAt 6 v l.length (l.flatMap verE)] List.Sublist.slnil (fun _ h => h) Try.mixed (by kernel_rfl) ?_
        refine TW.pure (v := v) rfl (by decide) (by decide) rfl (fun w => (Step.move rfl)) ?_
        refine TW.pure (v := (Value.int .i64 ↑i_)) rfl (by decide) (by decide) rfl (fun w => (Step.move rfl)) ?_
        refine TW.pure (v := (Value.pointer (some ⟨(sBlk v), sOff v + i_ * 6, none⟩))) rfl (by decide) (by decide) rfl (fun w => (Step.indexAddr (i := i_) (Try.un41).run Try.el51.sized rfl rfl (by omega) hb8 (by omega))) ?_
        refine TW.read (v := (Value.agg #[(Value.int .u64 x10.epoch), (Value.bool x10.dead), (Value.int .i64 x10.agg.count), (Value.int .i64 x10.agg.sum), (Value.int .i64 x10.agg.min), (Value.int .i64 x10.agg.max)])) rfl (by decide) (by decide) rfl (fun A w M => (Step.loadEN (k := 0) (cs' := [(Value.int .u64 x10.epoch), (Value.bool x10.dead), (Value.int .i64 x10.agg.count), (Value.int .i64 x10.agg.sum), (Value.int .i64 x10.agg.min), (Value.int .i64 x10.agg.max)]) Try.ag51 (flat_ec (M.rep 0 rfl) hx10 verE_len) (by decide) rfl rfl rfl)) ?_
        refine TW.callX (ι := Unit) (fun jx v_ => v_ = (Value.bool (rightV x10))) (fun jx => []) (fun jx => [SlAt 6 v l.length (l.flatMap verE)]) rfl (by decide) rfl (fun jx => List.Sublist.slnil) (fun jx r h => h) (fun A w M => Rets.mono (ref_right1 x10 (M.enterW0 trivial)) (fun v_ w_ ⟨e_, m⟩ => ⟨(), e_, (M.leaveW0 m).sel (L' := [fl A]) [0] rfl (by decide), fun b hb => M.keptW0 m (fl A) (List.mem_cons_self ..) b hb⟩)) (fun w => CallsF.func Try.en86 rfl) (fun jx v hp hin => ?_)
        replace hp := hp.symm; subst hp
        clear hin
        change TW _ _ _ _ _ _ _ _ (MemA _ _ _ [] [SlAt 6 v l.length (l.flatMap verE)])
        rw [(show (rightV x10) = true by simpa using h11)]
        refine TW.pure (v := (Value.bool false)) rfl (by decide) (by decide) rfl (fun w => (Step.pure (by kernel_rfl))) ?_
        refine TW.pure (v := (Value.bool false)) rfl (by decide) (by decide) rfl (fun w => (Step.move rfl)) ?_
        refine TW.pure (v := (Value.int .i64 ↑i_)) rfl (by decide) (by decide) rfl (fun w => (Step.move rfl)) ?_
        refine TW.pure (v := (Value.bool true)) rfl (by decide) (by decide) rfl (fun w => (Step.cast (congrArg Value.bool h13) (Step.pure (by kernel_rfl)))) ?_
        refine TW.pure (v := (Value.bool true)) rfl (by decide) (by decide) rfl (fun w => (Step.move rfl)) ?_
        refine TW.pure (v := v) rfl (by decide) (by decide) rfl (fun w => (Step.move rfl)) ?_
        refine TW.pure (v := (Value.int .i64 ↑i_)) rfl (by decide) (by decide) rfl (fun w => (Step.move rfl)) ?_
        refine TW.pure (v := (Value.pointer (some ⟨(sBlk v), sOff v + i_ * 6, none⟩))) rfl (by decide) (by decide) rfl (fun w => (Step.indexAddr (i := i_) (Try.un41).run Try.el51.sized rfl rfl (by omega) hb8 (by omega))) ?_
        refine TW.pure (v := (Value.pointer (some ⟨(sBlk v), sOff v + i_ * 6, none⟩))) rfl (by decide) (by decide) rfl (fun w => (Step.pure (by kernel_rfl))) ?_
        refine TW.read (v := (Value.int .u64 x10.epoch)) rfl (by decide) (by decide) rfl (fun A w M => (Step.loadE (k := 0) Try.sc23 (flat_ec (M.rep 0 rfl) hx10 verE_len) (by decide) rfl rfl)) ?_
        refine TW.pure (v := v) rfl (by decide) (by decide) rfl (fun w => (Step.move rfl)) ?_
        refine TW.pure (v := (Value.int .i64 ↑i_)) rfl (by decide) (by decide) rfl (fun w => (Step.move rfl)) ?_
        refine TW.pure (v := (Value.int .i64 ((↑i_ : Int) - 1))) rfl (by decide) (by decide) rfl (fun w => (Step.sub rfl rfl (wrap_i64 (by omega)))) ?_
        refine TW.pure (v := (Value.pointer (some ⟨(sBlk v), sOff v + (i_ - 1) * 6, none⟩))) rfl (by decide) (by decide) rfl (fun w => (Step.indexAddr (i := i_ - 1) (Try.un41).run Try.el51.sized rfl rfl (by omega) hb8 (by omega))) ?_
        refine TW.pure (v := (Value.pointer (some ⟨(sBlk v), sOff v + (i_ - 1) * 6, none⟩))) rfl (by decide) (by decide) rfl (fun w => (Step.pure (by kernel_rfl))) ?_
        refine TW.read (v := (Value.int .u64 x14.epoch)) rfl (by decide) (by decide) rfl (fun A w M => (Step.loadE (k := 0) Try.sc23 (flat_ec (M.rep 0 rfl) hx14 verE_len) (by decide) rfl rfl)) ?_
        refine TW.pure (v := (Value.bool (decide ((x10.epoch : Int) ≤ (x14.epoch : Int))))) rfl (by decide) (by decide) rfl (fun w => (Step.pure (by kernel_rfl))) ?_
        refine TW.pure (v := (Value.bool (decide ((x10.epoch : Int) ≤ (x14.epoch : Int))))) rfl (by decide) (by decide) rfl (fun w => (Step.pick (t := true) rfl rfl)) ?_
        refine TW.pure (v := (Value.bool (decide ((x10.epoch : Int) ≤ (x14.epoch : Int))))) rfl (by decide) (by decide) rfl (fun w => (Step.pick (t := false) rfl rfl)) ?_
        refine TW.done (fun w15 M => ?_)
        refine W.cond (t := decide ((x10.epoch : Int) ≤ (x14.epoch : Int))) rfl (fun h16 => ?_) (fun h16 => ?_)
        ·
          have h16p := of_decide_eq_true h16
          refine W.seq' ?_
          refine W.region rfl ?_
          refine WL.step (v := (Value.bool false)) rfl (Step.assign rfl) ?_
          refine WL.nil ?_
          refine W.ret ?_
          refine ⟨.inl rfl, (Value.bool false), ?_, ?_⟩
          · exact ⟨rfl, (Res.r1 (show RV _ _ _ (.tmp 2) (Value.bool false) from by exact rfl))⟩
          refine ⟨?_, M.close [] rfl (by decide) trivial⟩
          refine congrArg Value.bool (Eq.symm ?_)
          exact chain_no hx10 (.inr ⟨_, by omega, hx14, by omega⟩)
        ·
          have h16p := of_decide_eq_false h16
          refine W.skip ?_
          refine W.region rfl ?_
          refine WL.step (v := (Value.int .i64 ↑i_)) rfl (Step.move rfl) ?_
          refine WL.step (v := (Value.int .i64 (↑i_ + 1))) rfl (Step.add rfl rfl (wrap_i64 (by omega))) ?_
          refine WL.step (v := (Value.int .i64 (↑i_ + 1))) rfl (Step.assign rfl) ?_
          refine WL.nil ?_
          exact ⟨_, (by omega), i_ + 1, ⟨(by omega), (chain_step hi6 hx10 (by simpa using h11) (Or.inr ⟨_, hx14, by omega⟩)), rfl⟩, ⟨rfl, rfl, rfl, rfl⟩, M⟩
      ·
        have h13p := of_decide_eq_false h13
        refine W.drawn M [0, 1, 2, 3, 4, 5, 6, 7, 8, 9, 10, 11, 12, 13, 14, 15, 16, 17, 18, 19, 20, 21, 22, 23] [4] [] [] [SlAt 6 v l.length (l.flatMap verE)] List.Sublist.slnil (fun _ h => h) Try.mixed (by kernel_rfl) ?_
        refine TW.pure (v := v) rfl (by decide) (by decide) rfl (fun w => (Step.move rfl)) ?_
        refine TW.pure (v := (Value.int .i64 ↑i_)) rfl (by decide) (by decide) rfl (fun w => (Step.move rfl)) ?_
        refine TW.pure (v := (Value.pointer (some ⟨(sBlk v), sOff v + i_ * 6, none⟩))) rfl (by decide) (by decide) rfl (fun w => (Step.indexAddr (i := i_) (Try.un41).run Try.el51.sized rfl rfl (by omega) hb8 (by omega))) ?_
        refine TW.read (v := (Value.agg #[(Value.int .u64 x10.epoch), (Value.bool x10.dead), (Value.int .i64 x10.agg.count), (Value.int .i64 x10.agg.sum), (Value.int .i64 x10.agg.min), (Value.int .i64 x10.agg.max)])) rfl (by decide) (by decide) rfl (fun A w M => (Step.loadEN (k := 0) (cs' := [(Value.int .u64 x10.epoch), (Value.bool x10.dead), (Value.int .i64 x10.agg.count), (Value.int .i64 x10.agg.sum), (Value.int .i64 x10.agg.min), (Value.int .i64 x10.agg.max)]) Try.ag51 (flat_ec (M.rep 0 rfl) hx10 verE_len) (by decide) rfl rfl rfl)) ?_
        refine TW.callX (ι := Unit) (fun jx v_ => v_ = (Value.bool (rightV x10))) (fun jx => []) (fun jx => [SlAt 6 v l.length (l.flatMap verE)]) rfl (by decide) rfl (fun jx => List.Sublist.slnil) (fun jx r h => h) (fun A w M => Rets.mono (ref_right1 x10 (M.enterW0 trivial)) (fun v_ w_ ⟨e_, m⟩ => ⟨(), e_, (M.leaveW0 m).sel (L' := [fl A]) [0] rfl (by decide), fun b hb => M.keptW0 m (fl A) (List.mem_cons_self ..) b hb⟩)) (fun w => CallsF.func Try.en86 rfl) (fun jx v hp hin => ?_)
        replace hp := hp.symm; subst hp
        clear hin
        change TW _ _ _ _ _ _ _ _ (MemA _ _ _ [] [SlAt 6 v l.length (l.flatMap verE)])
        rw [(show (rightV x10) = true by simpa using h11)]
        refine TW.pure (v := (Value.bool false)) rfl (by decide) (by decide) rfl (fun w => (Step.pure (by kernel_rfl))) ?_
        refine TW.pure (v := (Value.bool false)) rfl (by decide) (by decide) rfl (fun w => (Step.move rfl)) ?_
        refine TW.pure (v := (Value.int .i64 ↑i_)) rfl (by decide) (by decide) rfl (fun w => (Step.move rfl)) ?_
        refine TW.pure (v := (Value.bool false)) rfl (by decide) (by decide) rfl (fun w => (Step.cast (congrArg Value.bool h13) (Step.pure (by kernel_rfl)))) ?_
        refine TW.pure (v := (Value.bool false)) rfl (by decide) (by decide) rfl (fun w => (Step.move rfl)) ?_
        refine TW.skip rfl rfl ?_
        refine TW.skip rfl rfl ?_
        refine TW.skip rfl rfl ?_
        refine TW.skip rfl rfl ?_
        refine TW.skip rfl rfl ?_
        refine TW.skip rfl rfl ?_
        refine TW.skip rfl rfl ?_
        refine TW.skip rfl rfl ?_
        refine TW.skip rfl rfl ?_
        refine TW.skip rfl rfl ?_
        refine TW.skip rfl rfl ?_
        refine TW.skip rfl rfl ?_
        refine TW.pure (v := (Value.bool false)) rfl (by decide) (by decide) rfl (fun w => (Step.pick (t := false) rfl rfl)) ?_
        refine TW.pure (v := (Value.bool false)) rfl (by decide) (by decide) rfl (fun w => (Step.pick (t := false) rfl rfl)) ?_
        refine TW.done (fun w17 M => ?_)
        refine W.cond (t := false) rfl (fun h => by cases h) (fun _ => ?_)
        refine W.skip ?_
        refine W.region rfl ?_
        refine WL.step (v := (Value.int .i64 ↑i_)) rfl (Step.move rfl) ?_
        refine WL.step (v := (Value.int .i64 (↑i_ + 1))) rfl (Step.add rfl rfl (wrap_i64 (by omega))) ?_
        refine WL.step (v := (Value.int .i64 (↑i_ + 1))) rfl (Step.assign rfl) ?_
        refine WL.nil ?_
        exact ⟨_, (by omega), i_ + 1, ⟨(by omega), (chain_step hi6 hx10 (by simpa using h11) (Or.inl (by omega))), rfl⟩, ⟨rfl, rfl, rfl, rfl⟩, M⟩
  ·
    have h7p := of_decide_eq_false h7
    refine W.exit ?_
    refine thn_exit ?_
    refine thn_exit ?_
    refine inBlk_hit ?_
    refine W.seq' ?_
    refine W.region rfl ?_
    refine WL.step (v := (Value.bool true)) rfl (Step.assign rfl) ?_
    refine WL.nil ?_
    refine W.ret ?_
    refine ⟨.inl rfl, (Value.bool true), ?_, ?_⟩
    · exact ⟨rfl, (Res.r1 (show RV _ _ _ (.tmp 2) (Value.bool true) from by exact rfl))⟩
    refine ⟨?_, M.close [] rfl (by decide) trivial⟩
    refine congrArg Value.bool (Eq.symm ?_)
    exact chain_yes hi6 (by omega)

theorem ch_of {G : Nat → Prop} {w : World} (v : Value) (l : List Ver)  (hb : l.length ≤ 1000000) (hc : chainB l = true) (M : Mem G (fun _ => False) w [] [SlAt 6 v l.length (l.flatMap verE)] w) : Rets Try.prog 17 #[v] w fun r w' => ∃ (cb' : Nat) (v' : Value), r = (Value.tuple #[(Value.pointer (some ⟨cb', 0, none⟩)), (Value.int .i64 0)]) ∧ Mem G (fun _ => False) w [blk cb' (.cells #[v'] 135), own 34 6 v' l.length (l.flatMap verE)] [] w' := by
  refine Rets.enter 11 _ Try.func17 rfl Try.ntmps17 Try.results17 (by simp) ?_
  have hle1 := SlAt.le' (M.rep 0 rfl)
  have sl2 : IsSl v := SlAt.isSl (Mem.rep M 0 rfl)
  refine W.seq' ?_
  refine W.region rfl ?_
  refine WL.step (v := (Value.pointer none)) rfl (Step.assign rfl) ?_
  refine WL.step (v := (Value.int .i64 0)) rfl (Step.assign rfl) ?_
  refine WL.nil ?_
  refine W.seq' ?_
  refine W.seq' ?_
  refine W.region rfl ?_
  refine WL.step (v := v) rfl (Step.move rfl) ?_
  refine WL.callX rfl (ch_right v l (M.enterW0 ⟨(M.wideR0 0 rfl), trivial⟩)) (CallsF.func Try.en15 rfl) ?_
  rintro _ w3 ⟨rfl, m⟩
  replace M := M.leaveW0 m
  clear m
  replace M : Mem _ _ _ [] [SlAt 6 v l.length (l.flatMap verE)] _ := M
  rw [hc]
  refine WL.step (v := (Value.bool false)) rfl (Step.pure (by kernel_rfl)) ?_
  refine WL.nil ?_
  refine W.cond (t := false) rfl (fun h => by cases h) (fun _ => ?_)
  refine W.skip ?_
  refine W.seq' ?_
  refine W.region rfl ?_
  refine WL.step (v := v) rfl (Step.move rfl) ?_
  refine WL.callX rfl (clone_ver v l (by omega) (M.enterW0 ⟨(M.wideR0 0 rfl), trivial⟩)) (CallsF.func Try.en80 rfl) ?_
  rintro v4 w5 ⟨_, rfl, m⟩
  replace M := M.leaveW0 m
  clear m
  replace M : Mem _ _ _ [own 34 6 v4 l.length (l.flatMap verE)] [SlAt 6 v l.length (l.flatMap verE)] _ := M
  have sl6 : IsSl v4 := SlAt.isSl (own_slAt (Mem.chunk M 0 rfl).inv)
  have hle7 := SlAt.le' (own_slAt (Mem.chunk M 0 rfl).inv)
  refine WL.step (v := (Value.agg #[v4])) rfl (by obtain ⟨_, _, _, e⟩ := sl6; subst e; exact (Step.pure (by kernel_rfl))) ?_
  refine WL.box (v := (Value.agg #[v4])) (c := #[v4]) M rfl rfl rfl (fun b8 w9 hb8 M => ?_)
  refine WL.step (v := (Value.pointer (some ⟨b8, 0, none⟩))) rfl (Step.assign rfl) ?_
  refine WL.step (v := (Value.int .i64 0)) rfl (Step.assign rfl) ?_
  refine WL.nil ?_
  refine W.ret ?_
  refine ⟨.inl rfl, (Value.tuple #[(Value.pointer (some ⟨b8, 0, none⟩)), (Value.int .i64 0)]), ?_, ?_⟩
  · exact ⟨rfl, (Res.r2 (show RV _ _ _ (.tmp 2) (Value.pointer (some ⟨b8, 0, none⟩)) from by exact rfl) (show RV _ _ _ (.tmp 3) (Value.int .i64 0) from by exact rfl))⟩
  refine ⟨b8, v4, ?_, M.close [0, 1] rfl (by decide) trivial⟩
  rfl

theorem ch_ofno {G : Nat → Prop} {w : World} (v : Value) (l : List Ver)  (hc : chainB l = false) (M : Mem G (fun _ => False) w [] [SlAt 6 v l.length (l.flatMap verE)] w) : Rets Try.prog 17 #[v] w fun r w' => r = (Value.tuple #[(Value.pointer none), (Value.int .i64 2)]) ∧ Mem G (fun _ => False) w [] [] w' := by
  refine Rets.enter 11 _ Try.func17 rfl Try.ntmps17 Try.results17 (by simp) ?_
  have hle1 := SlAt.le' (M.rep 0 rfl)
  have sl2 : IsSl v := SlAt.isSl (Mem.rep M 0 rfl)
  refine W.seq' ?_
  refine W.region rfl ?_
  refine WL.step (v := (Value.pointer none)) rfl (Step.assign rfl) ?_
  refine WL.step (v := (Value.int .i64 0)) rfl (Step.assign rfl) ?_
  refine WL.nil ?_
  refine W.seq' ?_
  refine W.seq' ?_
  refine W.region rfl ?_
  refine WL.step (v := v) rfl (Step.move rfl) ?_
  refine WL.callX rfl (ch_right v l (M.enterW0 ⟨(M.wideR0 0 rfl), trivial⟩)) (CallsF.func Try.en15 rfl) ?_
  rintro _ w3 ⟨rfl, m⟩
  replace M := M.leaveW0 m
  clear m
  replace M : Mem _ _ _ [] [SlAt 6 v l.length (l.flatMap verE)] _ := M
  rw [hc]
  refine WL.step (v := (Value.bool true)) rfl (Step.pure (by kernel_rfl)) ?_
  refine WL.nil ?_
  refine W.cond (t := true) rfl (fun _ => ?_) (fun h => by cases h)
  refine W.seq' ?_
  refine W.region rfl ?_
  refine WL.step (v := (Value.pointer none)) rfl (Step.assign rfl) ?_
  refine WL.step (v := (Value.int .i64 2)) rfl (Step.assign rfl) ?_
  refine WL.nil ?_
  refine W.ret ?_
  refine ⟨.inl rfl, (Value.tuple #[(Value.pointer none), (Value.int .i64 2)]), ?_, ?_⟩
  · exact ⟨rfl, (Res.r2 (show RV _ _ _ (.tmp 2) (Value.pointer none) from by exact rfl) (show RV _ _ _ (.tmp 3) (Value.int .i64 2) from by exact rfl))⟩
  refine ⟨?_, M.close [] rfl (by decide) trivial⟩
  rfl

theorem ch_all {G : Nat → Prop} {w : World} (cb : Nat)   (M : Mem G (fun _ => False) w [] [] w) : Rets Try.prog 81 #[(Value.pointer (some ⟨cb, 0, none⟩))] w fun r w' => ∃ (pb' : Nat), r = (Value.func (.func 124) #[] #[(Value.pointer (some ⟨pb', 0, none⟩))]) ∧ Mem G (fun _ => False) w [blk pb' (.cells #[(Value.pointer (some ⟨cb, 0, none⟩))] 26)] [] w' := by
  refine Rets.enter 4 _ Try.func81 rfl Try.ntmps81 Try.results81 (by simp) ?_
  refine W.seq' ?_
  refine W.region rfl ?_
  refine WL.box (v := (Value.pointer (some ⟨cb, 0, none⟩))) (c := #[(Value.pointer (some ⟨cb, 0, none⟩))]) M rfl rfl rfl (fun b1 w2 hb1 M => ?_)
  refine WL.step (v := Value.nilFunc) rfl (Step.assign rfl) ?_
  refine WL.nil ?_
  refine W.seq' ?_
  refine W.region rfl ?_
  refine WL.step (v := (Value.func (.func 124) #[] #[(Value.pointer (some ⟨b1, 0, none⟩))])) rfl (Step.pure (by kernel_rfl)) ?_
  refine WL.step (v := (Value.func (.func 124) #[] #[(Value.pointer (some ⟨b1, 0, none⟩))])) rfl (Step.assign rfl) ?_
  refine WL.nil ?_
  refine W.ret ?_
  refine ⟨.inl rfl, (Value.func (.func 124) #[] #[(Value.pointer (some ⟨b1, 0, none⟩))]), ?_, ?_⟩
  · exact ⟨rfl, (Res.r1 (show RV _ _ _ (.tmp 2) (Value.func (.func 124) #[] #[(Value.pointer (some ⟨b1, 0, none⟩))]) from by exact rfl))⟩
  refine ⟨b1, ?_, M.close [0] rfl (by decide) trivial⟩
  rfl

theorem ch_alln {G : Nat → Prop} {w : World}    (M : Mem G (fun _ => False) w [] [] w) : Rets Try.prog 81 #[(Value.pointer none)] w fun r w' => ∃ (pb' : Nat), r = (Value.func (.func 124) #[] #[(Value.pointer (some ⟨pb', 0, none⟩))]) ∧ Mem G (fun _ => False) w [blk pb' (.cells #[(Value.pointer none)] 26)] [] w' := by
  refine Rets.enter 4 _ Try.func81 rfl Try.ntmps81 Try.results81 (by simp) ?_
  refine W.seq' ?_
  refine W.region rfl ?_
  refine WL.box (v := (Value.pointer none)) (c := #[(Value.pointer none)]) M rfl rfl rfl (fun b1 w2 hb1 M => ?_)
  refine WL.step (v := Value.nilFunc) rfl (Step.assign rfl) ?_
  refine WL.nil ?_
  refine W.seq' ?_
  refine W.region rfl ?_
  refine WL.step (v := (Value.func (.func 124) #[] #[(Value.pointer (some ⟨b1, 0, none⟩))])) rfl (Step.pure (by kernel_rfl)) ?_
  refine WL.step (v := (Value.func (.func 124) #[] #[(Value.pointer (some ⟨b1, 0, none⟩))])) rfl (Step.assign rfl) ?_
  refine WL.nil ?_
  refine W.ret ?_
  refine ⟨.inl rfl, (Value.func (.func 124) #[] #[(Value.pointer (some ⟨b1, 0, none⟩))]), ?_, ?_⟩
  · exact ⟨rfl, (Res.r1 (show RV _ _ _ (.tmp 2) (Value.func (.func 124) #[] #[(Value.pointer (some ⟨b1, 0, none⟩))]) from by exact rfl))⟩
  refine ⟨b1, ?_, M.close [0] rfl (by decide) trivial⟩
  rfl

theorem ch_all1 {G X : Nat → Prop} {w : World} (y : Value) (pb : Nat) (cb : Nat) (v : Value) (xs : List Ver)   {ι : Type} (C D : Nat → ι → Chunk) (q0_ : ι) (rf : World → Prop) (hy : ∀ (k : Nat) (i : ι) (x : Ver) (w : World), xs[k]? = some x → Mem (avoid [C k i]) (Foots [C k i]) w [C k i] [rf] w → RetsV Try.prog y #[.int .i64 (k : Int), verV x] w fun r w' => (r = .bool true ∧ ∃ i', Mem (avoid [C k i]) (Foots [C k i]) w [C (k + 1) i'] [] w') ∨ (r = .bool false ∧ ∃ i', Mem (avoid [C k i]) (Foots [C k i]) w [D k i'] [] w')) (M : Mem G X w [C 0 q0_] [(fun w => w.heap[pb]? = some (.cells #[(Value.pointer (some ⟨cb, 0, none⟩))] 26)), (fun w => w.heap[cb]? = some (.cells #[v] 135)), SlAt 6 v xs.length (xs.flatMap verE), rf] w) : Rets Try.prog 124 #[y, (Value.pointer (some ⟨pb, 0, none⟩))] w fun r w' => (∃ q_, Mem G X w [C xs.length q_] [] w') ∨ ∃ (k_ : Nat) (q_ : ι) (x_ : Ver), xs[k_]? = some x_ ∧ Mem G X w [D k_ q_] [] w' := by
  refine Rets.enter 23 _ Try.func124 rfl Try.ntmps124 Try.results124 (by simp) ?_
  have hle1 := SlAt.le' (M.rep 2 rfl)
  have sl2 : IsSl v := SlAt.isSl (Mem.rep M 2 rfl)
  refine W.seq' ?_
  refine W.seq' ?_
  refine W.region rfl ?_
  refine WL.step (v := (Value.pointer (some ⟨cb, 0, none⟩))) rfl (Step.load1 Try.sc26 rfl ((cell_blk (M.rep 0 rfl) 0).trans rfl)) ?_
  refine WL.step (v := (Value.bool false)) rfl (Step.pure (by kernel_rfl)) ?_
  refine WL.nil ?_
  refine W.cond (t := false) rfl (fun h => by cases h) (fun _ => ?_)
  refine W.skip ?_
  refine W.seq' ?_
  refine W.region rfl ?_
  refine WL.step (v := (Value.pointer (some ⟨cb, 0, none⟩))) rfl (Step.load1 Try.sc26 rfl ((cell_blk (M.rep 0 rfl) 0).trans rfl)) ?_
  refine WL.step (v := (Value.pointer (some ⟨cb, 0, none⟩))) rfl (Step.pure (by kernel_rfl)) ?_
  refine WL.step (v := (Value.pointer (some ⟨cb, 0, none⟩))) rfl (Step.pure (by kernel_rfl)) ?_
  refine WL.step (v := v) rfl (Step.load1 Try.sc22 rfl ((cell_blk (M.rep 1 rfl) 0).trans rfl)) ?_
  refine WL.step (v := (Value.int .i64 ↑xs.length)) rfl (Step.lenSl Try.un22 rfl (M.rep 2 rfl)) ?_
  refine WL.step (v := (Value.int .i64 0)) rfl (Step.move rfl) ?_
  refine WL.nil ?_
  refine W.block ?_
  refine W.loop (fun kk ρ w' => ∃ (k_ : Nat) (q_ : ι), ((k_ ≤ xs.length) ∧ kk = xs.length - k_) ∧ ρ.has [(0, y), (10, v), (11, (Value.int .i64 ↑xs.length)), (12, (Value.int .i64 ↑k_))] ∧ Mem G X w [C k_ q_] [(fun w => w.heap[pb]? = some (.cells #[(Value.pointer (some ⟨cb, 0, none⟩))] 26)), (fun w => w.heap[cb]? = some (.cells #[v] 135)), SlAt 6 v xs.length (xs.flatMap verE), rf]  w') _ ⟨0, q0_, ⟨(Nat.zero_le _), rfl⟩, ⟨rfl, rfl, rfl, rfl, rfl, rfl⟩, M⟩ ?_
  rintro _ ρ4 w3 ⟨k_, q_, ⟨hi5, rfl⟩, hρ, M⟩
  obtain ⟨ρ4, rfl⟩ := hρ.know
  clear hρ
  refine W.seq' ?_
  refine W.region rfl ?_
  refine WL.step (v := (Value.bool (decide ((↑k_ : Int) < (↑xs.length : Int))))) rfl (Step.pure (by kernel_rfl)) ?_
  refine WL.nil ?_
  refine W.seq' ?_
  refine W.cond (t := decide ((↑k_ : Int) < (↑xs.length : Int))) rfl (fun h6 => ?_) (fun h6 => ?_)
  ·
    have h6p := of_decide_eq_true h6
    refine W.skip ?_
    refine W.seq' ?_
    refine W.block ?_
    refine W.seq' ?_
    refine W.region rfl ?_
    refine WL.step (v := (Value.int .i64 ↑k_)) rfl (Step.move rfl) ?_
    obtain ⟨cap8, hb7⟩ := SlAt.base (M.rep 2 rfl) (by omega)
    obtain ⟨x9, hx9⟩ := elem_of_lt (xs := xs) (i := k_) (by omega)
    refine WL.step (v := (Value.pointer (some ⟨(sBlk v), sOff v + k_ * 6, none⟩))) rfl (Step.indexAddr (i := k_) (Try.un22).run Try.el34.sized rfl rfl (by omega) hb7 (by omega)) ?_
    refine WL.step (v := (Value.agg #[(Value.int .u64 x9.epoch), (Value.bool x9.dead), (Value.int .i64 x9.agg.count), (Value.int .i64 x9.agg.sum), (Value.int .i64 x9.agg.min), (Value.int .i64 x9.agg.max)])) rfl (Step.loadEN (k := 0) (cs' := [(Value.int .u64 x9.epoch), (Value.bool x9.dead), (Value.int .i64 x9.agg.count), (Value.int .i64 x9.agg.sum), (Value.int .i64 x9.agg.min), (Value.int .i64 x9.agg.max)]) Try.ag34 (flat_ec (M.rep 2 rfl) hx9 verE_len) (by decide) rfl rfl rfl) ?_
    refine WL.alloc (c := #[(Value.int .u64 0), (Value.bool false), (Value.int .i64 0), (Value.int .i64 0), (Value.int .i64 0), (Value.int .i64 0)]) M rfl Try.el34.zero rfl (fun b10 w11 hb10 M => ?_)
    refine WL.step (v := (Value.int .i64 ↑k_)) rfl (Step.assign rfl) ?_
    refine WL.store (v := (Value.agg #[(Value.int .u64 x9.epoch), (Value.bool x9.dead), (Value.int .i64 x9.agg.count), (Value.int .i64 x9.agg.sum), (Value.int .i64 x9.agg.min), (Value.int .i64 x9.agg.max)])) (cs := [(Value.int .u64 x9.epoch), (Value.bool x9.dead), (Value.int .i64 x9.agg.count), (Value.int .i64 x9.agg.sum), (Value.int .i64 x9.agg.min), (Value.int .i64 x9.agg.max)]) (c' := #[(Value.int .u64 x9.epoch), (Value.bool x9.dead), (Value.int .i64 x9.agg.count), (Value.int .i64 x9.agg.sum), (Value.int .i64 x9.agg.min), (Value.int .i64 x9.agg.max)]) M 0 rfl rfl Try.el34.sized rfl rfl rfl rfl (Nat.le_of_ble_eq_true rfl) (cel_cons rfl (cel_cons rfl (cel_cons rfl (cel_cons rfl (cel_cons rfl (cel_cons rfl cel_nil)))))) rfl rfl (fun w12 M => ?_)
    refine WL.nil ?_
    refine W.seq' ?_
    refine W.region rfl ?_
    refine WL.step (v := y) rfl (Step.move rfl) ?_
    refine WL.step (v := (Value.int .i64 ↑k_)) rfl (Step.move rfl) ?_
    refine WL.step (v := (Value.agg #[(Value.int .u64 x9.epoch), (Value.bool x9.dead), (Value.int .i64 x9.agg.count), (Value.int .i64 x9.agg.sum), (Value.int .i64 x9.agg.min), (Value.int .i64 x9.agg.max)])) rfl (Step.loadN Try.ag34 rfl (M.blk 0 rfl) (Nat.le_of_ble_eq_true rfl) rfl) ?_
    refine WL.callV rfl rfl rfl (hy k_ q_ x9 _ hx9 (M.enterW (C := [C k_ q_]) (D := [blk b10 (.cells #[(Value.int .u64 x9.epoch), (Value.bool x9.dead), (Value.int .i64 x9.agg.count), (Value.int .i64 x9.agg.sum), (Value.int .i64 x9.agg.min), (Value.int .i64 x9.agg.max)] 34)]) [1, 0] rfl (by decide) ⟨(M.wideR (C := [C k_ q_]) (D := [blk b10 (.cells #[(Value.int .u64 x9.epoch), (Value.bool x9.dead), (Value.int .i64 x9.agg.count), (Value.int .i64 x9.agg.sum), (Value.int .i64 x9.agg.min), (Value.int .i64 x9.agg.max)] 34)]) [1, 0] rfl 3 rfl), trivial⟩)) ?_
    rintro _ w13 (⟨rfl, q14, m⟩ | ⟨rfl, q14, m⟩)
    ·
      replace M := M.leaveW (C := [C k_ q_]) (D := [blk b10 (.cells #[(Value.int .u64 x9.epoch), (Value.bool x9.dead), (Value.int .i64 x9.agg.count), (Value.int .i64 x9.agg.sum), (Value.int .i64 x9.agg.min), (Value.int .i64 x9.agg.max)] 34)]) [1, 0] rfl (by decide) m
      replace M : Mem _ _ _ [C (k_ + 1) q14, blk b10 (.cells #[(Value.int .u64 x9.epoch), (Value.bool x9.dead), (Value.int .i64 x9.agg.count), (Value.int .i64 x9.agg.sum), (Value.int .i64 x9.agg.min), (Value.int .i64 x9.agg.max)] 34)] [(fun w => w.heap[pb]? = some (.cells #[(Value.pointer (some ⟨cb, 0, none⟩))] 26)), (fun w => w.heap[cb]? = some (.cells #[v] 135)), SlAt 6 v xs.length (xs.flatMap verE), rf] _ := M
      refine WL.step (v := (Value.bool false)) rfl (Step.pure (by kernel_rfl)) ?_
      refine WL.nil ?_
      refine W.cond (t := false) rfl (fun h => by cases h) (fun _ => ?_)
      refine W.skip ?_
      refine W.region rfl ?_
      refine WL.step (v := (Value.int .i64 (↑k_ + 1))) rfl (Step.add rfl rfl (wrap_i64 (by omega))) ?_
      refine WL.step (v := (Value.int .i64 (↑k_ + 1))) rfl (Step.move rfl) ?_
      refine WL.nil ?_
      replace M := M.sel (L' := [C (k_ + 1) q14]) [0] rfl (by decide)
      exact ⟨_, (by omega), k_ + 1, q14, ⟨(by omega), rfl⟩, ⟨rfl, rfl, rfl, rfl, rfl, rfl⟩, M⟩
    ·
      replace M := M.leaveW (C := [C k_ q_]) (D := [blk b10 (.cells #[(Value.int .u64 x9.epoch), (Value.bool x9.dead), (Value.int .i64 x9.agg.count), (Value.int .i64 x9.agg.sum), (Value.int .i64 x9.agg.min), (Value.int .i64 x9.agg.max)] 34)]) [1, 0] rfl (by decide) m
      replace M : Mem _ _ _ [D k_ q14, blk b10 (.cells #[(Value.int .u64 x9.epoch), (Value.bool x9.dead), (Value.int .i64 x9.agg.count), (Value.int .i64 x9.agg.sum), (Value.int .i64 x9.agg.min), (Value.int .i64 x9.agg.max)] 34)] [(fun w => w.heap[pb]? = some (.cells #[(Value.pointer (some ⟨cb, 0, none⟩))] 26)), (fun w => w.heap[cb]? = some (.cells #[v] 135)), SlAt 6 v xs.length (xs.flatMap verE), rf] _ := M
      refine WL.step (v := (Value.bool true)) rfl (Step.pure (by kernel_rfl)) ?_
      refine WL.nil ?_
      refine W.cond (t := true) rfl (fun _ => ?_) (fun h => by cases h)
      refine W.ret ?_
      refine ⟨.inl rfl, undef, ?_, ?_⟩
      · exact ⟨rfl, Res.none⟩
      exact .inr ⟨k_, _, _, hx9, M.close [0] rfl (by decide) trivial⟩
  ·
    have h6p := of_decide_eq_false h6
    refine W.exit ?_
    refine thn_exit ?_
    refine thn_exit ?_
    refine inBlk_hit ?_
    refine ⟨.inr rfl, undef, ?_, ?_⟩
    · exact ⟨rfl, Res.none⟩
    have hk : k_ = xs.length := by omega
    rw [hk] at M
    exact .inl ⟨_, M.close [0] rfl (by decide) trivial⟩

theorem ch_all1n {G X : Nat → Prop} {w : World} (y : Value) (pb : Nat)    {ι : Type} (C D : Nat → ι → Chunk) (q0_ : ι) (rf : World → Prop)  (M : Mem G X w [C 0 q0_] [(fun w => w.heap[pb]? = some (.cells #[(Value.pointer none)] 26)), rf] w) : Rets Try.prog 124 #[y, (Value.pointer (some ⟨pb, 0, none⟩))] w fun r w' => (∃ q_, Mem G X w [C 0 q_] [] w') ∨ ∃ (k_ : Nat) (q_ : ι) (x_ : Ver), ([] : List Ver)[k_]? = some x_ ∧ Mem G X w [D k_ q_] [] w' := by
  refine Rets.enter 23 _ Try.func124 rfl Try.ntmps124 Try.results124 (by simp) ?_
  refine W.seq' ?_
  refine W.seq' ?_
  refine W.region rfl ?_
  refine WL.step (v := (Value.pointer none)) rfl (Step.load1 Try.sc26 rfl ((cell_blk (M.rep 0 rfl) 0).trans rfl)) ?_
  refine WL.step (v := (Value.bool true)) rfl (Step.pure (by kernel_rfl)) ?_
  refine WL.nil ?_
  refine W.cond (t := true) rfl (fun _ => ?_) (fun h => by cases h)
  refine W.ret ?_
  refine ⟨.inl rfl, undef, ?_, ?_⟩
  · exact ⟨rfl, Res.none⟩
  exact .inl ⟨_, M.close [0] rfl (by decide) trivial⟩
end Go.Proofs
