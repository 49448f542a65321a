/- Walks. -/
import Derived.Test.YthihknbbibgchaaTrT2
import Derived.Test.YthihknbbibgchaaTrSesI
import Derived.Test.YthihknbbibgchaaTrAny3
set_option maxRecDepth 100000
set_option linter.all false
namespace Go.Proofs
open Go Tp
theorem Try.un2 : Und Try.prog 2 (.int .i64) := by unfold Und; kernel_rfl
theorem Try.un23 : Und Try.prog 23 (.int .u64) := by unfold Und; kernel_rfl
theorem Try.un59 : Und Try.prog 59 (.slice 62) := by unfold Und; kernel_rfl
theorem Try.un124 : Und Try.prog 124 (.int .u64) := by unfold Und; kernel_rfl
theorem Try.ag65 : Aggr Try.prog 65 2 := ⟨fun _ => by kernel_rfl, fun _ => by kernel_rfl⟩
theorem Try.el62 : Elem Try.prog 62 (Value.agg #[(Value.int .i64 0), (Value.int .i64 0)]) 2 16 := Elem.mk (by kernel_rfl)
theorem Try.en62 : Enters Try.prog 62 := fun _ _ => by kernel_rfl
theorem Try.en63 : Enters Try.prog 63 := fun _ _ => by kernel_rfl
theorem Try.en69 : Enters Try.prog 69 := fun _ _ => by kernel_rfl
theorem Try.en82 : Enters Try.prog 82 := fun _ _ => by kernel_rfl

theorem num_sub {G : Nat → Prop} {w : World} (a : Int) (b : Int)  (ha : in64 a) (hb : in64 b) (M : Mem G (fun _ => False) w [] [] w) : Rets Try.prog 69 #[(Value.int .i64 a), (Value.int .i64 b)] w fun r w' => r = (Value.tuple #[(Value.int .i64 ((subV a b).1)), (Value.bool ((subV a b).2))]) ∧ Mem G (fun _ => False) w [] [] w' := by
  refine Rets.enter 23 _ Try.func69 rfl Try.ntmps69 Try.results69 (by simp) ?_
  refine W.seq' ?_
  refine W.region rfl ?_
  refine WL.step (v := (Value.int .i64 0)) rfl (Step.assign rfl) ?_
  refine WL.step (v := (Value.bool false)) rfl (Step.assign rfl) ?_
  refine WL.nil ?_
  refine W.seq' ?_
  refine W.region rfl ?_
  refine WL.step (v := (Value.int .i64 a)) rfl (Step.move rfl) ?_
  refine WL.step (v := (Value.int .i64 b)) rfl (Step.move rfl) ?_
  refine WL.step (v := (Value.int .i64 (w64 ((a : Int) - (b : Int))))) rfl (Step.sub rfl rfl (wrap_w64 _)) ?_
  refine WL.step (v := (Value.int .i64 (w64 ((a : Int) - (b : Int))))) rfl (Step.assign rfl) ?_
  refine WL.nil ?_
  refine W.seq' ?_
  refine W.seq' ?_
  refine W.region rfl ?_
  refine WL.step (v := (Value.int .i64 a)) rfl (Step.move rfl) ?_
  refine WL.step (v := (Value.bool (decide ((a : Int) ≥ (0 : Int))))) rfl (Step.pure (by kernel_rfl)) ?_
  refine WL.step (v := (Value.int .i64 b)) rfl (Step.move rfl) ?_
  refine WL.step (v := (Value.bool (decide ((b : Int) ≥ (0 : Int))))) rfl (Step.pure (by kernel_rfl)) ?_
  refine WL.step (v := (Value.bool (!((decide ((a : Int) ≥ (0 : Int))) == (decide ((b : Int) ≥ (0 : Int))))))) rfl (Step.pure (by kernel_rfl)) ?_
  refine WL.step (v := (Value.bool (!((decide ((a : Int) ≥ (0 : Int))) == (decide ((b : Int) ≥ (0 : Int))))))) rfl (Step.move rfl) ?_
  rcases Bool.eq_false_or_eq_true (!((decide ((a : Int) ≥ (0 : Int))) == (decide ((b : Int) ≥ (0 : Int))))) with h1 | h1
  ·
    rw [h1]
    refine WL.step (v := (Value.int .i64 (w64 ((a : Int) - (b : Int))))) rfl (Step.move rfl) ?_
    refine WL.step (v := (Value.bool (decide ((w64 ((a : Int) - (b : Int)) : Int) ≥ (0 : Int))))) rfl (Step.pure (by kernel_rfl)) ?_
    refine WL.step (v := (Value.int .i64 a)) rfl (Step.move rfl) ?_
    refine WL.step (v := (Value.bool (decide ((a : Int) ≥ (0 : Int))))) rfl (Step.pure (by kernel_rfl)) ?_
    refine WL.step (v := (Value.bool (!((decide ((w64 ((a : Int) - (b : Int)) : Int) ≥ (0 : Int))) == (decide ((a : Int) ≥ (0 : Int))))))) rfl (Step.pure (by kernel_rfl)) ?_
    refine WL.step (v := (Value.bool (!((decide ((w64 ((a : Int) - (b : Int)) : Int) ≥ (0 : Int))) == (decide ((a : Int) ≥ (0 : Int))))))) rfl (Step.pick (t := true) rfl rfl) ?_
    refine WL.nil ?_
    refine W.cond (t := !((decide ((w64 ((a : Int) - (b : Int)) : Int) ≥ (0 : Int))) == (decide ((a : Int) ≥ (0 : Int))))) rfl (fun h2 => ?_) (fun h2 => ?_)
    ·
      refine W.seq' ?_
      refine W.region rfl ?_
      refine WL.step (v := (Value.int .i64 0)) rfl (Step.assign rfl) ?_
      refine WL.step (v := (Value.bool false)) rfl (Step.assign rfl) ?_
      refine WL.nil ?_
      refine W.ret ?_
      refine ⟨.inl rfl, (Value.tuple #[(Value.int .i64 0), (Value.bool false)]), ?_, ?_⟩
      · exact ⟨rfl, (Res.r2 (show RV _ _ _ (.tmp 4) (Value.int .i64 0) from by exact rfl) (show RV _ _ _ (.tmp 5) (Value.bool false) from by exact rfl))⟩
      refine ⟨?_, M.close [] rfl (by decide) trivial⟩
      rw [subV_f ha hb (by simpa using h1) (by simpa using h2)]
    ·
      refine W.skip ?_
      refine W.seq' ?_
      refine W.region rfl ?_
      refine WL.step (v := (Value.int .i64 (w64 ((a : Int) - (b : Int))))) rfl (Step.move rfl) ?_
      refine WL.step (v := (Value.int .i64 (w64 ((a : Int) - (b : Int))))) rfl (Step.assign rfl) ?_
      refine WL.step (v := (Value.bool true)) rfl (Step.assign rfl) ?_
      refine WL.nil ?_
      refine W.ret ?_
      refine ⟨.inl rfl, (Value.tuple #[(Value.int .i64 (w64 ((a : Int) - (b : Int)))), (Value.bool true)]), ?_, ?_⟩
      · exact ⟨rfl, (Res.r2 (show RV _ _ _ (.tmp 4) (Value.int .i64 (w64 ((a : Int) - (b : Int)))) from by exact rfl) (show RV _ _ _ (.tmp 5) (Value.bool true) from by exact rfl))⟩
      refine ⟨?_, M.close [] rfl (by decide) trivial⟩
      rw [subV_t ha hb (.inr (by simpa using h2))]
  ·
    rw [h1]
    refine WL.pass rfl ?_
    refine WL.pass rfl ?_
    refine WL.pass rfl ?_
    refine WL.pass rfl ?_
    refine WL.pass rfl ?_
    refine WL.step (v := (Value.bool false)) rfl (Step.pick (t := false) rfl rfl) ?_
    refine WL.nil ?_
    refine W.cond (t := false) rfl (fun h => by cases h) (fun _ => ?_)
    refine W.skip ?_
    refine W.seq' ?_
    refine W.region rfl ?_
    refine WL.step (v := (Value.int .i64 (w64 ((a : Int) - (b : Int))))) rfl (Step.move rfl) ?_
    refine WL.step (v := (Value.int .i64 (w64 ((a : Int) - (b : Int))))) rfl (Step.assign rfl) ?_
    refine WL.step (v := (Value.bool true)) rfl (Step.assign rfl) ?_
    refine WL.nil ?_
    refine W.ret ?_
    refine ⟨.inl rfl, (Value.tuple #[(Value.int .i64 (w64 ((a : Int) - (b : Int)))), (Value.bool true)]), ?_, ?_⟩
    · exact ⟨rfl, (Res.r2 (show RV _ _ _ (.tmp 4) (Value.int .i64 (w64 ((a : Int) - (b : Int)))) from by exact rfl) (show RV _ _ _ (.tmp 5) (Value.bool true) from by exact rfl))⟩
    refine ⟨?_, M.close [] rfl (by decide) trivial⟩
    rw [subV_t ha hb (.inl (by simpa using h1))]

theorem ses_right {G : Nat → Prop} {w : World} (gap : Int) (v : Value) (xs : List Span)  (hin : ∀ s, s ∈ xs → in64 s.start ∧ in64 s.fin) (hg : in64 gap) (M : Mem G (fun _ => False) w [] [SlAt 2 v xs.length (xs.flatMap spanE)] w) : Rets Try.prog 40 #[(Value.int .i64 gap), v] w fun r w' => r = (Value.bool (rightB gap xs)) ∧ Mem G (fun _ => False) w [] [] w' := by
  refine Rets.enter 53 _ Try.func40 rfl Try.ntmps40 Try.results40 (by simp) ?_
  have hle1 := SlAt.le' (M.rep 0 rfl)
  have sl2 : IsSl v := SlAt.isSl (Mem.rep M 0 rfl)
  refine W.seq' ?_
  refine W.region rfl ?_
  refine WL.step (v := (Value.bool false)) rfl (Step.assign rfl) ?_
  refine WL.nil ?_
  refine W.seq' ?_
  refine W.seq' ?_
  refine W.region rfl ?_
  refine WL.step (v := v) rfl (Step.move rfl) ?_
  refine WL.step (v := (Value.int .i64 ↑xs.length)) rfl (Step.lenSl Try.un58 rfl (M.rep 0 rfl)) ?_
  refine WL.step (v := (Value.int .i64 0)) rfl (Step.move rfl) ?_
  refine WL.nil ?_
  refine W.block ?_
  refine W.loop (fun kk ρ w' => ∃ (i_ : Nat), ((i_ ≤ xs.length) ∧ (rightN gap xs i_ = true) ∧ kk = xs.length - i_) ∧ ρ.has [(0, (Value.int .i64 gap)), (1, v), (9, v), (10, (Value.int .i64 ↑xs.length)), (11, (Value.int .i64 ↑i_))] ∧ Mem G (fun _ => False) w [] [SlAt 2 v xs.length (xs.flatMap spanE)]  w') _ ⟨0, ⟨(Nat.zero_le _), rfl, rfl⟩, ⟨rfl, rfl, rfl, rfl, rfl, rfl, rfl⟩, M⟩ ?_
  rintro _ ρ4 w3 ⟨i_, ⟨hi5, hi6, rfl⟩, hρ, M⟩
  obtain ⟨ρ4, rfl⟩ := hρ.know
  clear hρ
  refine W.seq' ?_
  refine W.region rfl ?_
  refine WL.step (v := (Value.bool (decide ((↑i_ : Int) < (↑xs.length : Int))))) rfl (Step.pure (by kernel_rfl)) ?_
  refine WL.nil ?_
  refine W.seq' ?_
  refine W.cond (t := decide ((↑i_ : Int) < (↑xs.length : Int))) rfl (fun h7 => ?_) (fun h7 => ?_)
  ·
    have h7p := of_decide_eq_true h7
    refine W.skip ?_
    refine W.seq' ?_
    refine W.block ?_
    refine W.seq' ?_
    refine W.region rfl ?_
    refine WL.step (v := (Value.int .i64 ↑i_)) rfl (Step.move rfl) ?_
    obtain ⟨cap9, hb8⟩ := SlAt.base (M.rep 0 rfl) (by omega)
    obtain ⟨x10, hx10⟩ := elem_of_lt (xs := xs) (i := i_) (by omega)
    obtain ⟨⟨_, _⟩, ⟨_, _⟩⟩ : (-9223372036854775808 ≤ x10.start ∧ x10.start ≤ 9223372036854775807) ∧ (-9223372036854775808 ≤ x10.fin ∧ x10.fin ≤ 9223372036854775807) := hin _ (List.mem_of_getElem? hx10)
    refine WL.step (v := (Value.pointer (some ⟨(sBlk v), sOff v + i_ * 2, none⟩))) rfl (Step.indexAddr (i := i_) (Try.un58).run Try.el65.sized rfl rfl (by omega) hb8 (by omega)) ?_
    refine WL.step (v := (Value.agg #[(Value.int .i64 x10.start), (Value.int .i64 x10.fin)])) rfl (Step.loadEN (k := 0) (cs' := [(Value.int .i64 x10.start), (Value.int .i64 x10.fin)]) Try.ag65 (flat_ec (M.rep 0 rfl) hx10 spanE_len) (by decide) rfl rfl rfl) ?_
    refine WL.alloc (c := #[(Value.int .i64 0), (Value.int .i64 0)]) M rfl Try.el65.zero rfl (fun b11 w12 hb11 M => ?_)
    refine WL.step (v := (Value.int .i64 ↑i_)) rfl (Step.assign rfl) ?_
    refine WL.store (v := (Value.agg #[(Value.int .i64 x10.start), (Value.int .i64 x10.fin)])) (cs := [(Value.int .i64 x10.start), (Value.int .i64 x10.fin)]) (c' := #[(Value.int .i64 x10.start), (Value.int .i64 x10.fin)]) M 0 rfl rfl Try.el65.sized rfl rfl rfl rfl (Nat.le_of_ble_eq_true rfl) (cel_cons rfl (cel_cons rfl cel_nil)) rfl rfl (fun w13 M => ?_)
    refine WL.nil ?_
    refine W.seq' ?_
    refine W.region rfl ?_
    refine WL.step (v := (Value.pointer (some ⟨b11, 1, none⟩))) rfl (Step.pure (by kernel_rfl)) ?_
    refine WL.step (v := (Value.int .i64 x10.fin)) rfl (Step.load1 Try.sc2 rfl ((M.cell 0 rfl 1).trans rfl)) ?_
    refine WL.step (v := (Value.pointer (some ⟨b11, 0, none⟩))) rfl (Step.pure (by kernel_rfl)) ?_
    refine WL.step (v := (Value.int .i64 x10.start)) rfl (Step.load1 Try.sc2 rfl ((M.cell 0 rfl 0).trans rfl)) ?_
    refine WL.callX rfl (num_sub x10.fin x10.start (by unfold in64; omega) (by unfold in64; omega) (M.enterW0 trivial)) (CallsF.func Try.en69 rfl) ?_
    rintro _ w14 ⟨rfl, m⟩
    replace M := M.leaveW0 m
    clear m
    replace M : Mem _ _ _ [blk b11 (.cells #[(Value.int .i64 x10.start), (Value.int .i64 x10.fin)] 65)] [SlAt 2 v xs.length (xs.flatMap spanE)] _ := M
    refine WL.step (v := (Value.tuple #[(Value.int .i64 ((subV x10.fin x10.start).1)), (Value.bool ((subV x10.fin x10.start).2))])) rfl (Step.move rfl) ?_
    refine WL.step (v := (Value.int .i64 ((subV x10.fin x10.start).1))) rfl (Step.pure (by kernel_rfl)) ?_
    refine WL.step (v := (Value.bool ((subV x10.fin x10.start).2))) rfl (Step.pure (by kernel_rfl)) ?_
    refine WL.step (v := (Value.int .i64 ((subV x10.fin x10.start).1))) rfl (Step.assign rfl) ?_
    refine WL.step (v := (Value.bool ((subV x10.fin x10.start).2))) rfl (Step.assign rfl) ?_
    refine WL.nil ?_
    refine W.seq' ?_
    rcases Bool.eq_false_or_eq_true (decide ((x10.start : Int) ≥ (x10.fin : Int))) with h15 | h15
    ·
      have h15p := of_decide_eq_true h15
      refine W.drawn M [0, 1, 2, 3, 4, 5, 6, 7, 8, 9, 10, 11, 12, 13, 14, 15, 16, 17, 18, 19, 20, 21, 22, 23, 24, 25, 26, 27] [] [] [blk b11 (.cells #[(Value.int .i64 x10.start), (Value.int .i64 x10.fin)] 65)] [SlAt 2 v xs.length (xs.flatMap spanE)] (List.Sublist.cons_cons _ List.Sublist.slnil) (fun _ h => h) Try.mixed (by kernel_rfl) ?_
      refine TW.pure (v := (Value.pointer (some ⟨b11, 0, none⟩))) rfl (by decide) (by decide) rfl (fun w => (Step.pure (by kernel_rfl))) ?_
      refine TW.read (v := (Value.int .i64 x10.start)) rfl (by decide) (by decide) rfl (fun A w M => (Step.load1 Try.sc2 rfl ((M.cell 1 rfl 0).trans rfl))) ?_
      refine TW.pure (v := (Value.pointer (some ⟨b11, 1, none⟩))) rfl (by decide) (by decide) rfl (fun w => (Step.pure (by kernel_rfl))) ?_
      refine TW.read (v := (Value.int .i64 x10.fin)) rfl (by decide) (by decide) rfl (fun A w M => (Step.load1 Try.sc2 rfl ((M.cell 1 rfl 1).trans rfl))) ?_
      refine TW.pure (v := (Value.bool true)) rfl (by decide) (by decide) rfl (fun w => (Step.cast (congrArg Value.bool h15) (Step.pure (by kernel_rfl)))) ?_
      refine TW.pure (v := (Value.bool true)) rfl (by decide) (by decide) rfl (fun w => (Step.move rfl)) ?_
      refine TW.skip rfl rfl ?_
      refine TW.skip rfl rfl ?_
      refine TW.skip rfl rfl ?_
      refine TW.skip rfl rfl ?_
      refine TW.skip rfl rfl ?_
      refine TW.skip rfl rfl ?_
      refine TW.pure (v := (Value.bool true)) rfl (by decide) (by decide) rfl (fun w => (Step.pick (t := true) rfl rfl)) ?_
      refine TW.pure (v := (Value.bool true)) rfl (by decide) (by decide) rfl (fun w => (Step.move rfl)) ?_
      refine TW.skip rfl rfl ?_
      refine TW.skip rfl rfl ?_
      refine TW.skip rfl rfl ?_
      refine TW.skip rfl rfl ?_
      refine TW.skip rfl rfl ?_
      refine TW.skip rfl rfl ?_
      refine TW.skip rfl rfl ?_
      refine TW.skip rfl rfl ?_
      refine TW.skip rfl rfl ?_
      refine TW.skip rfl rfl ?_
      refine TW.skip rfl rfl ?_
      refine TW.skip rfl rfl ?_
      refine TW.skip rfl rfl ?_
      refine TW.pure (v := (Value.bool true)) rfl (by decide) (by decide) rfl (fun w => (Step.pick (t := true) rfl rfl)) ?_
      refine TW.done (fun w16 M => ?_)
      refine W.cond (t := true) rfl (fun _ => ?_) (fun h => by cases h)
      refine W.seq' ?_
      refine W.region rfl ?_
      refine WL.step (v := (Value.bool false)) rfl (Step.assign rfl) ?_
      refine WL.nil ?_
      refine W.ret ?_
      refine ⟨.inl rfl, (Value.bool false), ?_, ?_⟩
      · exact ⟨rfl, (Res.r1 (show RV _ _ _ (.tmp 4) (Value.bool false) from by exact rfl))⟩
      refine ⟨?_, M.close [] rfl (by decide) trivial⟩
      refine congrArg Value.bool ?_
      exact (right_bad (by omega) (okAt_no1 hx10 (by omega))).symm
    ·
      have h15p := of_decide_eq_false h15
      rcases Bool.eq_false_or_eq_true ((subV x10.fin x10.start).2) with h17 | h17
      ·
        rcases Bool.eq_false_or_eq_true (decide (((subV x10.fin x10.start).1 : Int) < (gap : Int))) with h18 | h18
        ·
          have h18p := of_decide_eq_true h18
          refine W.drawn M [0, 1, 2, 3, 4, 5, 6, 7, 8, 9, 10, 11, 12, 13, 14, 15, 16, 17, 18, 19, 20, 21, 22, 23, 24, 25, 26, 27] [] [] [blk b11 (.cells #[(Value.int .i64 x10.start), (Value.int .i64 x10.fin)] 65)] [SlAt 2 v xs.length (xs.flatMap spanE)] (List.Sublist.cons_cons _ List.Sublist.slnil) (fun _ h => h) Try.mixed (by kernel_rfl) ?_
          refine TW.pure (v := (Value.pointer (some ⟨b11, 0, none⟩))) rfl (by decide) (by decide) rfl (fun w => (Step.pure (by kernel_rfl))) ?_
          refine TW.read (v := (Value.int .i64 x10.start)) rfl (by decide) (by decide) rfl (fun A w M => (Step.load1 Try.sc2 rfl ((M.cell 1 rfl 0).trans rfl))) ?_
          refine TW.pure (v := (Value.pointer (some ⟨b11, 1, none⟩))) rfl (by decide) (by decide) rfl (fun w => (Step.pure (by kernel_rfl))) ?_
          refine TW.read (v := (Value.int .i64 x10.fin)) rfl (by decide) (by decide) rfl (fun A w M => (Step.load1 Try.sc2 rfl ((M.cell 1 rfl 1).trans rfl))) ?_
          refine TW.pure (v := (Value.bool false)) rfl (by decide) (by decide) rfl (fun w => (Step.cast (congrArg Value.bool h15) (Step.pure (by kernel_rfl)))) ?_
          refine TW.pure (v := (Value.bool false)) rfl (by decide) (by decide) rfl (fun w => (Step.move rfl)) ?_
          refine TW.pure (v := (Value.bool true)) rfl (by decide) (by decide) rfl (fun w => (Step.cast (congrArg Value.bool h17) (Step.move rfl))) ?_
          refine TW.pure (v := (Value.bool true)) rfl (by decide) (by decide) rfl (fun w => (Step.move rfl)) ?_
          refine TW.pure (v := (Value.int .i64 ((subV x10.fin x10.start).1))) rfl (by decide) (by decide) rfl (fun w => (Step.move rfl)) ?_
          refine TW.pure (v := (Value.int .i64 gap)) rfl (by decide) (by decide) rfl (fun w => (Step.move rfl)) ?_
          refine TW.pure (v := (Value.bool true)) rfl (by decide) (by decide) rfl (fun w => (Step.cast (congrArg Value.bool h18) (Step.pure (by kernel_rfl)))) ?_
          refine TW.pure (v := (Value.bool true)) rfl (by decide) (by decide) rfl (fun w => (Step.pick (t := true) rfl rfl)) ?_
          refine TW.pure (v := (Value.bool true)) rfl (by decide) (by decide) rfl (fun w => (Step.pick (t := false) rfl rfl)) ?_
          refine TW.pure (v := (Value.bool true)) rfl (by decide) (by decide) rfl (fun w => (Step.move rfl)) ?_
          refine TW.skip rfl rfl ?_
          refine TW.skip rfl rfl ?_
          refine TW.skip rfl rfl ?_
          refine TW.skip rfl rfl ?_
          refine TW.skip rfl rfl ?_
          refine TW.skip rfl rfl ?_
          refine TW.skip rfl rfl ?_
          refine TW.skip rfl rfl ?_
          refine TW.skip rfl rfl ?_
          refine TW.skip rfl rfl ?_
          refine TW.skip rfl rfl ?_
          refine TW.skip rfl rfl ?_
          refine TW.skip rfl rfl ?_
          refine TW.pure (v := (Value.bool true)) rfl (by decide) (by decide) rfl (fun w => (Step.pick (t := true) rfl rfl)) ?_
          refine TW.done (fun w19 M => ?_)
          refine W.cond (t := true) rfl (fun _ => ?_) (fun h => by cases h)
          refine W.seq' ?_
          refine W.region rfl ?_
          refine WL.step (v := (Value.bool false)) rfl (Step.assign rfl) ?_
          refine WL.nil ?_
          refine W.ret ?_
          refine ⟨.inl rfl, (Value.bool false), ?_, ?_⟩
          · exact ⟨rfl, (Res.r1 (show RV _ _ _ (.tmp 4) (Value.bool false) from by exact rfl))⟩
          refine ⟨?_, M.close [] rfl (by decide) trivial⟩
          refine congrArg Value.bool ?_
          exact (right_bad (by omega) (okAt_no2 hx10 (subV_short h17 h18p))).symm
        ·
          have h18p := of_decide_eq_false h18
          rcases Bool.eq_false_or_eq_true (decide ((↑i_ : Int) > (0 : Int))) with h20 | h20
          ·
            have h20p := of_decide_eq_true h20
            obtain ⟨x21, hx21⟩ := elem_of_lt (xs := xs) (i := i_ - 1) (by omega)
            obtain ⟨⟨_, _⟩, ⟨_, _⟩⟩ : (-9223372036854775808 ≤ x21.start ∧ x21.start ≤ 9223372036854775807) ∧ (-9223372036854775808 ≤ x21.fin ∧ x21.fin ≤ 9223372036854775807) := hin _ (List.mem_of_getElem? hx21)
            refine W.drawn M [0, 1, 2, 3, 4, 5, 6, 7, 8, 9, 10, 11, 12, 13, 14, 15, 16, 17, 18, 19, 20, 21, 22, 23, 24, 25, 26, 27] [] [] [blk b11 (.cells #[(Value.int .i64 x10.start), (Value.int .i64 x10.fin)] 65)] [SlAt 2 v xs.length (xs.flatMap spanE)] (List.Sublist.cons_cons _ List.Sublist.slnil) (fun _ h => h) Try.mixed (by kernel_rfl) ?_
            refine TW.pure (v := (Value.pointer (some ⟨b11, 0, none⟩))) rfl (by decide) (by decide) rfl (fun w => (Step.pure (by kernel_rfl))) ?_
            refine TW.read (v := (Value.int .i64 x10.start)) rfl (by decide) (by decide) rfl (fun A w M => (Step.load1 Try.sc2 rfl ((M.cell 1 rfl 0).trans rfl))) ?_
            refine TW.pure (v := (Value.pointer (some ⟨b11, 1, none⟩))) rfl (by decide) (by decide) rfl (fun w => (Step.pure (by kernel_rfl))) ?_
            refine TW.read (v := (Value.int .i64 x10.fin)) rfl (by decide) (by decide) rfl (fun A w M => (Step.load1 Try.sc2 rfl ((M.cell 1 rfl 1).trans rfl))) ?_
            refine TW.pure (v := (Value.bool false)) rfl (by decide) (by decide) rfl (fun w => (Step.cast (congrArg Value.bool h15) (Step.pure (by kernel_rfl)))) ?_
            refine TW.pure (v := (Value.bool false)) rfl (by decide) (by decide) rfl (fun w => (Step.move rfl)) ?_
            refine TW.pure (v := (Value.bool true)) rfl (by decide) (by decide) rfl (fun w => (Step.cast (congrArg Value.bool h17) (Step.move rfl))) ?_
            refine TW.pure (v := (Value.bool true)) rfl (by decide) (by decide) rfl (fun w => (Step.move rfl)) ?_
            refine TW.pure (v := (Value.int .i64 ((subV x10.fin x10.start).1))) rfl (by decide) (by decide) rfl (fun w => (Step.move rfl)) ?_
            refine TW.pure (v := (Value.int .i64 gap)) rfl (by decide) (by decide) rfl (fun w => (Step.move rfl)) ?_
            refine TW.pure (v := (Value.bool false)) rfl (by decide) (by decide) rfl (fun w => (Step.cast (congrArg Value.bool h18) (Step.pure (by kernel_rfl)))) ?_
            refine TW.pure (v := (Value.bool false)) rfl (by decide) (by decide) rfl (fun w => (Step.pick (t := true) rfl rfl)) ?_
            refine TW.pure (v := (Value.bool false)) rfl (by decide) (by decide) rfl (fun w => (Step.pick (t := false) rfl rfl)) ?_
            refine TW.pure (v := (Value.bool false)) rfl (by decide) (by decide) rfl (fun w => (Step.move rfl)) ?_
            refine TW.pure (v := (Value.int .i64 ↑i_)) rfl (by decide) (by decide) rfl (fun w => (Step.move rfl)) ?_
            refine TW.pure (v := (Value.bool true)) rfl (by decide) (by decide) rfl (fun w => (Step.cast (congrArg Value.bool h20) (Step.pure (by kernel_rfl)))) ?_
            refine TW.pure (v := (Value.bool true)) rfl (by decide) (by decide) rfl (fun w => (Step.move rfl)) ?_
            refine TW.pure (v := v) rfl (by decide) (by decide) rfl (fun w => (Step.move rfl)) ?_
            refine TW.pure (v := (Value.int .i64 ↑i_)) rfl (by decide) (by decide) rfl (fun w => (Step.move rfl)) ?_
            refine TW.pure (v := (Value.int .i64 (↑(i_ - 1)))) rfl (by decide) (by decide) rfl (fun w => (Step.cast (congrArg (Value.int .i64) (show (↑i_ : Int) - 1 = ↑(i_ - 1) by omega)) (Step.sub rfl rfl (wrap_i64 (by omega))))) ?_
            refine TW.pure (v := (Value.pointer (some ⟨(sBlk v), sOff v + (i_ - 1) * 2, none⟩))) rfl (by decide) (by decide) rfl (fun w => (Step.indexAddr (i := i_ - 1) (Try.un58).run Try.el65.sized rfl rfl (by omega) hb8 (by omega))) ?_
            refine TW.pure (v := (Value.pointer (some ⟨(sBlk v), sOff v + (i_ - 1) * 2 + 1, none⟩))) rfl (by decide) (by decide) rfl (fun w => (Step.pure (by kernel_rfl))) ?_
            refine TW.read (v := (Value.int .i64 x21.fin)) rfl (by decide) (by decide) rfl (fun A w M => (Step.loadE (k := 1) Try.sc2 (flat_ec (M.rep 0 rfl) hx21 spanE_len) (by decide) rfl rfl)) ?_
            refine TW.pure (v := (Value.pointer (some ⟨b11, 0, none⟩))) rfl (by decide) (by decide) rfl (fun w => (Step.pure (by kernel_rfl))) ?_
            refine TW.read (v := (Value.int .i64 x10.start)) rfl (by decide) (by decide) rfl (fun A w M => (Step.load1 Try.sc2 rfl ((M.cell 1 rfl 0).trans rfl))) ?_
            refine TW.pure (v := (Value.bool (decide ((x21.fin : Int) > (x10.start : Int))))) rfl (by decide) (by decide) rfl (fun w => (Step.pure (by kernel_rfl))) ?_
            refine TW.pure (v := (Value.bool (decide ((x21.fin : Int) > (x10.start : Int))))) rfl (by decide) (by decide) rfl (fun w => (Step.pick (t := true) rfl rfl)) ?_
            refine TW.pure (v := (Value.bool (decide ((x21.fin : Int) > (x10.start : Int))))) rfl (by decide) (by decide) rfl (fun w => (Step.pick (t := false) rfl rfl)) ?_
            refine TW.done (fun w22 M => ?_)
            refine W.cond (t := decide ((x21.fin : Int) > (x10.start : Int))) rfl (fun h23 => ?_) (fun h23 => ?_)
            ·
              have h23p := of_decide_eq_true h23
              refine W.seq' ?_
              refine W.region rfl ?_
              refine WL.step (v := (Value.bool false)) rfl (Step.assign rfl) ?_
              refine WL.nil ?_
              refine W.ret ?_
              refine ⟨.inl rfl, (Value.bool false), ?_, ?_⟩
              · exact ⟨rfl, (Res.r1 (show RV _ _ _ (.tmp 4) (Value.bool false) from by exact rfl))⟩
              refine ⟨?_, M.close [] rfl (by decide) trivial⟩
              refine congrArg Value.bool ?_
              exact (right_bad (by omega) (okAt_no3 hx10 (by omega) hx21 (by omega))).symm
            ·
              have h23p := of_decide_eq_false h23
              refine W.skip ?_
              refine W.region rfl ?_
              refine WL.step (v := (Value.int .i64 (↑i_ + 1))) rfl (Step.add rfl rfl (wrap_i64 (by omega))) ?_
              refine WL.step (v := (Value.int .i64 (↑i_ + 1))) rfl (Step.move rfl) ?_
              refine WL.nil ?_
              replace M := M.sel (L' := []) [] rfl (by decide)
              exact ⟨_, (by omega), i_ + 1, ⟨(by omega), (right_step hi6 (okAt_go hx10 (by omega) (subV_long (by omega) hg.2 (.inr h18p)) (prev_go hx21 (by omega)))), rfl⟩, ⟨rfl, rfl, rfl, rfl, rfl, rfl, rfl⟩, M⟩
          ·
            have h20p := of_decide_eq_false h20
            refine W.drawn M [0, 1, 2, 3, 4, 5, 6, 7, 8, 9, 10, 11, 12, 13, 14, 15, 16, 17, 18, 19, 20, 21, 22, 23, 24, 25, 26, 27] [] [] [blk b11 (.cells #[(Value.int .i64 x10.start), (Value.int .i64 x10.fin)] 65)] [SlAt 2 v xs.length (xs.flatMap spanE)] (List.Sublist.cons_cons _ List.Sublist.slnil) (fun _ h => h) Try.mixed (by kernel_rfl) ?_
            refine TW.pure (v := (Value.pointer (some ⟨b11, 0, none⟩))) rfl (by decide) (by decide) rfl (fun w => (Step.pure (by kernel_rfl))) ?_
            refine TW.read (v := (Value.int .i64 x10.start)) rfl (by decide) (by decide) rfl (fun A w M => (Step.load1 Try.sc2 rfl ((M.cell 1 rfl 0).trans rfl))) ?_
            refine TW.pure (v := (Value.pointer (some ⟨b11, 1, none⟩))) rfl (by decide) (by decide) rfl (fun w => (Step.pure (by kernel_rfl))) ?_
            refine TW.read (v := (Value.int .i64 x10.fin)) rfl (by decide) (by decide) rfl (fun A w M => (Step.load1 Try.sc2 rfl ((M.cell 1 rfl 1).trans rfl))) ?_
            refine TW.pure (v := (Value.bool false)) rfl (by decide) (by decide) rfl (fun w => (Step.cast (congrArg Value.bool h15) (Step.pure (by kernel_rfl)))) ?_
            refine TW.pure (v := (Value.bool false)) rfl (by decide) (by decide) rfl (fun w => (Step.move rfl)) ?_
            refine TW.pure (v := (Value.bool true)) rfl (by decide) (by decide) rfl (fun w => (Step.cast (congrArg Value.bool h17) (Step.move rfl))) ?_
            refine TW.pure (v := (Value.bool true)) rfl (by decide) (by decide) rfl (fun w => (Step.move rfl)) ?_
            refine TW.pure (v := (Value.int .i64 ((subV x10.fin x10.start).1))) rfl (by decide) (by decide) rfl (fun w => (Step.move rfl)) ?_
            refine TW.pure (v := (Value.int .i64 gap)) rfl (by decide) (by decide) rfl (fun w => (Step.move rfl)) ?_
            refine TW.pure (v := (Value.bool false)) rfl (by decide) (by decide) rfl (fun w => (Step.cast (congrArg Value.bool h18) (Step.pure (by kernel_rfl)))) ?_
            refine TW.pure (v := (Value.bool false)) rfl (by decide) (by decide) rfl (fun w => (Step.pick (t := true) rfl rfl)) ?_
            refine TW.pure (v := (Value.bool false)) rfl (by decide) (by decide) rfl (fun w => (Step.pick (t := false) rfl rfl)) ?_
            refine TW.pure (v := (Value.bool false)) rfl (by decide) (by decide) rfl (fun w => (Step.move rfl)) ?_
            refine TW.pure (v := (Value.int .i64 ↑i_)) rfl (by decide) (by decide) rfl (fun w => (Step.move rfl)) ?_
            refine TW.pure (v := (Value.bool false)) rfl (by decide) (by decide) rfl (fun w => (Step.cast (congrArg Value.bool h20) (Step.pure (by kernel_rfl)))) ?_
            refine TW.pure (v := (Value.bool false)) rfl (by decide) (by decide) rfl (fun w => (Step.move rfl)) ?_
            refine TW.skip rfl rfl ?_
            refine TW.skip rfl rfl ?_
            refine TW.skip rfl rfl ?_
            refine TW.skip rfl rfl ?_
            refine TW.skip rfl rfl ?_
            refine TW.skip rfl rfl ?_
            refine TW.skip rfl rfl ?_
            refine TW.skip rfl rfl ?_
            refine TW.skip rfl rfl ?_
            refine TW.pure (v := (Value.bool false)) rfl (by decide) (by decide) rfl (fun w => (Step.pick (t := false) rfl rfl)) ?_
            refine TW.pure (v := (Value.bool false)) rfl (by decide) (by decide) rfl (fun w => (Step.pick (t := false) rfl rfl)) ?_
            refine TW.done (fun w24 M => ?_)
            refine W.cond (t := false) rfl (fun h => by cases h) (fun _ => ?_)
            refine W.skip ?_
            refine W.region rfl ?_
            refine WL.step (v := (Value.int .i64 (↑i_ + 1))) rfl (Step.add rfl rfl (wrap_i64 (by omega))) ?_
            refine WL.step (v := (Value.int .i64 (↑i_ + 1))) rfl (Step.move rfl) ?_
            refine WL.nil ?_
            replace M := M.sel (L' := []) [] rfl (by decide)
            exact ⟨_, (by omega), i_ + 1, ⟨(by omega), (right_step hi6 (okAt_go hx10 (by omega) (subV_long (by omega) hg.2 (.inr h18p)) (fun j q h => absurd h (by omega)))), rfl⟩, ⟨rfl, rfl, rfl, rfl, rfl, rfl, rfl⟩, M⟩
      ·
        rcases Bool.eq_false_or_eq_true (decide ((↑i_ : Int) > (0 : Int))) with h25 | h25
        ·
          have h25p := of_decide_eq_true h25
          obtain ⟨x26, hx26⟩ := elem_of_lt (xs := xs) (i := i_ - 1) (by omega)
          obtain ⟨⟨_, _⟩, ⟨_, _⟩⟩ : (-9223372036854775808 ≤ x26.start ∧ x26.start ≤ 9223372036854775807) ∧ (-9223372036854775808 ≤ x26.fin ∧ x26.fin ≤ 9223372036854775807) := hin _ (List.mem_of_getElem? hx26)
          refine W.drawn M [0, 1, 2, 3, 4, 5, 6, 7, 8, 9, 10, 11, 12, 13, 14, 15, 16, 17, 18, 19, 20, 21, 22, 23, 24, 25, 26, 27] [] [] [blk b11 (.cells #[(Value.int .i64 x10.start), (Value.int .i64 x10.fin)] 65)] [SlAt 2 v xs.length (xs.flatMap spanE)] (List.Sublist.cons_cons _ List.Sublist.slnil) (fun _ h => h) Try.mixed (by kernel_rfl) ?_
          refine TW.pure (v := (Value.pointer (some ⟨b11, 0, none⟩))) rfl (by decide) (by decide) rfl (fun w => (Step.pure (by kernel_rfl))) ?_
          refine TW.read (v := (Value.int .i64 x10.start)) rfl (by decide) (by decide) rfl (fun A w M => (Step.load1 Try.sc2 rfl ((M.cell 1 rfl 0).trans rfl))) ?_
          refine TW.pure (v := (Value.pointer (some ⟨b11, 1, none⟩))) rfl (by decide) (by decide) rfl (fun w => (Step.pure (by kernel_rfl))) ?_
          refine TW.read (v := (Value.int .i64 x10.fin)) rfl (by decide) (by decide) rfl (fun A w M => (Step.load1 Try.sc2 rfl ((M.cell 1 rfl 1).trans rfl))) ?_
          refine TW.pure (v := (Value.bool false)) rfl (by decide) (by decide) rfl (fun w => (Step.cast (congrArg Value.bool h15) (Step.pure (by kernel_rfl)))) ?_
          refine TW.pure (v := (Value.bool false)) rfl (by decide) (by decide) rfl (fun w => (Step.move rfl)) ?_
          refine TW.pure (v := (Value.bool false)) rfl (by decide) (by decide) rfl (fun w => (Step.cast (congrArg Value.bool h17) (Step.move rfl))) ?_
          refine TW.pure (v := (Value.bool false)) rfl (by decide) (by decide) rfl (fun w => (Step.move rfl)) ?_
          refine TW.skip rfl rfl ?_
          refine TW.skip rfl rfl ?_
          refine TW.skip rfl rfl ?_
          refine TW.pure (v := (Value.bool false)) rfl (by decide) (by decide) rfl (fun w => (Step.pick (t := false) rfl rfl)) ?_
          refine TW.pure (v := (Value.bool false)) rfl (by decide) (by decide) rfl (fun w => (Step.pick (t := false) rfl rfl)) ?_
          refine TW.pure (v := (Value.bool false)) rfl (by decide) (by decide) rfl (fun w => (Step.move rfl)) ?_
          refine TW.pure (v := (Value.int .i64 ↑i_)) rfl (by decide) (by decide) rfl (fun w => (Step.move rfl)) ?_
          refine TW.pure (v := (Value.bool true)) rfl (by decide) (by decide) rfl (fun w => (Step.cast (congrArg Value.bool h25) (Step.pure (by kernel_rfl)))) ?_
          refine TW.pure (v := (Value.bool true)) rfl (by decide) (by decide) rfl (fun w => (Step.move rfl)) ?_
          refine TW.pure (v := v) rfl (by decide) (by decide) rfl (fun w => (Step.move rfl)) ?_
          refine TW.pure (v := (Value.int .i64 ↑i_)) rfl (by decide) (by decide) rfl (fun w => (Step.move rfl)) ?_
          refine TW.pure (v := (Value.int .i64 (↑(i_ - 1)))) rfl (by decide) (by decide) rfl (fun w => (Step.cast (congrArg (Value.int .i64) (show (↑i_ : Int) - 1 = ↑(i_ - 1) by omega)) (Step.sub rfl rfl (wrap_i64 (by omega))))) ?_
          refine TW.pure (v := (Value.pointer (some ⟨(sBlk v), sOff v + (i_ - 1) * 2, none⟩))) rfl (by decide) (by decide) rfl (fun w => (Step.indexAddr (i := i_ - 1) (Try.un58).run Try.el65.sized rfl rfl (by omega) hb8 (by omega))) ?_
          refine TW.pure (v := (Value.pointer (some ⟨(sBlk v), sOff v + (i_ - 1) * 2 + 1, none⟩))) rfl (by decide) (by decide) rfl (fun w => (Step.pure (by kernel_rfl))) ?_
          refine TW.read (v := (Value.int .i64 x26.fin)) rfl (by decide) (by decide) rfl (fun A w M => (Step.loadE (k := 1) Try.sc2 (flat_ec (M.rep 0 rfl) hx26 spanE_len) (by decide) rfl rfl)) ?_
          refine TW.pure (v := (Value.pointer (some ⟨b11, 0, none⟩))) rfl (by decide) (by decide) rfl (fun w => (Step.pure (by kernel_rfl))) ?_
          refine TW.read (v := (Value.int .i64 x10.start)) rfl (by decide) (by decide) rfl (fun A w M => (Step.load1 Try.sc2 rfl ((M.cell 1 rfl 0).trans rfl))) ?_
          refine TW.pure (v := (Value.bool (decide ((x26.fin : Int) > (x10.start : Int))))) rfl (by decide) (by decide) rfl (fun w => (Step.pure (by kernel_rfl))) ?_
          refine TW.pure (v := (Value.bool (decide ((x26.fin : Int) > (x10.start : Int))))) rfl (by decide) (by decide) rfl (fun w => (Step.pick (t := true) rfl rfl)) ?_
          refine TW.pure (v := (Value.bool (decide ((x26.fin : Int) > (x10.start : Int))))) rfl (by decide) (by decide) rfl (fun w => (Step.pick (t := false) rfl rfl)) ?_
          refine TW.done (fun w27 M => ?_)
          refine W.cond (t := decide ((x26.fin : Int) > (x10.start : Int))) rfl (fun h28 => ?_) (fun h28 => ?_)
          ·
            have h28p := of_decide_eq_true h28
            refine W.seq' ?_
            refine W.region rfl ?_
            refine WL.step (v := (Value.bool false)) rfl (Step.assign rfl) ?_
            refine WL.nil ?_
            refine W.ret ?_
            refine ⟨.inl rfl, (Value.bool false), ?_, ?_⟩
            · exact ⟨rfl, (Res.r1 (show RV _ _ _ (.tmp 4) (Value.bool false) from by exact rfl))⟩
            refine ⟨?_, M.close [] rfl (by decide) trivial⟩
            refine congrArg Value.bool ?_
            exact (right_bad (by omega) (okAt_no3 hx10 (by omega) hx26 (by omega))).symm
          ·
            have h28p := of_decide_eq_false h28
            refine W.skip ?_
            refine W.region rfl ?_
            refine WL.step (v := (Value.int .i64 (↑i_ + 1))) rfl (Step.add rfl rfl (wrap_i64 (by omega))) ?_
            refine WL.step (v := (Value.int .i64 (↑i_ + 1))) rfl (Step.move rfl) ?_
            refine WL.nil ?_
            replace M := M.sel (L' := []) [] rfl (by decide)
            exact ⟨_, (by omega), i_ + 1, ⟨(by omega), (right_step hi6 (okAt_go hx10 (by omega) (subV_long (by omega) hg.2 (.inl h17)) (prev_go hx26 (by omega)))), rfl⟩, ⟨rfl, rfl, rfl, rfl, rfl, rfl, rfl⟩, M⟩
        ·
          have h25p := of_decide_eq_false h25
          refine W.drawn M [0, 1, 2, 3, 4, 5, 6, 7, 8, 9, 10, 11, 12, 13, 14, 15, 16, 17, 18, 19, 20, 21, 22, 23, 24, 25, 26, 27] [] [] [blk b11 (.cells #[(Value.int .i64 x10.start), (Value.int .i64 x10.fin)] 65)] [SlAt 2 v xs.length (xs.flatMap spanE)] (List.Sublist.cons_cons _ List.Sublist.slnil) (fun _ h => h) Try.mixed (by kernel_rfl) ?_
          refine TW.pure (v := (Value.pointer (some ⟨b11, 0, none⟩))) rfl (by decide) (by decide) rfl (fun w => (Step.pure (by kernel_rfl))) ?_
          refine TW.read (v := (Value.int .i64 x10.start)) rfl (by decide) (by decide) rfl (fun A w M => (Step.load1 Try.sc2 rfl ((M.cell 1 rfl 0).trans rfl))) ?_
          refine TW.pure (v := (Value.pointer (some ⟨b11, 1, none⟩))) rfl (by decide) (by decide) rfl (fun w => (Step.pure (by kernel_rfl))) ?_
          refine TW.read (v := (Value.int .i64 x10.fin)) rfl (by decide) (by decide) rfl (fun A w M => (Step.load1 Try.sc2 rfl ((M.cell 1 rfl 1).trans rfl))) ?_
          refine TW.pure (v := (Value.bool false)) rfl (by decide) (by decide) rfl (fun w => (Step.cast (congrArg Value.bool h15) (Step.pure (by kernel_rfl)))) ?_
          refine TW.pure (v := (Value.bool false)) rfl (by decide) (by decide) rfl (fun w => (Step.move rfl)) ?_
          refine TW.pure (v := (Value.bool false)) rfl (by decide) (by decide) rfl (fun w => (Step.cast (congrArg Value.bool h17) (Step.move rfl))) ?_
          refine TW.pure (v := (Value.bool false)) rfl (by decide) (by decide) rfl (fun w => (Step.move rfl)) ?_
          refine TW.skip rfl rfl ?_
          refine TW.skip rfl rfl ?_
          refine TW.skip rfl rfl ?_
          refine TW.pure (v := (Value.bool false)) rfl (by decide) (by decide) rfl (fun w => (Step.pick (t := false) rfl rfl)) ?_
          refine TW.pure (v := (Value.bool false)) rfl (by decide) (by decide) rfl (fun w => (Step.pick (t := false) rfl rfl)) ?_
          refine TW.pure (v := (Value.bool false)) rfl (by decide) (by decide) rfl (fun w => (Step.move rfl)) ?_
          refine TW.pure (v := (Value.int .i64 ↑i_)) rfl (by decide) (by decide) rfl (fun w => (Step.move rfl)) ?_
          refine TW.pure (v := (Value.bool false)) rfl (by decide) (by decide) rfl (fun w => (Step.cast (congrArg Value.bool h25) (Step.pure (by kernel_rfl)))) ?_
          refine TW.pure (v := (Value.bool false)) rfl (by decide) (by decide) rfl (fun w => (Step.move rfl)) ?_
          refine TW.skip rfl rfl ?_
          refine TW.skip rfl rfl ?_
          refine TW.skip rfl rfl ?_
          refine TW.skip rfl rfl ?_
          refine TW.skip rfl rfl ?_
          refine TW.skip rfl rfl ?_
          refine TW.skip rfl rfl ?_
          refine TW.skip rfl rfl ?_
          refine TW.skip rfl rfl ?_
          refine TW.pure (v := (Value.bool false)) rfl (by decide) (by decide) rfl (fun w => (Step.pick (t := false) rfl rfl)) ?_
          refine TW.pure (v := (Value.bool false)) rfl (by decide) (by decide) rfl (fun w => (Step.pick (t := false) rfl rfl)) ?_
          refine TW.done (fun w29 M => ?_)
          refine W.cond (t := false) rfl (fun h => by cases h) (fun _ => ?_)
          refine W.skip ?_
          refine W.region rfl ?_
          refine WL.step (v := (Value.int .i64 (↑i_ + 1))) rfl (Step.add rfl rfl (wrap_i64 (by omega))) ?_
          refine WL.step (v := (Value.int .i64 (↑i_ + 1))) rfl (Step.move rfl) ?_
          refine WL.nil ?_
          replace M := M.sel (L' := []) [] rfl (by decide)
          exact ⟨_, (by omega), i_ + 1, ⟨(by omega), (right_step hi6 (okAt_go hx10 (by omega) (subV_long (by omega) hg.2 (.inl h17)) (fun j q h => absurd h (by omega)))), rfl⟩, ⟨rfl, rfl, rfl, rfl, rfl, rfl, rfl⟩, M⟩
  ·
    have h7p := of_decide_eq_false h7
    refine W.exit ?_
    refine thn_exit ?_
    refine thn_exit ?_
    refine inBlk_hit ?_
    refine W.seq' ?_
    refine W.region rfl ?_
    refine WL.step (v := (Value.bool true)) rfl (Step.assign rfl) ?_
    refine WL.nil ?_
    refine W.ret ?_
    refine ⟨.inl rfl, (Value.bool true), ?_, ?_⟩
    · exact ⟨rfl, (Res.r1 (show RV _ _ _ (.tmp 4) (Value.bool true) from by exact rfl))⟩
    refine ⟨?_, M.close [] rfl (by decide) trivial⟩
    refine congrArg Value.bool ?_
    rw [rightB, show xs.length = i_ by omega, hi6]

theorem ref17_right {G : Nat → Prop} {w : World} (gap : Int) (v : Value) (xs : List Span)  (hin : ∀ s, s ∈ xs → in64 s.start ∧ in64 s.fin) (hg : in64 gap) (M : Mem G (fun _ => False) w [] [SlAt 2 v xs.length (xs.flatMap spanE)] w) : Rets Try.prog 41 #[(Value.int .i64 gap), v] w fun r w' => r = (Value.bool (rightB gap xs)) ∧ Mem G (fun _ => False) w [] [] w' := by
  refine Rets.enter 77 _ Try.func41 rfl Try.ntmps41 Try.results41 (by simp) ?_
  have hle1 := SlAt.le' (M.rep 0 rfl)
  have sl2 : IsSl v := SlAt.isSl (Mem.rep M 0 rfl)
  obtain ⟨hg1, hg2⟩ := id hg
  refine W.seq' ?_
  refine W.region rfl ?_
  refine WL.step (v := (Value.bool false)) rfl (Step.assign rfl) ?_
  refine WL.nil ?_
  refine W.seq' ?_
  refine W.seq' ?_
  refine W.region rfl ?_
  refine WL.step (v := (Value.int .i64 0)) rfl (Step.assign rfl) ?_
  refine WL.nil ?_
  refine W.block ?_
  refine W.loop (fun kk ρ w' => ∃ (i_ : Nat), ((i_ ≤ xs.length) ∧ (rightN gap xs i_ = true) ∧ kk = xs.length - i_) ∧ ρ.has [(0, (Value.int .i64 gap)), (1, v), (5, (Value.int .i64 ↑i_))] ∧ Mem G (fun _ => False) w [] [SlAt 2 v xs.length (xs.flatMap spanE)]  w') _ ⟨0, ⟨(Nat.zero_le _), rfl, rfl⟩, ⟨rfl, rfl, rfl, rfl, rfl⟩, M⟩ ?_
  rintro _ ρ4 w3 ⟨i_, ⟨hi5, hi6, rfl⟩, hρ, M⟩
  obtain ⟨ρ4, rfl⟩ := hρ.know
  clear hρ
  refine W.seq' ?_
  refine W.seq' ?_
  refine W.region rfl ?_
  refine WL.step (v := (Value.int .i64 ↑i_)) rfl (Step.move rfl) ?_
  refine WL.step (v := v) rfl (Step.move rfl) ?_
  refine WL.step (v := (Value.int .i64 ↑xs.length)) rfl (Step.lenSl Try.un59 rfl (M.rep 0 rfl)) ?_
  refine WL.step (v := (Value.bool (decide ((↑i_ : Int) < (↑xs.length : Int))))) rfl (Step.pure (by kernel_rfl)) ?_
  refine WL.nil ?_
  refine W.cond (t := decide ((↑i_ : Int) < (↑xs.length : Int))) rfl (fun h7 => ?_) (fun h7 => ?_)
  ·
    have h7p := of_decide_eq_true h7
    refine W.skip ?_
    refine W.seq' ?_
    refine W.block ?_
    refine W.seq' ?_
    refine W.seq' ?_
    obtain ⟨cap9, hb8⟩ := SlAt.base (M.rep 0 rfl) (by omega)
    obtain ⟨x10, hx10⟩ := elem_of_lt (xs := xs) (i := i_) (by omega)
    obtain ⟨⟨_, _⟩, ⟨_, _⟩⟩ : (-9223372036854775808 ≤ x10.start ∧ x10.start ≤ 9223372036854775807) ∧ (-9223372036854775808 ≤ x10.fin ∧ x10.fin ≤ 9223372036854775807) := hin _ (List.mem_of_getElem? hx10)
    refine W.drawn M [0, 1, 2, 3, 4, 5, 6, 7, 8, 9, 10] [] [] [] [SlAt 2 v xs.length (xs.flatMap spanE)] List.Sublist.slnil (fun _ h => h) Try.mixed (by kernel_rfl) ?_
    refine TW.pure (v := v) rfl (by decide) (by decide) rfl (fun w => (Step.move rfl)) ?_
    refine TW.pure (v := (Value.int .i64 ↑i_)) rfl (by decide) (by decide) rfl (fun w => (Step.move rfl)) ?_
    refine TW.pure (v := (Value.pointer (some ⟨(sBlk v), sOff v + i_ * 2, none⟩))) rfl (by decide) (by decide) rfl (fun w => (Step.indexAddr (i := i_) (Try.un59).run Try.el62.sized rfl rfl (by omega) hb8 (by omega))) ?_
    refine TW.pure (v := (Value.pointer (some ⟨(sBlk v), sOff v + i_ * 2, none⟩))) rfl (by decide) (by decide) rfl (fun w => (Step.pure (by kernel_rfl))) ?_
    refine TW.read (v := (Value.int .i64 x10.start)) rfl (by decide) (by decide) rfl (fun A w M => (Step.loadE (k := 0) Try.sc2 (flat_ec (M.rep 0 rfl) hx10 spanE_len) (by decide) rfl rfl)) ?_
    refine TW.pure (v := v) rfl (by decide) (by decide) rfl (fun w => (Step.move rfl)) ?_
    refine TW.pure (v := (Value.int .i64 ↑i_)) rfl (by decide) (by decide) rfl (fun w => (Step.move rfl)) ?_
    refine TW.pure (v := (Value.pointer (some ⟨(sBlk v), sOff v + i_ * 2, none⟩))) rfl (by decide) (by decide) rfl (fun w => (Step.indexAddr (i := i_) (Try.un59).run Try.el62.sized rfl rfl (by omega) hb8 (by omega))) ?_
    refine TW.pure (v := (Value.pointer (some ⟨(sBlk v), sOff v + i_ * 2 + 1, none⟩))) rfl (by decide) (by decide) rfl (fun w => (Step.pure (by kernel_rfl))) ?_
    refine TW.read (v := (Value.int .i64 x10.fin)) rfl (by decide) (by decide) rfl (fun A w M => (Step.loadE (k := 1) Try.sc2 (flat_ec (M.rep 0 rfl) hx10 spanE_len) (by decide) rfl rfl)) ?_
    refine TW.pure (v := (Value.bool (decide ((x10.start : Int) ≥ (x10.fin : Int))))) rfl (by decide) (by decide) rfl (fun w => (Step.pure (by kernel_rfl))) ?_
    refine TW.done (fun w11 M => ?_)
    refine W.cond (t := decide ((x10.start : Int) ≥ (x10.fin : Int))) rfl (fun h12 => ?_) (fun h12 => ?_)
    ·
      have h12p := of_decide_eq_true h12
      refine W.seq' ?_
      refine W.region rfl ?_
      refine WL.step (v := (Value.bool false)) rfl (Step.assign rfl) ?_
      refine WL.nil ?_
      refine W.ret ?_
      refine ⟨.inl rfl, (Value.bool false), ?_, ?_⟩
      · exact ⟨rfl, (Res.r1 (show RV _ _ _ (.tmp 4) (Value.bool false) from by exact rfl))⟩
      refine ⟨?_, M.close [] rfl (by decide) trivial⟩
      refine congrArg Value.bool ?_
      exact (right_bad (by omega) (okAt_no1 hx10 (by omega))).symm
    ·
      have h12p := of_decide_eq_false h12
      refine W.skip ?_
      refine W.seq' ?_
      refine W.drawn M [0, 1, 2, 3, 4, 5, 6, 7, 8, 9, 10, 11, 12, 13] [] [] [] [SlAt 2 v xs.length (xs.flatMap spanE)] List.Sublist.slnil (fun _ h => h) Try.mixed (by kernel_rfl) ?_
      refine TW.pure (v := v) rfl (by decide) (by decide) rfl (fun w => (Step.move rfl)) ?_
      refine TW.pure (v := (Value.int .i64 ↑i_)) rfl (by decide) (by decide) rfl (fun w => (Step.move rfl)) ?_
      refine TW.pure (v := (Value.pointer (some ⟨(sBlk v), sOff v + i_ * 2, none⟩))) rfl (by decide) (by decide) rfl (fun w => (Step.indexAddr (i := i_) (Try.un59).run Try.el62.sized rfl rfl (by omega) hb8 (by omega))) ?_
      refine TW.pure (v := (Value.pointer (some ⟨(sBlk v), sOff v + i_ * 2 + 1, none⟩))) rfl (by decide) (by decide) rfl (fun w => (Step.pure (by kernel_rfl))) ?_
      refine TW.read (v := (Value.int .i64 x10.fin)) rfl (by decide) (by decide) rfl (fun A w M => (Step.loadE (k := 1) Try.sc2 (flat_ec (M.rep 0 rfl) hx10 spanE_len) (by decide) rfl rfl)) ?_
      refine TW.pure (v := (Value.int .u64 (IntKind.u64.wrap (x10.fin : Int)))) rfl (by decide) (by decide) rfl (fun w => (Step.conv Try.un2 Try.un23 rfl rfl)) ?_
      refine TW.pure (v := v) rfl (by decide) (by decide) rfl (fun w => (Step.move rfl)) ?_
      refine TW.pure (v := (Value.int .i64 ↑i_)) rfl (by decide) (by decide) rfl (fun w => (Step.move rfl)) ?_
      refine TW.pure (v := (Value.pointer (some ⟨(sBlk v), sOff v + i_ * 2, none⟩))) rfl (by decide) (by decide) rfl (fun w => (Step.indexAddr (i := i_) (Try.un59).run Try.el62.sized rfl rfl (by omega) hb8 (by omega))) ?_
      refine TW.pure (v := (Value.pointer (some ⟨(sBlk v), sOff v + i_ * 2, none⟩))) rfl (by decide) (by decide) rfl (fun w => (Step.pure (by kernel_rfl))) ?_
      refine TW.read (v := (Value.int .i64 x10.start)) rfl (by decide) (by decide) rfl (fun A w M => (Step.loadE (k := 0) Try.sc2 (flat_ec (M.rep 0 rfl) hx10 spanE_len) (by decide) rfl rfl)) ?_
      refine TW.pure (v := (Value.int .u64 (IntKind.u64.wrap (x10.start : Int)))) rfl (by decide) (by decide) rfl (fun w => (Step.conv Try.un2 Try.un23 rfl rfl)) ?_
      refine TW.pure (v := (Value.int .u64 (x10.fin - x10.start))) rfl (by decide) (by decide) rfl (fun w => (Step.cast (congrArg (Value.int .u64) (u64_diff (hin _ (List.mem_of_getElem? hx10)).2 (hin _ (List.mem_of_getElem? hx10)).1 (by omega))) (Step.sub rfl rfl rfl))) ?_
      refine TW.pure (v := (Value.int .u64 (x10.fin - x10.start))) rfl (by decide) (by decide) rfl (fun w => (Step.assign rfl)) ?_
      refine TW.done (fun w13 M => ?_)
      refine W.seq' ?_
      rcases Bool.eq_false_or_eq_true (decide ((gap : Int) > (0 : Int))) with h14 | h14
      ·
        have h14p := of_decide_eq_true h14
        rcases Bool.eq_false_or_eq_true (decide ((x10.fin - x10.start : Int) < (gap : Int))) with h15 | h15
        ·
          have h15p := of_decide_eq_true h15
          refine W.drawn M [0, 1, 2, 3, 4, 5, 6, 7, 8, 9, 10, 11, 12, 13, 14, 15, 16, 17, 18, 19, 20, 21, 22, 23, 24, 25, 26, 27, 28, 29, 30, 31, 32, 33, 34, 35, 36, 37, 38, 39] [] [] [] [SlAt 2 v xs.length (xs.flatMap spanE)] List.Sublist.slnil (fun _ h => h) Try.mixed (by kernel_rfl) ?_
          refine TW.pure (v := (Value.int .i64 gap)) rfl (by decide) (by decide) rfl (fun w => (Step.move rfl)) ?_
          refine TW.pure (v := (Value.bool true)) rfl (by decide) (by decide) rfl (fun w => (Step.cast (congrArg Value.bool h14) (Step.pure (by kernel_rfl)))) ?_
          refine TW.pure (v := (Value.bool true)) rfl (by decide) (by decide) rfl (fun w => (Step.move rfl)) ?_
          refine TW.pure (v := (Value.int .u64 (x10.fin - x10.start))) rfl (by decide) (by decide) rfl (fun w => (Step.move rfl)) ?_
          refine TW.pure (v := (Value.int .i64 gap)) rfl (by decide) (by decide) rfl (fun w => (Step.move rfl)) ?_
          refine TW.pure (v := (Value.int .u64 gap)) rfl (by decide) (by decide) rfl (fun w => (Step.conv Try.un2 Try.un23 rfl (wrap_u64 (by omega)))) ?_
          refine TW.pure (v := (Value.bool true)) rfl (by decide) (by decide) rfl (fun w => (Step.cast (congrArg Value.bool h15) (Step.pure (by kernel_rfl)))) ?_
          refine TW.pure (v := (Value.bool true)) rfl (by decide) (by decide) rfl (fun w => (Step.pick (t := true) rfl rfl)) ?_
          refine TW.pure (v := (Value.bool true)) rfl (by decide) (by decide) rfl (fun w => (Step.move rfl)) ?_
          refine TW.skip rfl rfl ?_
          refine TW.skip rfl rfl ?_
          refine TW.skip rfl rfl ?_
          refine TW.skip rfl rfl ?_
          refine TW.skip rfl rfl ?_
          refine TW.skip rfl rfl ?_
          refine TW.skip rfl rfl ?_
          refine TW.skip rfl rfl ?_
          refine TW.skip rfl rfl ?_
          refine TW.skip rfl rfl ?_
          refine TW.skip rfl rfl ?_
          refine TW.skip rfl rfl ?_
          refine TW.skip rfl rfl ?_
          refine TW.skip rfl rfl ?_
          refine TW.skip rfl rfl ?_
          refine TW.skip rfl rfl ?_
          refine TW.skip rfl rfl ?_
          refine TW.skip rfl rfl ?_
          refine TW.skip rfl rfl ?_
          refine TW.skip rfl rfl ?_
          refine TW.skip rfl rfl ?_
          refine TW.skip rfl rfl ?_
          refine TW.skip rfl rfl ?_
          refine TW.skip rfl rfl ?_
          refine TW.skip rfl rfl ?_
          refine TW.skip rfl rfl ?_
          refine TW.skip rfl rfl ?_
          refine TW.skip rfl rfl ?_
          refine TW.skip rfl rfl ?_
          refine TW.skip rfl rfl ?_
          refine TW.pure (v := (Value.bool true)) rfl (by decide) (by decide) rfl (fun w => (Step.pick (t := true) rfl rfl)) ?_
          refine TW.done (fun w16 M => ?_)
          refine W.cond (t := true) rfl (fun _ => ?_) (fun h => by cases h)
          refine W.seq' ?_
          refine W.region rfl ?_
          refine WL.step (v := (Value.bool false)) rfl (Step.assign rfl) ?_
          refine WL.nil ?_
          refine W.ret ?_
          refine ⟨.inl rfl, (Value.bool false), ?_, ?_⟩
          · exact ⟨rfl, (Res.r1 (show RV _ _ _ (.tmp 4) (Value.bool false) from by exact rfl))⟩
          refine ⟨?_, M.close [] rfl (by decide) trivial⟩
          refine congrArg Value.bool ?_
          exact (right_bad (by omega) (okAt_no2 hx10 (by omega))).symm
        ·
          have h15p := of_decide_eq_false h15
          rcases Bool.eq_false_or_eq_true (decide ((↑i_ : Int) > (0 : Int))) with h17 | h17
          ·
            have h17p := of_decide_eq_true h17
            obtain ⟨x18, hx18⟩ := elem_of_lt (xs := xs) (i := i_ - 1) (by omega)
            obtain ⟨⟨_, _⟩, ⟨_, _⟩⟩ : (-9223372036854775808 ≤ x18.start ∧ x18.start ≤ 9223372036854775807) ∧ (-9223372036854775808 ≤ x18.fin ∧ x18.fin ≤ 9223372036854775807) := hin _ (List.mem_of_getElem? hx18)
            rcases Bool.eq_false_or_eq_true (decide ((x18.fin : Int) > (x10.start : Int))) with h19 | h19
            ·
              have h19p := of_decide_eq_true h19
              refine W.drawn M [0, 1, 2, 3, 4, 5, 6, 7, 8, 9, 10, 11, 12, 13, 14, 15, 16, 17, 18, 19, 20, 21, 22, 23, 24, 25, 26, 27, 28, 29, 30, 31, 32, 33, 34, 35, 36, 37, 38, 39] [] [] [] [SlAt 2 v xs.length (xs.flatMap spanE)] List.Sublist.slnil (fun _ h => h) Try.mixed (by kernel_rfl) ?_
              refine TW.pure (v := (Value.int .i64 gap)) rfl (by decide) (by decide) rfl (fun w => (Step.move rfl)) ?_
              refine TW.pure (v := (Value.bool true)) rfl (by decide) (by decide) rfl (fun w => (Step.cast (congrArg Value.bool h14) (Step.pure (by kernel_rfl)))) ?_
              refine TW.pure (v := (Value.bool true)) rfl (by decide) (by decide) rfl (fun w => (Step.move rfl)) ?_
              refine TW.pure (v := (Value.int .u64 (x10.fin - x10.start))) rfl (by decide) (by decide) rfl (fun w => (Step.move rfl)) ?_
              refine TW.pure (v := (Value.int .i64 gap)) rfl (by decide) (by decide) rfl (fun w => (Step.move rfl)) ?_
              refine TW.pure (v := (Value.int .u64 gap)) rfl (by decide) (by decide) rfl (fun w => (Step.conv Try.un2 Try.un23 rfl (wrap_u64 (by omega)))) ?_
              refine TW.pure (v := (Value.bool false)) rfl (by decide) (by decide) rfl (fun w => (Step.cast (congrArg Value.bool h15) (Step.pure (by kernel_rfl)))) ?_
              refine TW.pure (v := (Value.bool false)) rfl (by decide) (by decide) rfl (fun w => (Step.pick (t := true) rfl rfl)) ?_
              refine TW.pure (v := (Value.bool false)) rfl (by decide) (by decide) rfl (fun w => (Step.move rfl)) ?_
              refine TW.pure (v := (Value.int .i64 ↑i_)) rfl (by decide) (by decide) rfl (fun w => (Step.move rfl)) ?_
              refine TW.pure (v := (Value.bool true)) rfl (by decide) (by decide) rfl (fun w => (Step.cast (congrArg Value.bool h17) (Step.pure (by kernel_rfl)))) ?_
              refine TW.pure (v := (Value.bool true)) rfl (by decide) (by decide) rfl (fun w => (Step.move rfl)) ?_
              refine TW.pure (v := v) rfl (by decide) (by decide) rfl (fun w => (Step.move rfl)) ?_
              refine TW.pure (v := (Value.int .i64 ↑i_)) rfl (by decide) (by decide) rfl (fun w => (Step.move rfl)) ?_
              refine TW.pure (v := (Value.int .i64 (↑(i_ - 1)))) rfl (by decide) (by decide) rfl (fun w => (Step.cast (congrArg (Value.int .i64) (show (↑i_ : Int) - 1 = ↑(i_ - 1) by omega)) (Step.sub rfl rfl (wrap_i64 (by omega))))) ?_
              refine TW.pure (v := (Value.pointer (some ⟨(sBlk v), sOff v + (i_ - 1) * 2, none⟩))) rfl (by decide) (by decide) rfl (fun w => (Step.indexAddr (i := i_ - 1) (Try.un59).run Try.el62.sized rfl rfl (by omega) hb8 (by omega))) ?_
              refine TW.pure (v := (Value.pointer (some ⟨(sBlk v), sOff v + (i_ - 1) * 2 + 1, none⟩))) rfl (by decide) (by decide) rfl (fun w => (Step.pure (by kernel_rfl))) ?_
              refine TW.read (v := (Value.int .i64 x18.fin)) rfl (by decide) (by decide) rfl (fun A w M => (Step.loadE (k := 1) Try.sc2 (flat_ec (M.rep 0 rfl) hx18 spanE_len) (by decide) rfl rfl)) ?_
              refine TW.pure (v := v) rfl (by decide) (by decide) rfl (fun w => (Step.move rfl)) ?_
              refine TW.pure (v := (Value.int .i64 ↑i_)) rfl (by decide) (by decide) rfl (fun w => (Step.move rfl)) ?_
              refine TW.pure (v := (Value.pointer (some ⟨(sBlk v), sOff v + i_ * 2, none⟩))) rfl (by decide) (by decide) rfl (fun w => (Step.indexAddr (i := i_) (Try.un59).run Try.el62.sized rfl rfl (by omega) hb8 (by omega))) ?_
              refine TW.pure (v := (Value.pointer (some ⟨(sBlk v), sOff v + i_ * 2, none⟩))) rfl (by decide) (by decide) rfl (fun w => (Step.pure (by kernel_rfl))) ?_
              refine TW.read (v := (Value.int .i64 x10.start)) rfl (by decide) (by decide) rfl (fun A w M => (Step.loadE (k := 0) Try.sc2 (flat_ec (M.rep 0 rfl) hx10 spanE_len) (by decide) rfl rfl)) ?_
              refine TW.pure (v := (Value.bool true)) rfl (by decide) (by decide) rfl (fun w => (Step.cast (congrArg Value.bool h19) (Step.pure (by kernel_rfl)))) ?_
              refine TW.pure (v := (Value.bool true)) rfl (by decide) (by decide) rfl (fun w => (Step.move rfl)) ?_
              refine TW.skip rfl rfl ?_
              refine TW.skip rfl rfl ?_
              refine TW.skip rfl rfl ?_
              refine TW.skip rfl rfl ?_
              refine TW.skip rfl rfl ?_
              refine TW.skip rfl rfl ?_
              refine TW.skip rfl rfl ?_
              refine TW.skip rfl rfl ?_
              refine TW.skip rfl rfl ?_
              refine TW.skip rfl rfl ?_
              refine TW.skip rfl rfl ?_
              refine TW.skip rfl rfl ?_
              refine TW.pure (v := (Value.bool true)) rfl (by decide) (by decide) rfl (fun w => (Step.pick (t := true) rfl rfl)) ?_
              refine TW.pure (v := (Value.bool true)) rfl (by decide) (by decide) rfl (fun w => (Step.pick (t := true) rfl rfl)) ?_
              refine TW.pure (v := (Value.bool true)) rfl (by decide) (by decide) rfl (fun w => (Step.pick (t := false) rfl rfl)) ?_
              refine TW.done (fun w20 M => ?_)
              refine W.cond (t := true) rfl (fun _ => ?_) (fun h => by cases h)
              refine W.seq' ?_
              refine W.region rfl ?_
              refine WL.step (v := (Value.bool false)) rfl (Step.assign rfl) ?_
              refine WL.nil ?_
              refine W.ret ?_
              refine ⟨.inl rfl, (Value.bool false), ?_, ?_⟩
              · exact ⟨rfl, (Res.r1 (show RV _ _ _ (.tmp 4) (Value.bool false) from by exact rfl))⟩
              refine ⟨?_, M.close [] rfl (by decide) trivial⟩
              refine congrArg Value.bool ?_
              have hpv_ := right_prev hi6 hx10 hx18 (by omega)
              exact (right_bad (by omega) (okAt_no3 hx10 (by omega) hx18 (by omega))).symm
            ·
              have h19p := of_decide_eq_false h19
              refine W.drawn M [0, 1, 2, 3, 4, 5, 6, 7, 8, 9, 10, 11, 12, 13, 14, 15, 16, 17, 18, 19, 20, 21, 22, 23, 24, 25, 26, 27, 28, 29, 30, 31, 32, 33, 34, 35, 36, 37, 38, 39] [] [] [] [SlAt 2 v xs.length (xs.flatMap spanE)] List.Sublist.slnil (fun _ h => h) Try.mixed (by kernel_rfl) ?_
              refine TW.pure (v := (Value.int .i64 gap)) rfl (by decide) (by decide) rfl (fun w => (Step.move rfl)) ?_
              refine TW.pure (v := (Value.bool true)) rfl (by decide) (by decide) rfl (fun w => (Step.cast (congrArg Value.bool h14) (Step.pure (by kernel_rfl)))) ?_
              refine TW.pure (v := (Value.bool true)) rfl (by decide) (by decide) rfl (fun w => (Step.move rfl)) ?_
              refine TW.pure (v := (Value.int .u64 (x10.fin - x10.start))) rfl (by decide) (by decide) rfl (fun w => (Step.move rfl)) ?_
              refine TW.pure (v := (Value.int .i64 gap)) rfl (by decide) (by decide) rfl (fun w => (Step.move rfl)) ?_
              refine TW.pure (v := (Value.int .u64 gap)) rfl (by decide) (by decide) rfl (fun w => (Step.conv Try.un2 Try.un23 rfl (wrap_u64 (by omega)))) ?_
              refine TW.pure (v := (Value.bool false)) rfl (by decide) (by decide) rfl (fun w => (Step.cast (congrArg Value.bool h15) (Step.pure (by kernel_rfl)))) ?_
              refine TW.pure (v := (Value.bool false)) rfl (by decide) (by decide) rfl (fun w => (Step.pick (t := true) rfl rfl)) ?_
              refine TW.pure (v := (Value.bool false)) rfl (by decide) (by decide) rfl (fun w => (Step.move rfl)) ?_
              refine TW.pure (v := (Value.int .i64 ↑i_)) rfl (by decide) (by decide) rfl (fun w => (Step.move rfl)) ?_
              refine TW.pure (v := (Value.bool true)) rfl (by decide) (by decide) rfl (fun w => (Step.cast (congrArg Value.bool h17) (Step.pure (by kernel_rfl)))) ?_
              refine TW.pure (v := (Value.bool true)) rfl (by decide) (by decide) rfl (fun w => (Step.move rfl)) ?_
              refine TW.pure (v := v) rfl (by decide) (by decide) rfl (fun w => (Step.move rfl)) ?_
              refine TW.pure (v := (Value.int .i64 ↑i_)) rfl (by decide) (by decide) rfl (fun w => (Step.move rfl)) ?_
              refine TW.pure (v := (Value.int .i64 (↑(i_ - 1)))) rfl (by decide) (by decide) rfl (fun w => (Step.cast (congrArg (Value.int .i64) (show (↑i_ : Int) - 1 = ↑(i_ - 1) by omega)) (Step.sub rfl rfl (wrap_i64 (by omega))))) ?_
              refine TW.pure (v := (Value.pointer (some ⟨(sBlk v), sOff v + (i_ - 1) * 2, none⟩))) rfl (by decide) (by decide) rfl (fun w => (Step.indexAddr (i := i_ - 1) (Try.un59).run Try.el62.sized rfl rfl (by omega) hb8 (by omega))) ?_
              refine TW.pure (v := (Value.pointer (some ⟨(sBlk v), sOff v + (i_ - 1) * 2 + 1, none⟩))) rfl (by decide) (by decide) rfl (fun w => (Step.pure (by kernel_rfl))) ?_
              refine TW.read (v := (Value.int .i64 x18.fin)) rfl (by decide) (by decide) rfl (fun A w M => (Step.loadE (k := 1) Try.sc2 (flat_ec (M.rep 0 rfl) hx18 spanE_len) (by decide) rfl rfl)) ?_
              refine TW.pure (v := v) rfl (by decide) (by decide) rfl (fun w => (Step.move rfl)) ?_
              refine TW.pure (v := (Value.int .i64 ↑i_)) rfl (by decide) (by decide) rfl (fun w => (Step.move rfl)) ?_
              refine TW.pure (v := (Value.pointer (some ⟨(sBlk v), sOff v + i_ * 2, none⟩))) rfl (by decide) (by decide) rfl (fun w => (Step.indexAddr (i := i_) (Try.un59).run Try.el62.sized rfl rfl (by omega) hb8 (by omega))) ?_
              refine TW.pure (v := (Value.pointer (some ⟨(sBlk v), sOff v + i_ * 2, none⟩))) rfl (by decide) (by decide) rfl (fun w => (Step.pure (by kernel_rfl))) ?_
              refine TW.read (v := (Value.int .i64 x10.start)) rfl (by decide) (by decide) rfl (fun A w M => (Step.loadE (k := 0) Try.sc2 (flat_ec (M.rep 0 rfl) hx10 spanE_len) (by decide) rfl rfl)) ?_
              refine TW.pure (v := (Value.bool false)) rfl (by decide) (by decide) rfl (fun w => (Step.cast (congrArg Value.bool h19) (Step.pure (by kernel_rfl)))) ?_
              refine TW.pure (v := (Value.bool false)) rfl (by decide) (by decide) rfl (fun w => (Step.move rfl)) ?_
              refine TW.pure (v := v) rfl (by decide) (by decide) rfl (fun w => (Step.move rfl)) ?_
              refine TW.pure (v := (Value.int .i64 ↑i_)) rfl (by decide) (by decide) rfl (fun w => (Step.move rfl)) ?_
              refine TW.pure (v := (Value.int .i64 (↑(i_ - 1)))) rfl (by decide) (by decide) rfl (fun w => (Step.cast (congrArg (Value.int .i64) (show (↑i_ : Int) - 1 = ↑(i_ - 1) by omega)) (Step.sub rfl rfl (wrap_i64 (by omega))))) ?_
              refine TW.pure (v := (Value.pointer (some ⟨(sBlk v), sOff v + (i_ - 1) * 2, none⟩))) rfl (by decide) (by decide) rfl (fun w => (Step.indexAddr (i := i_ - 1) (Try.un59).run Try.el62.sized rfl rfl (by omega) hb8 (by omega))) ?_
              refine TW.pure (v := (Value.pointer (some ⟨(sBlk v), sOff v + (i_ - 1) * 2, none⟩))) rfl (by decide) (by decide) rfl (fun w => (Step.pure (by kernel_rfl))) ?_
              refine TW.read (v := (Value.int .i64 x18.start)) rfl (by decide) (by decide) rfl (fun A w M => (Step.loadE (k := 0) Try.sc2 (flat_ec (M.rep 0 rfl) hx18 spanE_len) (by decide) rfl rfl)) ?_
              refine TW.pure (v := v) rfl (by decide) (by decide) rfl (fun w => (Step.move rfl)) ?_
              refine TW.pure (v := (Value.int .i64 ↑i_)) rfl (by decide) (by decide) rfl (fun w => (Step.move rfl)) ?_
              refine TW.pure (v := (Value.pointer (some ⟨(sBlk v), sOff v + i_ * 2, none⟩))) rfl (by decide) (by decide) rfl (fun w => (Step.indexAddr (i := i_) (Try.un59).run Try.el62.sized rfl rfl (by omega) hb8 (by omega))) ?_
              refine TW.pure (v := (Value.pointer (some ⟨(sBlk v), sOff v + i_ * 2, none⟩))) rfl (by decide) (by decide) rfl (fun w => (Step.pure (by kernel_rfl))) ?_
              refine TW.read (v := (Value.int .i64 x10.start)) rfl (by decide) (by decide) rfl (fun A w M => (Step.loadE (k := 0) Try.sc2 (flat_ec (M.rep 0 rfl) hx10 spanE_len) (by decide) rfl rfl)) ?_
              refine TW.pure (v := (Value.bool (decide ((x18.start : Int) ≥ (x10.start : Int))))) rfl (by decide) (by decide) rfl (fun w => (Step.pure (by kernel_rfl))) ?_
              refine TW.pure (v := (Value.bool (decide ((x18.start : Int) ≥ (x10.start : Int))))) rfl (by decide) (by decide) rfl (fun w => (Step.pick (t := false) rfl rfl)) ?_
              refine TW.pure (v := (Value.bool (decide ((x18.start : Int) ≥ (x10.start : Int))))) rfl (by decide) (by decide) rfl (fun w => (Step.pick (t := true) rfl rfl)) ?_
              refine TW.pure (v := (Value.bool (decide ((x18.start : Int) ≥ (x10.start : Int))))) rfl (by decide) (by decide) rfl (fun w => (Step.pick (t := false) rfl rfl)) ?_
              refine TW.done (fun w21 M => ?_)
              refine W.cond (t := decide ((x18.start : Int) ≥ (x10.start : Int))) rfl (fun h22 => ?_) (fun h22 => ?_)
              ·
                have h22p := of_decide_eq_true h22
                refine W.seq' ?_
                refine W.region rfl ?_
                refine WL.step (v := (Value.bool false)) rfl (Step.assign rfl) ?_
                refine WL.nil ?_
                refine W.ret ?_
                refine ⟨.inl rfl, (Value.bool false), ?_, ?_⟩
                · exact ⟨rfl, (Res.r1 (show RV _ _ _ (.tmp 4) (Value.bool false) from by exact rfl))⟩
                refine ⟨?_, M.close [] rfl (by decide) trivial⟩
                refine congrArg Value.bool ?_
                have hpv_ := right_prev hi6 hx10 hx18 (by omega)
                exact (right_bad (by omega) (okAt_no3 hx10 (by omega) hx18 (by omega))).symm
              ·
                have h22p := of_decide_eq_false h22
                refine W.skip ?_
                refine W.region rfl ?_
                refine WL.step (v := (Value.int .i64 ↑i_)) rfl (Step.move rfl) ?_
                refine WL.step (v := (Value.int .i64 (↑i_ + 1))) rfl (Step.add rfl rfl (wrap_i64 (by omega))) ?_
                refine WL.step (v := (Value.int .i64 (↑i_ + 1))) rfl (Step.assign rfl) ?_
                refine WL.nil ?_
                exact ⟨_, (by omega), i_ + 1, ⟨(by omega), (right_step hi6 (okAt_go hx10 (by omega) (by omega) (prev_go hx18 (by omega)))), rfl⟩, ⟨rfl, rfl, rfl, rfl, rfl⟩, M⟩
          ·
            have h17p := of_decide_eq_false h17
            refine W.drawn M [0, 1, 2, 3, 4, 5, 6, 7, 8, 9, 10, 11, 12, 13, 14, 15, 16, 17, 18, 19, 20, 21, 22, 23, 24, 25, 26, 27, 28, 29, 30, 31, 32, 33, 34, 35, 36, 37, 38, 39] [] [] [] [SlAt 2 v xs.length (xs.flatMap spanE)] List.Sublist.slnil (fun _ h => h) Try.mixed (by kernel_rfl) ?_
            refine TW.pure (v := (Value.int .i64 gap)) rfl (by decide) (by decide) rfl (fun w => (Step.move rfl)) ?_
            refine TW.pure (v := (Value.bool true)) rfl (by decide) (by decide) rfl (fun w => (Step.cast (congrArg Value.bool h14) (Step.pure (by kernel_rfl)))) ?_
            refine TW.pure (v := (Value.bool true)) rfl (by decide) (by decide) rfl (fun w => (Step.move rfl)) ?_
            refine TW.pure (v := (Value.int .u64 (x10.fin - x10.start))) rfl (by decide) (by decide) rfl (fun w => (Step.move rfl)) ?_
            refine TW.pure (v := (Value.int .i64 gap)) rfl (by decide) (by decide) rfl (fun w => (Step.move rfl)) ?_
            refine TW.pure (v := (Value.int .u64 gap)) rfl (by decide) (by decide) rfl (fun w => (Step.conv Try.un2 Try.un23 rfl (wrap_u64 (by omega)))) ?_
            refine TW.pure (v := (Value.bool false)) rfl (by decide) (by decide) rfl (fun w => (Step.cast (congrArg Value.bool h15) (Step.pure (by kernel_rfl)))) ?_
            refine TW.pure (v := (Value.bool false)) rfl (by decide) (by decide) rfl (fun w => (Step.pick (t := true) rfl rfl)) ?_
            refine TW.pure (v := (Value.bool false)) rfl (by decide) (by decide) rfl (fun w => (Step.move rfl)) ?_
            refine TW.pure (v := (Value.int .i64 ↑i_)) rfl (by decide) (by decide) rfl (fun w => (Step.move rfl)) ?_
            refine TW.pure (v := (Value.bool false)) rfl (by decide) (by decide) rfl (fun w => (Step.cast (congrArg Value.bool h17) (Step.pure (by kernel_rfl)))) ?_
            refine TW.pure (v := (Value.bool false)) rfl (by decide) (by decide) rfl (fun w => (Step.move rfl)) ?_
            refine TW.skip rfl rfl ?_
            refine TW.skip rfl rfl ?_
            refine TW.skip rfl rfl ?_
            refine TW.skip rfl rfl ?_
            refine TW.skip rfl rfl ?_
            refine TW.skip rfl rfl ?_
            refine TW.skip rfl rfl ?_
            refine TW.skip rfl rfl ?_
            refine TW.skip rfl rfl ?_
            refine TW.skip rfl rfl ?_
            refine TW.skip rfl rfl ?_
            refine TW.skip rfl rfl ?_
            refine TW.skip rfl rfl ?_
            refine TW.skip rfl rfl ?_
            refine TW.skip rfl rfl ?_
            refine TW.skip rfl rfl ?_
            refine TW.skip rfl rfl ?_
            refine TW.skip rfl rfl ?_
            refine TW.skip rfl rfl ?_
            refine TW.skip rfl rfl ?_
            refine TW.skip rfl rfl ?_
            refine TW.skip rfl rfl ?_
            refine TW.skip rfl rfl ?_
            refine TW.skip rfl rfl ?_
            refine TW.skip rfl rfl ?_
            refine TW.skip rfl rfl ?_
            refine TW.pure (v := (Value.bool false)) rfl (by decide) (by decide) rfl (fun w => (Step.pick (t := false) rfl rfl)) ?_
            refine TW.pure (v := (Value.bool false)) rfl (by decide) (by decide) rfl (fun w => (Step.pick (t := false) rfl rfl)) ?_
            refine TW.done (fun w23 M => ?_)
            refine W.cond (t := false) rfl (fun h => by cases h) (fun _ => ?_)
            refine W.skip ?_
            refine W.region rfl ?_
            refine WL.step (v := (Value.int .i64 ↑i_)) rfl (Step.move rfl) ?_
            refine WL.step (v := (Value.int .i64 (↑i_ + 1))) rfl (Step.add rfl rfl (wrap_i64 (by omega))) ?_
            refine WL.step (v := (Value.int .i64 (↑i_ + 1))) rfl (Step.assign rfl) ?_
            refine WL.nil ?_
            exact ⟨_, (by omega), i_ + 1, ⟨(by omega), (right_step hi6 (okAt_go hx10 (by omega) (by omega) (fun j q h => absurd h (by omega)))), rfl⟩, ⟨rfl, rfl, rfl, rfl, rfl⟩, M⟩
      ·
        have h14p := of_decide_eq_false h14
        rcases Bool.eq_false_or_eq_true (decide ((↑i_ : Int) > (0 : Int))) with h24 | h24
        ·
          have h24p := of_decide_eq_true h24
          obtain ⟨x25, hx25⟩ := elem_of_lt (xs := xs) (i := i_ - 1) (by omega)
          obtain ⟨⟨_, _⟩, ⟨_, _⟩⟩ : (-9223372036854775808 ≤ x25.start ∧ x25.start ≤ 9223372036854775807) ∧ (-9223372036854775808 ≤ x25.fin ∧ x25.fin ≤ 9223372036854775807) := hin _ (List.mem_of_getElem? hx25)
          rcases Bool.eq_false_or_eq_true (decide ((x25.fin : Int) > (x10.start : Int))) with h26 | h26
          ·
            have h26p := of_decide_eq_true h26
            refine W.drawn M [0, 1, 2, 3, 4, 5, 6, 7, 8, 9, 10, 11, 12, 13, 14, 15, 16, 17, 18, 19, 20, 21, 22, 23, 24, 25, 26, 27, 28, 29, 30, 31, 32, 33, 34, 35, 36, 37, 38, 39] [] [] [] [SlAt 2 v xs.length (xs.flatMap spanE)] List.Sublist.slnil (fun _ h => h) Try.mixed (by kernel_rfl) ?_
            refine TW.pure (v := (Value.int .i64 gap)) rfl (by decide) (by decide) rfl (fun w => (Step.move rfl)) ?_
            refine TW.pure (v := (Value.bool false)) rfl (by decide) (by decide) rfl (fun w => (Step.cast (congrArg Value.bool h14) (Step.pure (by kernel_rfl)))) ?_
            refine TW.pure (v := (Value.bool false)) rfl (by decide) (by decide) rfl (fun w => (Step.move rfl)) ?_
            refine TW.skip rfl rfl ?_
            refine TW.skip rfl rfl ?_
            refine TW.skip rfl rfl ?_
            refine TW.skip rfl rfl ?_
            refine TW.pure (v := (Value.bool false)) rfl (by decide) (by decide) rfl (fun w => (Step.pick (t := false) rfl rfl)) ?_
            refine TW.pure (v := (Value.bool false)) rfl (by decide) (by decide) rfl (fun w => (Step.move rfl)) ?_
            refine TW.pure (v := (Value.int .i64 ↑i_)) rfl (by decide) (by decide) rfl (fun w => (Step.move rfl)) ?_
            refine TW.pure (v := (Value.bool true)) rfl (by decide) (by decide) rfl (fun w => (Step.cast (congrArg Value.bool h24) (Step.pure (by kernel_rfl)))) ?_
            refine TW.pure (v := (Value.bool true)) rfl (by decide) (by decide) rfl (fun w => (Step.move rfl)) ?_
            refine TW.pure (v := v) rfl (by decide) (by decide) rfl (fun w => (Step.move rfl)) ?_
            refine TW.pure (v := (Value.int .i64 ↑i_)) rfl (by decide) (by decide) rfl (fun w => (Step.move rfl)) ?_
            refine TW.pure (v := (Value.int .i64 (↑(i_ - 1)))) rfl (by decide) (by decide) rfl (fun w => (Step.cast (congrArg (Value.int .i64) (show (↑i_ : Int) - 1 = ↑(i_ - 1) by omega)) (Step.sub rfl rfl (wrap_i64 (by omega))))) ?_
            refine TW.pure (v := (Value.pointer (some ⟨(sBlk v), sOff v + (i_ - 1) * 2, none⟩))) rfl (by decide) (by decide) rfl (fun w => (Step.indexAddr (i := i_ - 1) (Try.un59).run Try.el62.sized rfl rfl (by omega) hb8 (by omega))) ?_
            refine TW.pure (v := (Value.pointer (some ⟨(sBlk v), sOff v + (i_ - 1) * 2 + 1, none⟩))) rfl (by decide) (by decide) rfl (fun w => (Step.pure (by kernel_rfl))) ?_
            refine TW.read (v := (Value.int .i64 x25.fin)) rfl (by decide) (by decide) rfl (fun A w M => (Step.loadE (k := 1) Try.sc2 (flat_ec (M.rep 0 rfl) hx25 spanE_len) (by decide) rfl rfl)) ?_
            refine TW.pure (v := v) rfl (by decide) (by decide) rfl (fun w => (Step.move rfl)) ?_
            refine TW.pure (v := (Value.int .i64 ↑i_)) rfl (by decide) (by decide) rfl (fun w => (Step.move rfl)) ?_
            refine TW.pure (v := (Value.pointer (some ⟨(sBlk v), sOff v + i_ * 2, none⟩))) rfl (by decide) (by decide) rfl (fun w => (Step.indexAddr (i := i_) (Try.un59).run Try.el62.sized rfl rfl (by omega) hb8 (by omega))) ?_
            refine TW.pure (v := (Value.pointer (some ⟨(sBlk v), sOff v + i_ * 2, none⟩))) rfl (by decide) (by decide) rfl (fun w => (Step.pure (by kernel_rfl))) ?_
            refine TW.read (v := (Value.int .i64 x10.start)) rfl (by decide) (by decide) rfl (fun A w M => (Step.loadE (k := 0) Try.sc2 (flat_ec (M.rep 0 rfl) hx10 spanE_len) (by decide) rfl rfl)) ?_
            refine TW.pure (v := (Value.bool true)) rfl (by decide) (by decide) rfl (fun w => (Step.cast (congrArg Value.bool h26) (Step.pure (by kernel_rfl)))) ?_
            refine TW.pure (v := (Value.bool true)) rfl (by decide) (by decide) rfl (fun w => (Step.move rfl)) ?_
            refine TW.skip rfl rfl ?_
            refine TW.skip rfl rfl ?_
            refine TW.skip rfl rfl ?_
            refine TW.skip rfl rfl ?_
            refine TW.skip rfl rfl ?_
            refine TW.skip rfl rfl ?_
            refine TW.skip rfl rfl ?_
            refine TW.skip rfl rfl ?_
            refine TW.skip rfl rfl ?_
            refine TW.skip rfl rfl ?_
            refine TW.skip rfl rfl ?_
            refine TW.skip rfl rfl ?_
            refine TW.pure (v := (Value.bool true)) rfl (by decide) (by decide) rfl (fun w => (Step.pick (t := true) rfl rfl)) ?_
            refine TW.pure (v := (Value.bool true)) rfl (by decide) (by decide) rfl (fun w => (Step.pick (t := true) rfl rfl)) ?_
            refine TW.pure (v := (Value.bool true)) rfl (by decide) (by decide) rfl (fun w => (Step.pick (t := false) rfl rfl)) ?_
            refine TW.done (fun w27 M => ?_)
            refine W.cond (t := true) rfl (fun _ => ?_) (fun h => by cases h)
            refine W.seq' ?_
            refine W.region rfl ?_
            refine WL.step (v := (Value.bool false)) rfl (Step.assign rfl) ?_
            refine WL.nil ?_
            refine W.ret ?_
            refine ⟨.inl rfl, (Value.bool false), ?_, ?_⟩
            · exact ⟨rfl, (Res.r1 (show RV _ _ _ (.tmp 4) (Value.bool false) from by exact rfl))⟩
            refine ⟨?_, M.close [] rfl (by decide) trivial⟩
            refine congrArg Value.bool ?_
            have hpv_ := right_prev hi6 hx10 hx25 (by omega)
            exact (right_bad (by omega) (okAt_no3 hx10 (by omega) hx25 (by omega))).symm
          ·
            have h26p := of_decide_eq_false h26
            refine W.drawn M [0, 1, 2, 3, 4, 5, 6, 7, 8, 9, 10, 11, 12, 13, 14, 15, 16, 17, 18, 19, 20, 21, 22, 23, 24, 25, 26, 27, 28, 29, 30, 31, 32, 33, 34, 35, 36, 37, 38, 39] [] [] [] [SlAt 2 v xs.length (xs.flatMap spanE)] List.Sublist.slnil (fun _ h => h) Try.mixed (by kernel_rfl) ?_
            refine TW.pure (v := (Value.int .i64 gap)) rfl (by decide) (by decide) rfl (fun w => (Step.move rfl)) ?_
            refine TW.pure (v := (Value.bool false)) rfl (by decide) (by decide) rfl (fun w => (Step.cast (congrArg Value.bool h14) (Step.pure (by kernel_rfl)))) ?_
            refine TW.pure (v := (Value.bool false)) rfl (by decide) (by decide) rfl (fun w => (Step.move rfl)) ?_
            refine TW.skip rfl rfl ?_
            refine TW.skip rfl rfl ?_
            refine TW.skip rfl rfl ?_
            refine TW.skip rfl rfl ?_
            refine TW.pure (v := (Value.bool false)) rfl (by decide) (by decide) rfl (fun w => (Step.pick (t := false) rfl rfl)) ?_
            refine TW.pure (v := (Value.bool false)) rfl (by decide) (by decide) rfl (fun w => (Step.move rfl)) ?_
            refine TW.pure (v := (Value.int .i64 ↑i_)) rfl (by decide) (by decide) rfl (fun w => (Step.move rfl)) ?_
            refine TW.pure (v := (Value.bool true)) rfl (by decide) (by decide) rfl (fun w => (Step.cast (congrArg Value.bool h24) (Step.pure (by kernel_rfl)))) ?_
            refine TW.pure (v := (Value.bool true)) rfl (by decide) (by decide) rfl (fun w => (Step.move rfl)) ?_
            refine TW.pure (v := v) rfl (by decide) (by decide) rfl (fun w => (Step.move rfl)) ?_
            refine TW.pure (v := (Value.int .i64 ↑i_)) rfl (by decide) (by decide) rfl (fun w => (Step.move rfl)) ?_
            refine TW.pure (v := (Value.int .i64 (↑(i_ - 1)))) rfl (by decide) (by decide) rfl (fun w => (Step.cast (congrArg (Value.int .i64) (show (↑i_ : Int) - 1 = ↑(i_ - 1) by omega)) (Step.sub rfl rfl (wrap_i64 (by omega))))) ?_
            refine TW.pure (v := (Value.pointer (some ⟨(sBlk v), sOff v + (i_ - 1) * 2, none⟩))) rfl (by decide) (by decide) rfl (fun w => (Step.indexAddr (i := i_ - 1) (Try.un59).run Try.el62.sized rfl rfl (by omega) hb8 (by omega))) ?_
            refine TW.pure (v := (Value.pointer (some ⟨(sBlk v), sOff v + (i_ - 1) * 2 + 1, none⟩))) rfl (by decide) (by decide) rfl (fun w => (Step.pure (by kernel_rfl))) ?_
            refine TW.read (v := (Value.int .i64 x25.fin)) rfl (by decide) (by decide) rfl (fun A w M => (Step.loadE (k := 1) Try.sc2 (flat_ec (M.rep 0 rfl) hx25 spanE_len) (by decide) rfl rfl)) ?_
            refine TW.pure (v := v) rfl (by decide) (by decide) rfl (fun w => (Step.move rfl)) ?_
            refine TW.pure (v := (Value.int .i64 ↑i_)) rfl (by decide) (by decide) rfl (fun w => (Step.move rfl)) ?_
            refine TW.pure (v := (Value.pointer (some ⟨(sBlk v), sOff v + i_ * 2, none⟩))) rfl (by decide) (by decide) rfl (fun w => (Step.indexAddr (i := i_) (Try.un59).run Try.el62.sized rfl rfl (by omega) hb8 (by omega))) ?_
            refine TW.pure (v := (Value.pointer (some ⟨(sBlk v), sOff v + i_ * 2, none⟩))) rfl (by decide) (by decide) rfl (fun w => (Step.pure (by kernel_rfl))) ?_
            refine TW.read (v := (Value.int .i64 x10.start)) rfl (by decide) (by decide) rfl (fun A w M => (Step.loadE (k := 0) Try.sc2 (flat_ec (M.rep 0 rfl) hx10 spanE_len) (by decide) rfl rfl)) ?_
            refine TW.pure (v := (Value.bool false)) rfl (by decide) (by decide) rfl (fun w => (Step.cast (congrArg Value.bool h26) (Step.pure (by kernel_rfl)))) ?_
            refine TW.pure (v := (Value.bool false)) rfl (by decide) (by decide) rfl (fun w => (Step.move rfl)) ?_
            refine TW.pure (v := v) rfl (by decide) (by decide) rfl (fun w => (Step.move rfl)) ?_
            refine TW.pure (v := (Value.int .i64 ↑i_)) rfl (by decide) (by decide) rfl (fun w => (Step.move rfl)) ?_
            refine TW.pure (v := (Value.int .i64 (↑(i_ - 1)))) rfl (by decide) (by decide) rfl (fun w => (Step.cast (congrArg (Value.int .i64) (show (↑i_ : Int) - 1 = ↑(i_ - 1) by omega)) (Step.sub rfl rfl (wrap_i64 (by omega))))) ?_
            refine TW.pure (v := (Value.pointer (some ⟨(sBlk v), sOff v + (i_ - 1) * 2, none⟩))) rfl (by decide) (by decide) rfl (fun w => (Step.indexAddr (i := i_ - 1) (Try.un59).run Try.el62.sized rfl rfl (by omega) hb8 (by omega))) ?_
            refine TW.pure (v := (Value.pointer (some ⟨(sBlk v), sOff v + (i_ - 1) * 2, none⟩))) rfl (by decide) (by decide) rfl (fun w => (Step.pure (by kernel_rfl))) ?_
            refine TW.read (v := (Value.int .i64 x25.start)) rfl (by decide) (by decide) rfl (fun A w M => (Step.loadE (k := 0) Try.sc2 (flat_ec (M.rep 0 rfl) hx25 spanE_len) (by decide) rfl rfl)) ?_
            refine TW.pure (v := v) rfl (by decide) (by decide) rfl (fun w => (Step.move rfl)) ?_
            refine TW.pure (v := (Value.int .i64 ↑i_)) rfl (by decide) (by decide) rfl (fun w => (Step.move rfl)) ?_
            refine TW.pure (v := (Value.pointer (some ⟨(sBlk v), sOff v + i_ * 2, none⟩))) rfl (by decide) (by decide) rfl (fun w => (Step.indexAddr (i := i_) (Try.un59).run Try.el62.sized rfl rfl (by omega) hb8 (by omega))) ?_
            refine TW.pure (v := (Value.pointer (some ⟨(sBlk v), sOff v + i_ * 2, none⟩))) rfl (by decide) (by decide) rfl (fun w => (Step.pure (by kernel_rfl))) ?_
            refine TW.read (v := (Value.int .i64 x10.start)) rfl (by decide) (by decide) rfl (fun A w M => (Step.loadE (k := 0) Try.sc2 (flat_ec (M.rep 0 rfl) hx10 spanE_len) (by decide) rfl rfl)) ?_
            refine TW.pure (v := (Value.bool (decide ((x25.start : Int) ≥ (x10.start : Int))))) rfl (by decide) (by decide) rfl (fun w => (Step.pure (by kernel_rfl))) ?_
            refine TW.pure (v := (Value.bool (decide ((x25.start : Int) ≥ (x10.start : Int))))) rfl (by decide) (by decide) rfl (fun w => (Step.pick (t := false) rfl rfl)) ?_
            refine TW.pure (v := (Value.bool (decide ((x25.start : Int) ≥ (x10.start : Int))))) rfl (by decide) (by decide) rfl (fun w => (Step.pick (t := true) rfl rfl)) ?_
            refine TW.pure (v := (Value.bool (decide ((x25.start : Int) ≥ (x10.start : Int))))) rfl (by decide) (by decide) rfl (fun w => (Step.pick (t := false) rfl rfl)) ?_
            refine TW.done (fun w28 M => ?_)
            refine W.cond (t := decide ((x25.start : Int) ≥ (x10.start : Int))) rfl (fun h29 => ?_) (fun h29 => ?_)
            ·
              have h29p := of_decide_eq_true h29
              refine W.seq' ?_
              refine W.region rfl ?_
              refine WL.step (v := (Value.bool false)) rfl (Step.assign rfl) ?_
              refine WL.nil ?_
              refine W.ret ?_
              refine ⟨.inl rfl, (Value.bool false), ?_, ?_⟩
              · exact ⟨rfl, (Res.r1 (show RV _ _ _ (.tmp 4) (Value.bool false) from by exact rfl))⟩
              refine ⟨?_, M.close [] rfl (by decide) trivial⟩
              refine congrArg Value.bool ?_
              have hpv_ := right_prev hi6 hx10 hx25 (by omega)
              exact (right_bad (by omega) (okAt_no3 hx10 (by omega) hx25 (by omega))).symm
            ·
              have h29p := of_decide_eq_false h29
              refine W.skip ?_
              refine W.region rfl ?_
              refine WL.step (v := (Value.int .i64 ↑i_)) rfl (Step.move rfl) ?_
              refine WL.step (v := (Value.int .i64 (↑i_ + 1))) rfl (Step.add rfl rfl (wrap_i64 (by omega))) ?_
              refine WL.step (v := (Value.int .i64 (↑i_ + 1))) rfl (Step.assign rfl) ?_
              refine WL.nil ?_
              exact ⟨_, (by omega), i_ + 1, ⟨(by omega), (right_step hi6 (okAt_go hx10 (by omega) (by omega) (prev_go hx25 (by omega)))), rfl⟩, ⟨rfl, rfl, rfl, rfl, rfl⟩, M⟩
        ·
          have h24p := of_decide_eq_false h24
          refine W.drawn M [0, 1, 2, 3, 4, 5, 6, 7, 8, 9, 10, 11, 12, 13, 14, 15, 16, 17, 18, 19, 20, 21, 22, 23, 24, 25, 26, 27, 28, 29, 30, 31, 32, 33, 34, 35, 36, 37, 38, 39] [] [] [] [SlAt 2 v xs.length (xs.flatMap spanE)] List.Sublist.slnil (fun _ h => h) Try.mixed (by kernel_rfl) ?_
          refine TW.pure (v := (Value.int .i64 gap)) rfl (by decide) (by decide) rfl (fun w => (Step.move rfl)) ?_
          refine TW.pure (v := (Value.bool false)) rfl (by decide) (by decide) rfl (fun w => (Step.cast (congrArg Value.bool h14) (Step.pure (by kernel_rfl)))) ?_
          refine TW.pure (v := (Value.bool false)) rfl (by decide) (by decide) rfl (fun w => (Step.move rfl)) ?_
          refine TW.skip rfl rfl ?_
          refine TW.skip rfl rfl ?_
          refine TW.skip rfl rfl ?_
          refine TW.skip rfl rfl ?_
          refine TW.pure (v := (Value.bool false)) rfl (by decide) (by decide) rfl (fun w => (Step.pick (t := false) rfl rfl)) ?_
          refine TW.pure (v := (Value.bool false)) rfl (by decide) (by decide) rfl (fun w => (Step.move rfl)) ?_
          refine TW.pure (v := (Value.int .i64 ↑i_)) rfl (by decide) (by decide) rfl (fun w => (Step.move rfl)) ?_
          refine TW.pure (v := (Value.bool false)) rfl (by decide) (by decide) rfl (fun w => (Step.cast (congrArg Value.bool h24) (Step.pure (by kernel_rfl)))) ?_
          refine TW.pure (v := (Value.bool false)) rfl (by decide) (by decide) rfl (fun w => (Step.move rfl)) ?_
          refine TW.skip rfl rfl ?_
          refine TW.skip rfl rfl ?_
          refine TW.skip rfl rfl ?_
          refine TW.skip rfl rfl ?_
          refine TW.skip rfl rfl ?_
          refine TW.skip rfl rfl ?_
          refine TW.skip rfl rfl ?_
          refine TW.skip rfl rfl ?_
          refine TW.skip rfl rfl ?_
          refine TW.skip rfl rfl ?_
          refine TW.skip rfl rfl ?_
          refine TW.skip rfl rfl ?_
          refine TW.skip rfl rfl ?_
          refine TW.skip rfl rfl ?_
          refine TW.skip rfl rfl ?_
          refine TW.skip rfl rfl ?_
          refine TW.skip rfl rfl ?_
          refine TW.skip rfl rfl ?_
          refine TW.skip rfl rfl ?_
          refine TW.skip rfl rfl ?_
          refine TW.skip rfl rfl ?_
          refine TW.skip rfl rfl ?_
          refine TW.skip rfl rfl ?_
          refine TW.skip rfl rfl ?_
          refine TW.skip rfl rfl ?_
          refine TW.skip rfl rfl ?_
          refine TW.pure (v := (Value.bool false)) rfl (by decide) (by decide) rfl (fun w => (Step.pick (t := false) rfl rfl)) ?_
          refine TW.pure (v := (Value.bool false)) rfl (by decide) (by decide) rfl (fun w => (Step.pick (t := false) rfl rfl)) ?_
          refine TW.done (fun w30 M => ?_)
          refine W.cond (t := false) rfl (fun h => by cases h) (fun _ => ?_)
          refine W.skip ?_
          refine W.region rfl ?_
          refine WL.step (v := (Value.int .i64 ↑i_)) rfl (Step.move rfl) ?_
          refine WL.step (v := (Value.int .i64 (↑i_ + 1))) rfl (Step.add rfl rfl (wrap_i64 (by omega))) ?_
          refine WL.step (v := (Value.int .i64 (↑i_ + 1))) rfl (Step.assign rfl) ?_
          refine WL.nil ?_
          exact ⟨_, (by omega), i_ + 1, ⟨(by omega), (right_step hi6 (okAt_go hx10 (by omega) (by omega) (fun j q h => absurd h (by omega)))), rfl⟩, ⟨rfl, rfl, rfl, rfl, rfl⟩, M⟩
  ·
    have h7p := of_decide_eq_false h7
    refine W.exit ?_
    refine thn_exit ?_
    refine thn_exit ?_
    refine inBlk_hit ?_
    refine W.seq' ?_
    refine W.region rfl ?_
    refine WL.step (v := (Value.bool true)) rfl (Step.assign rfl) ?_
    refine WL.nil ?_
    refine W.ret ?_
    refine ⟨.inl rfl, (Value.bool true), ?_, ?_⟩
    · exact ⟨rfl, (Res.r1 (show RV _ _ _ (.tmp 4) (Value.bool true) from by exact rfl))⟩
    refine ⟨?_, M.close [] rfl (by decide) trivial⟩
    refine congrArg Value.bool ?_
    rw [rightB, show xs.length = i_ by omega, hi6]

theorem nan_i64 {G : Nat → Prop} {w : World} (x : Int)   (M : Mem G (fun _ => False) w [] [] w) : Rets Try.prog 82 #[(Value.int .i64 x)] w fun r w' => r = (Value.bool false) ∧ Mem G (fun _ => False) w [] [] w' := by
  refine Rets.enter 6 _ Try.func82 rfl Try.ntmps82 Try.results82 (by simp) ?_
  refine W.seq' ?_
  refine W.region rfl ?_
  refine WL.step (v := (Value.bool false)) rfl (Step.assign rfl) ?_
  refine WL.nil ?_
  refine W.seq' ?_
  refine W.region rfl ?_
  refine WL.step (v := (Value.int .i64 x)) rfl (Step.move rfl) ?_
  refine WL.step (v := (Value.int .i64 x)) rfl (Step.move rfl) ?_
  refine WL.step (v := (Value.bool false)) rfl (Step.cast (congrArg Value.bool (show ((x : Int) != (x : Int)) = false by simp)) (Step.pure (by kernel_rfl))) ?_
  refine WL.step (v := (Value.bool false)) rfl (Step.assign rfl) ?_
  refine WL.nil ?_
  refine W.ret ?_
  refine ⟨.inl rfl, (Value.bool false), ?_, ?_⟩
  · exact ⟨rfl, (Res.r1 (show RV _ _ _ (.tmp 2) (Value.bool false) from by exact rfl))⟩
  refine ⟨?_, M.close [] rfl (by decide) trivial⟩
  rfl

theorem comp_i64 {G : Nat → Prop} {w : World} (x : Int) (y : Int)   (M : Mem G (fun _ => False) w [] [] w) : Rets Try.prog 63 #[(Value.int .i64 x), (Value.int .i64 y)] w fun r w' => r = (Value.int .i64 (cmpI x y)) ∧ Mem G (fun _ => False) w [] [] w' := by
  refine Rets.enter 20 _ Try.func63 rfl Try.ntmps63 Try.results63 (by simp) ?_
  refine W.seq' ?_
  refine W.region rfl ?_
  refine WL.step (v := (Value.int .i64 0)) rfl (Step.assign rfl) ?_
  refine WL.nil ?_
  refine W.seq' ?_
  refine W.region rfl ?_
  refine WL.step (v := (Value.int .i64 x)) rfl (Step.move rfl) ?_
  refine WL.callX rfl (nan_i64 x (M.enterW0 trivial)) (CallsF.func Try.en82 rfl) ?_
  rintro _ w1 ⟨rfl, m⟩
  replace M := M.leaveW0 m
  clear m
  replace M : Mem _ _ _ [] [] _ := M
  refine WL.step (v := (Value.bool false)) rfl (Step.assign rfl) ?_
  refine WL.nil ?_
  refine W.seq' ?_
  refine W.region rfl ?_
  refine WL.step (v := (Value.int .i64 y)) rfl (Step.move rfl) ?_
  refine WL.callX rfl (nan_i64 y (M.enterW0 trivial)) (CallsF.func Try.en82 rfl) ?_
  rintro _ w2 ⟨rfl, m⟩
  replace M := M.leaveW0 m
  clear m
  replace M : Mem _ _ _ [] [] _ := M
  refine WL.step (v := (Value.bool false)) rfl (Step.assign rfl) ?_
  refine WL.nil ?_
  refine W.seq' ?_
  refine W.seq' ?_
  refine W.region rfl ?_
  refine WL.step (v := (Value.bool false)) rfl (Step.move rfl) ?_
  refine WL.nil ?_
  refine W.cond (t := false) rfl (fun h => by cases h) (fun _ => ?_)
  refine W.skip ?_
  refine W.seq' ?_
  refine W.seq' ?_
  refine W.region rfl ?_
  refine WL.step (v := (Value.bool false)) rfl (Step.move rfl) ?_
  refine WL.nil ?_
  refine W.cond (t := false) rfl (fun h => by cases h) (fun _ => ?_)
  refine W.skip ?_
  refine W.seq' ?_
  refine W.seq' ?_
  refine W.region rfl ?_
  refine WL.step (v := (Value.int .i64 x)) rfl (Step.move rfl) ?_
  refine WL.step (v := (Value.int .i64 y)) rfl (Step.move rfl) ?_
  refine WL.step (v := (Value.bool (decide ((x : Int) < (y : Int))))) rfl (Step.pure (by kernel_rfl)) ?_
  refine WL.nil ?_
  refine W.cond (t := decide ((x : Int) < (y : Int))) rfl (fun h3 => ?_) (fun h3 => ?_)
  ·
    have h3p := of_decide_eq_true h3
    refine W.seq' ?_
    refine W.region rfl ?_
    refine WL.step (v := (Value.int .i64 (-1))) rfl (Step.assign rfl) ?_
    refine WL.nil ?_
    refine W.ret ?_
    refine ⟨.inl rfl, (Value.int .i64 (-1)), ?_, ?_⟩
    · exact ⟨rfl, (Res.r1 (show RV _ _ _ (.tmp 4) (Value.int .i64 (-1)) from by exact rfl))⟩
    refine ⟨?_, M.close [] rfl (by decide) trivial⟩
    simp [cmpI, h3p]; try omega
  ·
    have h3p := of_decide_eq_false h3
    refine W.skip ?_
    refine W.seq' ?_
    refine W.seq' ?_
    refine W.region rfl ?_
    refine WL.step (v := (Value.int .i64 x)) rfl (Step.move rfl) ?_
    refine WL.step (v := (Value.int .i64 y)) rfl (Step.move rfl) ?_
    refine WL.step (v := (Value.bool (decide ((x : Int) > (y : Int))))) rfl (Step.pure (by kernel_rfl)) ?_
    refine WL.nil ?_
    refine W.cond (t := decide ((x : Int) > (y : Int))) rfl (fun h4 => ?_) (fun h4 => ?_)
    ·
      have h4p := of_decide_eq_true h4
      refine W.seq' ?_
      refine W.region rfl ?_
      refine WL.step (v := (Value.int .i64 1)) rfl (Step.assign rfl) ?_
      refine WL.nil ?_
      refine W.ret ?_
      refine ⟨.inl rfl, (Value.int .i64 1), ?_, ?_⟩
      · exact ⟨rfl, (Res.r1 (show RV _ _ _ (.tmp 4) (Value.int .i64 1) from by exact rfl))⟩
      refine ⟨?_, M.close [] rfl (by decide) trivial⟩
      simp [cmpI, h3p, h4p]; try omega
    ·
      have h4p := of_decide_eq_false h4
      refine W.skip ?_
      refine W.seq' ?_
      refine W.region rfl ?_
      refine WL.step (v := (Value.int .i64 0)) rfl (Step.assign rfl) ?_
      refine WL.nil ?_
      refine W.ret ?_
      refine ⟨.inl rfl, (Value.int .i64 0), ?_, ?_⟩
      · exact ⟨rfl, (Res.r1 (show RV _ _ _ (.tmp 4) (Value.int .i64 0) from by exact rfl))⟩
      refine ⟨?_, M.close [] rfl (by decide) trivial⟩
      simp [cmpI, h3p, h4p]; try omega

theorem ses_cmp {G : Nat → Prop} {w : World} (a : Span) (b : Span)   (M : Mem G (fun _ => False) w [] [] w) : Rets Try.prog 62 #[(Value.agg #[(Value.int .i64 a.start), (Value.int .i64 a.fin)]), (Value.agg #[(Value.int .i64 b.start), (Value.int .i64 b.fin)])] w fun r w' => r = (Value.int .i64 (cmpI a.start b.start)) ∧ Mem G (fun _ => False) w [] [] w' := by
  refine Rets.enter 10 _ Try.func62 rfl Try.ntmps62 Try.results62 (by simp) ?_
  refine W.seq' ?_
  refine W.region rfl ?_
  refine WL.box (v := (Value.agg #[(Value.int .i64 a.start), (Value.int .i64 a.fin)])) (c := #[(Value.int .i64 a.start), (Value.int .i64 a.fin)]) M rfl rfl rfl (fun b1 w2 hb1 M => ?_)
  refine WL.box (v := (Value.agg #[(Value.int .i64 b.start), (Value.int .i64 b.fin)])) (c := #[(Value.int .i64 b.start), (Value.int .i64 b.fin)]) M rfl rfl rfl (fun b3 w4 hb3 M => ?_)
  refine WL.step (v := (Value.int .i64 0)) rfl (Step.assign rfl) ?_
  refine WL.nil ?_
  refine W.seq' ?_
  refine W.region rfl ?_
  refine WL.step (v := (Value.pointer (some ⟨b1, 0, none⟩))) rfl (Step.pure (by kernel_rfl)) ?_
  refine WL.step (v := (Value.int .i64 a.start)) rfl (Step.load1 Try.sc2 rfl ((M.cell 1 rfl 0).trans rfl)) ?_
  refine WL.step (v := (Value.pointer (some ⟨b3, 0, none⟩))) rfl (Step.pure (by kernel_rfl)) ?_
  refine WL.step (v := (Value.int .i64 b.start)) rfl (Step.load1 Try.sc2 rfl ((M.cell 0 rfl 0).trans rfl)) ?_
  refine WL.callX rfl (comp_i64 a.start b.start (M.enterW0 trivial)) (CallsF.func Try.en63 rfl) ?_
  rintro _ w5 ⟨rfl, m⟩
  replace M := M.leaveW0 m
  clear m
  replace M : Mem _ _ _ [blk b3 (.cells #[(Value.int .i64 b.start), (Value.int .i64 b.fin)] 65), blk b1 (.cells #[(Value.int .i64 a.start), (Value.int .i64 a.fin)] 65)] [] _ := M
  refine WL.step (v := (Value.int .i64 (cmpI a.start b.start))) rfl (Step.assign rfl) ?_
  refine WL.nil ?_
  refine W.ret ?_
  refine ⟨.inl rfl, (Value.int .i64 (cmpI a.start b.start)), ?_, ?_⟩
  · exact ⟨rfl, (Res.r1 (show RV _ _ _ (.tmp 4) (Value.int .i64 (cmpI a.start b.start)) from by exact rfl))⟩
  refine ⟨?_, M.close [] rfl (by decide) trivial⟩
  rfl

theorem bs_span {G : Nat → Prop} {w : World} (v : Value) (xs : List Span) (x : Span)  (hb : xs.length ≤ 1000000) (hs : xs.Pairwise fun a b => a.start ≤ b.start) (M : Mem G (fun _ => False) w [] [SlAt 2 v xs.length (xs.flatMap spanE)] w) : Rets Try.prog 61 #[v, (Value.agg #[(Value.int .i64 x.start), (Value.int .i64 x.fin)]), (Value.func (.func 62) #[] #[])] w fun r w' => ∃ (f' : Bool), r = (Value.tuple #[(Value.int .i64 (↑(lowB xs x.start))), (Value.bool f')]) ∧ Mem G (fun _ => False) w [] [] w' := by
  refine Rets.enter 49 _ Try.func61 rfl Try.ntmps61 Try.results61 (by simp) ?_
  have hle1 := SlAt.le' (M.rep 0 rfl)
  have sl2 : IsSl v := SlAt.isSl (Mem.rep M 0 rfl)
  refine W.seq' ?_
  refine W.region rfl ?_
  refine WL.box (v := (Value.agg #[(Value.int .i64 x.start), (Value.int .i64 x.fin)])) (c := #[(Value.int .i64 x.start), (Value.int .i64 x.fin)]) M rfl rfl rfl (fun b3 w4 hb3 M => ?_)
  refine WL.step (v := (Value.int .i64 0)) rfl (Step.assign rfl) ?_
  refine WL.step (v := (Value.bool false)) rfl (Step.assign rfl) ?_
  refine WL.nil ?_
  refine W.seq' ?_
  refine W.region rfl ?_
  refine WL.step (v := v) rfl (Step.move rfl) ?_
  refine WL.step (v := (Value.int .i64 ↑xs.length)) rfl (Step.lenSl Try.un58 rfl (M.rep 0 rfl)) ?_
  refine WL.step (v := (Value.int .i64 ↑xs.length)) rfl (Step.assign rfl) ?_
  refine WL.nil ?_
  refine W.seq' ?_
  refine W.region rfl ?_
  refine WL.step (v := (Value.int .i64 ↑xs.length)) rfl (Step.move rfl) ?_
  refine WL.step (v := (Value.int .i64 0)) rfl (Step.assign rfl) ?_
  refine WL.step (v := (Value.int .i64 ↑xs.length)) rfl (Step.assign rfl) ?_
  refine WL.nil ?_
  refine W.seq' ?_
  refine W.block ?_
  refine W.loop (fun kk ρ w' => ∃ (i_ : Nat) (j_ : Nat), ((i_ ≤ j_) ∧ (j_ ≤ xs.length) ∧ (∀ k s, k < i_ → xs[k]? = some s → s.start < x.start) ∧ (∀ k s, j_ ≤ k → xs[k]? = some s → ¬ s.start < x.start) ∧ kk = j_ - i_) ∧ ρ.has [(0, v), (2, (Value.func (.func 62) #[] #[])), (4, (Value.pointer (some ⟨b3, 0, none⟩))), (6, (Value.int .i64 0)), (7, (Value.bool false)), (8, (Value.int .i64 ↑xs.length)), (9, (Value.int .i64 ↑i_)), (10, (Value.int .i64 ↑j_))] ∧ Mem G (fun _ => False) w [blk b3 (.cells #[(Value.int .i64 x.start), (Value.int .i64 x.fin)] 65)] [SlAt 2 v xs.length (xs.flatMap spanE)]  w') _ ⟨0, xs.length, ⟨(Nat.zero_le _), (Nat.le_refl _), (fun _ _ h => absurd h (Nat.not_lt_zero _)), (fun k s h hs => absurd (List.getElem?_eq_some_iff.1 hs).1 (by omega)), rfl⟩, ⟨rfl, rfl, rfl, rfl, rfl, rfl, rfl, rfl, rfl, rfl⟩, M⟩ ?_
  rintro _ ρ6 w5 ⟨i_, j_, ⟨hi7, hi8, hi9, hi10, rfl⟩, hρ, M⟩
  obtain ⟨ρ6, rfl⟩ := hρ.know
  clear hρ
  obtain ⟨hI1, hI2, hI3, hI4⟩ : i_ ≤ j_ ∧ j_ ≤ xs.length ∧ (∀ k s, k < i_ → xs[k]? = some s → s.start < x.start) ∧ (∀ k s, j_ ≤ k → xs[k]? = some s → ¬ s.start < x.start) := ⟨hi7, hi8, hi9, hi10⟩
  refine W.seq' ?_
  refine W.seq' ?_
  refine W.region rfl ?_
  refine WL.step (v := (Value.int .i64 ↑i_)) rfl (Step.move rfl) ?_
  refine WL.step (v := (Value.int .i64 ↑j_)) rfl (Step.move rfl) ?_
  refine WL.step (v := (Value.bool (decide ((↑i_ : Int) < (↑j_ : Int))))) rfl (Step.pure (by kernel_rfl)) ?_
  refine WL.nil ?_
  refine W.cond (t := decide ((↑i_ : Int) < (↑j_ : Int))) rfl (fun h11 => ?_) (fun h11 => ?_)
  ·
    have h11p := of_decide_eq_true h11
    refine W.skip ?_
    refine W.block ?_
    refine W.seq' ?_
    refine W.region rfl ?_
    refine WL.step (v := (Value.int .i64 ↑i_)) rfl (Step.move rfl) ?_
    refine WL.step (v := (Value.int .i64 ↑j_)) rfl (Step.move rfl) ?_
    refine WL.step (v := (Value.int .i64 (↑i_ + ↑j_))) rfl (Step.add rfl rfl (wrap_i64 (by omega))) ?_
    refine WL.step (v := (Value.int .u64 (↑i_ + ↑j_))) rfl (Step.conv Try.un3 Try.un124 rfl (wrap_u64 (by omega))) ?_
    have hshr12 := shrI_nonneg (k := .u64) (a := (↑i_ + ↑j_ : Int)) (b := (1 : Int)) (by omega)
    refine WL.step (v := (Value.int .u64 (↑((i_ + j_) / 2)))) rfl (Step.cast (congrArg (Value.int .u64) (show (shrI .u64 (↑i_ + ↑j_ : Int) (1 : Int) : Int) = ↑((i_ + j_) / 2) by simp only [shrI, IntKind.bits]; simp)) (Step.shr rfl rfl (by omega))) ?_
    refine WL.step (v := (Value.int .i64 (↑((i_ + j_) / 2)))) rfl (Step.conv Try.un124 Try.un3 rfl (wrap_i64 (by omega))) ?_
    refine WL.step (v := (Value.int .i64 (↑((i_ + j_) / 2)))) rfl (Step.assign rfl) ?_
    refine WL.nil ?_
    refine W.seq' ?_
    obtain ⟨cap14, hb13⟩ := SlAt.base (M.rep 0 rfl) (by omega)
    obtain ⟨x15, hx15⟩ := elem_of_lt (xs := xs) (i := (i_ + j_) / 2) (by omega)
    refine W.drawn M [0, 1, 2, 3, 4, 5, 6, 7] [6] [] [blk b3 (.cells #[(Value.int .i64 x.start), (Value.int .i64 x.fin)] 65)] [SlAt 2 v xs.length (xs.flatMap spanE)] (List.Sublist.cons_cons _ List.Sublist.slnil) (fun _ h => h) Try.mixed (by kernel_rfl) ?_
    refine TW.pure (v := (Value.func (.func 62) #[] #[])) rfl (by decide) (by decide) rfl (fun w => (Step.move rfl)) ?_
    refine TW.pure (v := v) rfl (by decide) (by decide) rfl (fun w => (Step.move rfl)) ?_
    refine TW.pure (v := (Value.int .i64 (↑((i_ + j_) / 2)))) rfl (by decide) (by decide) rfl (fun w => (Step.move rfl)) ?_
    refine TW.pure (v := (Value.pointer (some ⟨(sBlk v), sOff v + ((i_ + j_) / 2) * 2, none⟩))) rfl (by decide) (by decide) rfl (fun w => (Step.indexAddr (i := (i_ + j_) / 2) (Try.un58).run Try.el65.sized rfl rfl (by omega) hb13 (by omega))) ?_
    refine TW.read (v := (Value.agg #[(Value.int .i64 x15.start), (Value.int .i64 x15.fin)])) rfl (by decide) (by decide) rfl (fun A w M => (Step.loadEN (k := 0) (cs' := [(Value.int .i64 x15.start), (Value.int .i64 x15.fin)]) Try.ag65 (flat_ec (M.rep 0 rfl) hx15 spanE_len) (by decide) rfl rfl rfl)) ?_
    refine TW.read (v := (Value.agg #[(Value.int .i64 x.start), (Value.int .i64 x.fin)])) rfl (by decide) (by decide) rfl (fun A w M => (Step.loadN Try.ag65 rfl (M.blk 1 rfl) (Nat.le_of_ble_eq_true rfl) rfl)) ?_
    refine TW.callX (ι := Unit) (fun jx v_ => v_ = (Value.int .i64 (cmpI x15.start x.start))) (fun jx => [blk b3 (.cells #[(Value.int .i64 x.start), (Value.int .i64 x.fin)] 65)]) (fun jx => [SlAt 2 v xs.length (xs.flatMap spanE)]) rfl (by decide) rfl (fun jx => (List.Sublist.cons_cons _ List.Sublist.slnil)) (fun jx r h => h) (fun A w M => Rets.mono (ses_cmp x15 x (M.enterW0 trivial)) (fun v_ w_ ⟨e_, m⟩ => ⟨(), e_, (M.leaveW0 m).sel (L' := [fl A, blk b3 (.cells #[(Value.int .i64 x.start), (Value.int .i64 x.fin)] 65)]) [0, 1] rfl (by decide), fun b hb => M.keptW0 m (fl A) (List.mem_cons_self ..) b hb⟩)) (fun w => CallsF.value Try.en62 rfl rfl rfl) (fun jx v hp hin => ?_)
    replace hp := hp.symm; subst hp
    clear hin
    change TW _ _ _ _ _ _ _ _ (MemA _ _ _ [blk b3 (.cells #[(Value.int .i64 x.start), (Value.int .i64 x.fin)] 65)] [SlAt 2 v xs.length (xs.flatMap spanE)])
    refine TW.pure (v := (Value.bool (decide ((cmpI x15.start x.start : Int) < (0 : Int))))) rfl (by decide) (by decide) rfl (fun w => (Step.pure (by kernel_rfl))) ?_
    refine TW.done (fun w16 M => ?_)
    refine W.cond (t := decide ((cmpI x15.start x.start : Int) < (0 : Int))) rfl (fun h17 => ?_) (fun h17 => ?_)
    ·
      have h17p := of_decide_eq_true h17
      refine W.region rfl ?_
      refine WL.step (v := (Value.int .i64 (↑((i_ + j_) / 2)))) rfl (Step.move rfl) ?_
      refine WL.step (v := (Value.int .i64 (↑((i_ + j_) / 2) + 1))) rfl (Step.add rfl rfl (wrap_i64 (by omega))) ?_
      refine WL.step (v := (Value.int .i64 (↑((i_ + j_) / 2) + 1))) rfl (Step.assign rfl) ?_
      refine WL.nil ?_
      exact ⟨_, (by omega), (i_ + j_) / 2 + 1, j_, ⟨(by omega), hI2, (up_below hs hx15 (cmpI_neg'.1 h17p)), hI4, rfl⟩, ⟨rfl, rfl, rfl, rfl, rfl, rfl, rfl, rfl, rfl, rfl⟩, M⟩
    ·
      have h17p := of_decide_eq_false h17
      refine W.region rfl ?_
      refine WL.step (v := (Value.int .i64 (↑((i_ + j_) / 2)))) rfl (Step.move rfl) ?_
      refine WL.step (v := (Value.int .i64 (↑((i_ + j_) / 2)))) rfl (Step.assign rfl) ?_
      refine WL.nil ?_
      exact ⟨_, (by omega), i_, (i_ + j_) / 2, ⟨(by omega), (by omega), hI3, (up_above hs hx15 (fun h_ => h17p (cmpI_neg'.2 h_))), rfl⟩, ⟨rfl, rfl, rfl, rfl, rfl, rfl, rfl, rfl, rfl, rfl⟩, M⟩
  ·
    have h11p := of_decide_eq_false h11
    refine W.exit ?_
    refine thn_exit ?_
    refine thn_exit ?_
    refine inBlk_hit ?_
    refine W.seq' ?_
    rcases Bool.eq_false_or_eq_true (decide ((↑i_ : Int) < (↑xs.length : Int))) with h18 | h18
    ·
      have h18p := of_decide_eq_true h18
      obtain ⟨cap20, hb19⟩ := SlAt.base (M.rep 0 rfl) (by omega)
      obtain ⟨x21, hx21⟩ := elem_of_lt (xs := xs) (i := i_) (by omega)
      refine W.drawn M [0, 1, 2, 3, 4, 5, 6, 7, 8, 9, 10, 11, 12, 13, 14, 15] [11] [] [blk b3 (.cells #[(Value.int .i64 x.start), (Value.int .i64 x.fin)] 65)] [SlAt 2 v xs.length (xs.flatMap spanE)] (List.Sublist.cons_cons _ List.Sublist.slnil) (fun _ h => h) Try.mixed (by kernel_rfl) ?_
      refine TW.pure (v := (Value.int .i64 ↑i_)) rfl (by decide) (by decide) rfl (fun w => (Step.move rfl)) ?_
      refine TW.pure (v := (Value.int .i64 ↑i_)) rfl (by decide) (by decide) rfl (fun w => (Step.move rfl)) ?_
      refine TW.pure (v := (Value.int .i64 ↑xs.length)) rfl (by decide) (by decide) rfl (fun w => (Step.move rfl)) ?_
      refine TW.pure (v := (Value.bool true)) rfl (by decide) (by decide) rfl (fun w => (Step.cast (congrArg Value.bool h18) (Step.pure (by kernel_rfl)))) ?_
      refine TW.pure (v := (Value.bool true)) rfl (by decide) (by decide) rfl (fun w => (Step.move rfl)) ?_
      refine TW.pure (v := (Value.func (.func 62) #[] #[])) rfl (by decide) (by decide) rfl (fun w => (Step.move rfl)) ?_
      refine TW.pure (v := v) rfl (by decide) (by decide) rfl (fun w => (Step.move rfl)) ?_
      refine TW.pure (v := (Value.int .i64 ↑i_)) rfl (by decide) (by decide) rfl (fun w => (Step.move rfl)) ?_
      refine TW.pure (v := (Value.pointer (some ⟨(sBlk v), sOff v + i_ * 2, none⟩))) rfl (by decide) (by decide) rfl (fun w => (Step.indexAddr (i := i_) (Try.un58).run Try.el65.sized rfl rfl (by omega) hb19 (by omega))) ?_
      refine TW.read (v := (Value.agg #[(Value.int .i64 x21.start), (Value.int .i64 x21.fin)])) rfl (by decide) (by decide) rfl (fun A w M => (Step.loadEN (k := 0) (cs' := [(Value.int .i64 x21.start), (Value.int .i64 x21.fin)]) Try.ag65 (flat_ec (M.rep 0 rfl) hx21 spanE_len) (by decide) rfl rfl rfl)) ?_
      refine TW.read (v := (Value.agg #[(Value.int .i64 x.start), (Value.int .i64 x.fin)])) rfl (by decide) (by decide) rfl (fun A w M => (Step.loadN Try.ag65 rfl (M.blk 1 rfl) (Nat.le_of_ble_eq_true rfl) rfl)) ?_
      refine TW.callX (ι := Unit) (fun jx v_ => v_ = (Value.int .i64 (cmpI x21.start x.start))) (fun jx => [blk b3 (.cells #[(Value.int .i64 x.start), (Value.int .i64 x.fin)] 65)]) (fun jx => [SlAt 2 v xs.length (xs.flatMap spanE)]) rfl (by decide) rfl (fun jx => (List.Sublist.cons_cons _ List.Sublist.slnil)) (fun jx r h => h) (fun A w M => Rets.mono (ses_cmp x21 x (M.enterW0 trivial)) (fun v_ w_ ⟨e_, m⟩ => ⟨(), e_, (M.leaveW0 m).sel (L' := [fl A, blk b3 (.cells #[(Value.int .i64 x.start), (Value.int .i64 x.fin)] 65)]) [0, 1] rfl (by decide), fun b hb => M.keptW0 m (fl A) (List.mem_cons_self ..) b hb⟩)) (fun w => CallsF.value Try.en62 rfl rfl rfl) (fun jx v hp hin => ?_)
      replace hp := hp.symm; subst hp
      clear hin
      change TW _ _ _ _ _ _ _ _ (MemA _ _ _ [blk b3 (.cells #[(Value.int .i64 x.start), (Value.int .i64 x.fin)] 65)] [SlAt 2 v xs.length (xs.flatMap spanE)])
      refine TW.pure (v := (Value.bool ((cmpI x21.start x.start : Int) == (0 : Int)))) rfl (by decide) (by decide) rfl (fun w => (Step.pure (by kernel_rfl))) ?_
      refine TW.pure (v := (Value.bool ((cmpI x21.start x.start : Int) == (0 : Int)))) rfl (by decide) (by decide) rfl (fun w => (Step.pick (t := true) rfl rfl)) ?_
      refine TW.pure (v := (Value.int .i64 ↑i_)) rfl (by decide) (by decide) rfl (fun w => (Step.assign rfl)) ?_
      refine TW.pure (v := (Value.bool ((cmpI x21.start x.start : Int) == (0 : Int)))) rfl (by decide) (by decide) rfl (fun w => (Step.assign rfl)) ?_
      refine TW.done (fun w22 M => ?_)
      refine W.ret ?_
      refine ⟨.inl rfl, (Value.tuple #[(Value.int .i64 ↑i_), (Value.bool ((cmpI x21.start x.start : Int) == (0 : Int)))]), ?_, ?_⟩
      · exact ⟨rfl, (Res.r2 (show RV _ _ _ (.tmp 6) (Value.int .i64 ↑i_) from by exact rfl) (show RV _ _ _ (.tmp 7) (Value.bool ((cmpI x21.start x.start : Int) == (0 : Int))) from by exact rfl))⟩
      refine ⟨(cmpI x21.start x.start : Int) == (0 : Int), ?_, M.close [] rfl (by decide) trivial⟩
      rw [lowB_eq (i := i_) (by omega) hI3 (fun s_ hs_ => hI4 _ s_ (by omega) hs_)]
    ·
      have h18p := of_decide_eq_false h18
      refine W.drawn M [0, 1, 2, 3, 4, 5, 6, 7, 8, 9, 10, 11, 12, 13, 14, 15] [11] [] [blk b3 (.cells #[(Value.int .i64 x.start), (Value.int .i64 x.fin)] 65)] [SlAt 2 v xs.length (xs.flatMap spanE)] (List.Sublist.cons_cons _ List.Sublist.slnil) (fun _ h => h) Try.mixed (by kernel_rfl) ?_
      refine TW.pure (v := (Value.int .i64 ↑i_)) rfl (by decide) (by decide) rfl (fun w => (Step.move rfl)) ?_
      refine TW.pure (v := (Value.int .i64 ↑i_)) rfl (by decide) (by decide) rfl (fun w => (Step.move rfl)) ?_
      refine TW.pure (v := (Value.int .i64 ↑xs.length)) rfl (by decide) (by decide) rfl (fun w => (Step.move rfl)) ?_
      refine TW.pure (v := (Value.bool false)) rfl (by decide) (by decide) rfl (fun w => (Step.cast (congrArg Value.bool h18) (Step.pure (by kernel_rfl)))) ?_
      refine TW.pure (v := (Value.bool false)) rfl (by decide) (by decide) rfl (fun w => (Step.move rfl)) ?_
      refine TW.skip rfl rfl ?_
      refine TW.skip rfl rfl ?_
      refine TW.skip rfl rfl ?_
      refine TW.skip rfl rfl ?_
      refine TW.skip rfl rfl ?_
      refine TW.skip rfl rfl ?_
      refine TW.skip rfl rfl ?_
      refine TW.skip rfl rfl ?_
      refine TW.pure (v := (Value.bool false)) rfl (by decide) (by decide) rfl (fun w => (Step.pick (t := false) rfl rfl)) ?_
      refine TW.pure (v := (Value.int .i64 ↑i_)) rfl (by decide) (by decide) rfl (fun w => (Step.assign rfl)) ?_
      refine TW.pure (v := (Value.bool false)) rfl (by decide) (by decide) rfl (fun w => (Step.assign rfl)) ?_
      refine TW.done (fun w23 M => ?_)
      refine W.ret ?_
      refine ⟨.inl rfl, (Value.tuple #[(Value.int .i64 ↑i_), (Value.bool false)]), ?_, ?_⟩
      · exact ⟨rfl, (Res.r2 (show RV _ _ _ (.tmp 6) (Value.int .i64 ↑i_) from by exact rfl) (show RV _ _ _ (.tmp 7) (Value.bool false) from by exact rfl))⟩
      refine ⟨false, ?_, M.close [] rfl (by decide) trivial⟩
      rw [lowB_eq (i := i_) (by omega) hI3 (fun s_ hs_ => hI4 _ s_ (by omega) hs_)]
end Go.Proofs
