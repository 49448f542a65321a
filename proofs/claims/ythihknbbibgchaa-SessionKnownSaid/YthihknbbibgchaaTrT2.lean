/- Walks. -/
import Derived.Test.YthihknbbibgchaaTrT1
import Derived.Test.YthihknbbibgchaaTrSesR
import Derived.Test.YthihknbbibgchaaTrSortT
set_option maxRecDepth 100000
set_option linter.all false
namespace Go.Proofs
open Go Tp
theorem Try.un70 : Und Try.prog 70 (.slice 2) := by unfold Und; kernel_rfl
theorem Try.el2 : Elem Try.prog 2 (Value.int .i64 0) 1 8 := Elem.mk (by kernel_rfl)
theorem Try.en60 : Enters Try.prog 60 := fun _ _ => by kernel_rfl
theorem Try.en65 : Enters Try.prog 65 := fun _ _ => by kernel_rfl
theorem Try.en66 : Enters Try.prog 66 := fun _ _ => by kernel_rfl
theorem Try.en79 : Enters Try.prog 79 := fun _ _ => by kernel_rfl
theorem Try.en80 : Enters Try.prog 80 := fun _ _ => by kernel_rfl
theorem Try.en81 : Enters Try.prog 81 := fun _ _ => by kernel_rfl
theorem Try.en96 : Enters Try.prog 96 := fun _ _ => by kernel_rfl
theorem Try.sc2 : Scal Try.prog 2 := fun _ => by kernel_rfl

theorem num_clamp {G : Nat → Prop} {w : World} (n : Int) (least : Int) (most : Int)   (M : Mem G (fun _ => False) w [] [] w) : Rets Try.prog 80 #[(Value.int .i64 n), (Value.int .i64 least), (Value.int .i64 most)] w fun r w' => r = (Value.int .i64 (max least (min n most))) ∧ Mem G (fun _ => False) w [] [] w' := by
  refine Rets.enter 12 _ Try.func80 rfl Try.ntmps80 Try.results80 (by simp) ?_
  refine W.seq' ?_
  refine W.region rfl ?_
  refine WL.step (v := (Value.int .i64 0)) rfl (Step.assign rfl) ?_
  refine WL.nil ?_
  refine W.seq' ?_
  refine W.region rfl ?_
  refine WL.step (v := (Value.int .i64 least)) rfl (Step.move rfl) ?_
  refine WL.step (v := (Value.int .i64 n)) rfl (Step.move rfl) ?_
  refine WL.step (v := (Value.int .i64 most)) rfl (Step.move rfl) ?_
  refine WL.step (v := (Value.int .i64 (min (n : Int) (most : Int)))) rfl (Step.minI rfl rfl) ?_
  refine WL.step (v := (Value.int .i64 (max (least : Int) (min (n : Int) (most : Int) : Int)))) rfl (Step.maxI rfl rfl) ?_
  refine WL.step (v := (Value.int .i64 (max (least : Int) (min (n : Int) (most : Int) : Int)))) rfl (Step.assign rfl) ?_
  refine WL.nil ?_
  refine W.ret ?_
  refine ⟨.inl rfl, (Value.int .i64 (max (least : Int) (min (n : Int) (most : Int) : Int))), ?_, ?_⟩
  · exact ⟨rfl, (Res.r1 (show RV _ _ _ (.tmp 6) (Value.int .i64 (max (least : Int) (min (n : Int) (most : Int) : Int))) from by exact rfl))⟩
  refine ⟨?_, M.close [] rfl (by decide) trivial⟩
  rfl

theorem ses_far {G : Nat → Prop} {w : World} (t : Int)   (M : Mem G (fun _ => False) w [] [] w) : Rets Try.prog 79 #[(Value.int .i64 t)] w fun r w' => r = (Value.bool (farB t)) ∧ Mem G (fun _ => False) w [] [] w' := by
  refine Rets.enter 7 _ Try.func79 rfl Try.ntmps79 Try.results79 (by simp) ?_
  refine W.seq' ?_
  refine W.region rfl ?_
  refine WL.step (v := (Value.bool false)) rfl (Step.assign rfl) ?_
  refine WL.nil ?_
  refine W.seq' ?_
  refine W.region rfl ?_
  refine WL.step (v := (Value.int .i64 t)) rfl (Step.move rfl) ?_
  refine WL.step (v := (Value.int .i64 t)) rfl (Step.move rfl) ?_
  refine WL.callX rfl (num_clamp t (-1099511627776) 1099511627776 (M.enterW0 trivial)) (CallsF.func Try.en80 rfl) ?_
  rintro _ w1 ⟨rfl, m⟩
  replace M := M.leaveW0 m
  clear m
  replace M : Mem _ _ _ [] [] _ := M
  refine WL.step (v := (Value.bool ((t : Int) != (max (-1099511627776) (min t 1099511627776) : Int)))) rfl (Step.pure (by kernel_rfl)) ?_
  refine WL.step (v := (Value.bool ((t : Int) != (max (-1099511627776) (min t 1099511627776) : Int)))) rfl (Step.assign rfl) ?_
  refine WL.nil ?_
  refine W.ret ?_
  refine ⟨.inl rfl, (Value.bool ((t : Int) != (max (-1099511627776) (min t 1099511627776) : Int))), ?_, ?_⟩
  · exact ⟨rfl, (Res.r1 (show RV _ _ _ (.tmp 2) (Value.bool ((t : Int) != (max (-1099511627776) (min t 1099511627776) : Int))) from by exact rfl))⟩
  refine ⟨?_, M.close [] rfl (by decide) trivial⟩
  refine congrArg Value.bool ?_
  exact far_eq t

theorem ix_far {G : Nat → Prop} {w : World} (v : Value) (xs : List Int)   (M : Mem G (fun _ => False) w [] [SlAt 1 v xs.length (xs.flatMap intE)] w) : Rets Try.prog 96 #[v, (Value.func (.func 79) #[] #[])] w fun r w' => r = (Value.int .i64 (ixF farB xs)) ∧ Mem G (fun _ => False) w [] [] w' := by
  refine Rets.enter 19 _ Try.func96 rfl Try.ntmps96 Try.results96 (by simp) ?_
  have hle1 := SlAt.le' (M.rep 0 rfl)
  have sl2 : IsSl v := SlAt.isSl (Mem.rep M 0 rfl)
  refine W.seq' ?_
  refine W.region rfl ?_
  refine WL.step (v := (Value.int .i64 0)) rfl (Step.assign rfl) ?_
  refine WL.nil ?_
  refine W.seq' ?_
  refine W.seq' ?_
  refine W.region rfl ?_
  refine WL.step (v := v) rfl (Step.move rfl) ?_
  refine WL.step (v := (Value.int .i64 ↑xs.length)) rfl (Step.lenSl Try.un70 rfl (M.rep 0 rfl)) ?_
  refine WL.step (v := (Value.int .i64 0)) rfl (Step.move rfl) ?_
  refine WL.nil ?_
  refine W.block ?_
  refine W.loop (fun kk ρ w' => ∃ (i_ : Nat), ((i_ ≤ xs.length) ∧ (∀ j u, j < i_ → xs[j]? = some u → (farB) u = false) ∧ kk = xs.length - i_) ∧ ρ.has [(0, v), (1, (Value.func (.func 79) #[] #[])), (7, (Value.int .i64 ↑xs.length)), (8, (Value.int .i64 ↑i_))] ∧ Mem G (fun _ => False) w [] [SlAt 1 v xs.length (xs.flatMap intE)]  w') _ ⟨0, ⟨(Nat.zero_le _), (fun _ _ h => absurd h (Nat.not_lt_zero _)), rfl⟩, ⟨rfl, rfl, rfl, rfl, rfl, rfl⟩, M⟩ ?_
  rintro _ ρ4 w3 ⟨i_, ⟨hi5, hi6, rfl⟩, hρ, M⟩
  obtain ⟨ρ4, rfl⟩ := hρ.know
  clear hρ
  refine W.seq' ?_
  refine W.region rfl ?_
  refine WL.step (v := (Value.bool (decide ((↑i_ : Int) < (↑xs.length : Int))))) rfl (Step.pure (by kernel_rfl)) ?_
  refine WL.nil ?_
  refine W.seq' ?_
  refine W.cond (t := decide ((↑i_ : Int) < (↑xs.length : Int))) rfl (fun h7 => ?_) (fun h7 => ?_)
  ·
    have h7p := of_decide_eq_true h7
    refine W.skip ?_
    refine W.seq' ?_
    refine W.block ?_
    refine W.seq' ?_
    refine W.region rfl ?_
    refine WL.step (v := (Value.int .i64 ↑i_)) rfl (Step.move rfl) ?_
    refine WL.step (v := (Value.int .i64 ↑i_)) rfl (Step.assign rfl) ?_
    refine WL.nil ?_
    refine W.seq' ?_
    refine W.region rfl ?_
    refine WL.step (v := (Value.func (.func 79) #[] #[])) rfl (Step.move rfl) ?_
    refine WL.step (v := v) rfl (Step.move rfl) ?_
    refine WL.step (v := (Value.int .i64 ↑i_)) rfl (Step.move rfl) ?_
    obtain ⟨cap9, hb8⟩ := SlAt.base (M.rep 0 rfl) (by omega)
    obtain ⟨x10, hx10⟩ := elem_of_lt (xs := xs) (i := i_) (by omega)
    refine WL.step (v := (Value.pointer (some ⟨(sBlk v), sOff v + i_ * 1, none⟩))) rfl (Step.indexAddr (i := i_) (Try.un70).run Try.el2.sized rfl rfl (by omega) hb8 (by omega)) ?_
    refine WL.step (v := (Value.int .i64 x10)) rfl (Step.loadE (k := 0) Try.sc2 (flat_ec (M.rep 0 rfl) hx10 intE_len) (by decide) rfl rfl) ?_
    refine WL.callX rfl (ses_far x10 (M.enterW0 trivial)) (CallsF.value Try.en79 rfl rfl rfl) ?_
    rintro _ w11 ⟨rfl, m⟩
    replace M := M.leaveW0 m
    clear m
    replace M : Mem _ _ _ [] [SlAt 1 v xs.length (xs.flatMap intE)] _ := M
    refine WL.nil ?_
    refine W.cond (t := farB x10) rfl (fun h12 => ?_) (fun h12 => ?_)
    ·
      refine W.seq' ?_
      refine W.region rfl ?_
      refine WL.step (v := (Value.int .i64 ↑i_)) rfl (Step.move rfl) ?_
      refine WL.step (v := (Value.int .i64 ↑i_)) rfl (Step.assign rfl) ?_
      refine WL.nil ?_
      refine W.ret ?_
      refine ⟨.inl rfl, (Value.int .i64 ↑i_), ?_, ?_⟩
      · exact ⟨rfl, (Res.r1 (show RV _ _ _ (.tmp 4) (Value.int .i64 ↑i_) from by exact rfl))⟩
      refine ⟨?_, M.close [] rfl (by decide) trivial⟩
      refine congrArg (Value.int .i64) ?_
      exact (ixF_some (findIdx_hit hx10 h12 hi6)).1.symm
    ·
      refine W.skip ?_
      refine W.region rfl ?_
      refine WL.step (v := (Value.int .i64 (↑i_ + 1))) rfl (Step.add rfl rfl (wrap_i64 (by omega))) ?_
      refine WL.step (v := (Value.int .i64 (↑i_ + 1))) rfl (Step.move rfl) ?_
      refine WL.nil ?_
      exact ⟨_, (by omega), i_ + 1, ⟨(by omega), (below_stepG hi6 hx10 h12), rfl⟩, ⟨rfl, rfl, rfl, rfl, rfl, rfl⟩, M⟩
  ·
    have h7p := of_decide_eq_false h7
    refine W.exit ?_
    refine thn_exit ?_
    refine thn_exit ?_
    refine inBlk_hit ?_
    refine W.seq' ?_
    refine W.region rfl ?_
    refine WL.step (v := (Value.int .i64 (-1))) rfl (Step.assign rfl) ?_
    refine WL.nil ?_
    refine W.ret ?_
    refine ⟨.inl rfl, (Value.int .i64 (-1)), ?_, ?_⟩
    · exact ⟨rfl, (Res.r1 (show RV _ _ _ (.tmp 4) (Value.int .i64 (-1)) from by exact rfl))⟩
    refine ⟨?_, M.close [] rfl (by decide) trivial⟩
    refine congrArg (Value.int .i64) ?_
    exact (ixF_none (findIdx_none hi6 (by omega))).1.symm

theorem any_far {G : Nat → Prop} {w : World} (v : Value) (xs : List Int)   (M : Mem G (fun _ => False) w [] [SlAt 1 v xs.length (xs.flatMap intE)] w) : Rets Try.prog 81 #[v, (Value.func (.func 79) #[] #[])] w fun r w' => r = (Value.bool (xs.any farB)) ∧ Mem G (fun _ => False) w [] [] w' := by
  refine Rets.enter 9 _ Try.func81 rfl Try.ntmps81 Try.results81 (by simp) ?_
  have hle1 := SlAt.le' (M.rep 0 rfl)
  have sl2 : IsSl v := SlAt.isSl (Mem.rep M 0 rfl)
  refine W.seq' ?_
  refine W.region rfl ?_
  refine WL.step (v := (Value.bool false)) rfl (Step.assign rfl) ?_
  refine WL.nil ?_
  refine W.seq' ?_
  refine W.region rfl ?_
  refine WL.step (v := v) rfl (Step.move rfl) ?_
  refine WL.step (v := (Value.func (.func 79) #[] #[])) rfl (Step.move rfl) ?_
  refine WL.callX rfl (ix_far v xs (M.enterW0 ⟨(M.wideR0 0 rfl), trivial⟩)) (CallsF.func Try.en96 rfl) ?_
  rintro _ w3 ⟨rfl, m⟩
  replace M := M.leaveW0 m
  clear m
  replace M : Mem _ _ _ [] [SlAt 1 v xs.length (xs.flatMap intE)] _ := M
  refine WL.step (v := (Value.bool (decide ((ixF farB xs : Int) ≥ (0 : Int))))) rfl (Step.pure (by kernel_rfl)) ?_
  refine WL.step (v := (Value.bool (decide ((ixF farB xs : Int) ≥ (0 : Int))))) rfl (Step.assign rfl) ?_
  refine WL.nil ?_
  refine W.ret ?_
  refine ⟨.inl rfl, (Value.bool (decide ((ixF farB xs : Int) ≥ (0 : Int)))), ?_, ?_⟩
  · exact ⟨rfl, (Res.r1 (show RV _ _ _ (.tmp 4) (Value.bool (decide ((ixF farB xs : Int) ≥ (0 : Int)))) from by exact rfl))⟩
  refine ⟨?_, M.close [] rfl (by decide) trivial⟩
  refine congrArg Value.bool ?_
  exact ixF_any farB xs

theorem ses_may {G : Nat → Prop} {w : World} (gap : Int) (v : Value) (xs : List Int)   (M : Mem G (fun _ => False) w [] [SlAt 1 v xs.length (xs.flatMap intE)] w) : Rets Try.prog 60 #[(Value.int .i64 gap), v] w fun r w' => r = (Value.bool (mayB gap xs)) ∧ Mem G (fun _ => False) w [] [] w' := by
  refine Rets.enter 16 _ Try.func60 rfl Try.ntmps60 Try.results60 (by simp) ?_
  have hle1 := SlAt.le' (M.rep 0 rfl)
  have sl2 : IsSl v := SlAt.isSl (Mem.rep M 0 rfl)
  refine W.seq' ?_
  refine W.region rfl ?_
  refine WL.step (v := (Value.bool false)) rfl (Step.assign rfl) ?_
  refine WL.nil ?_
  refine W.seq' ?_
  refine W.region rfl ?_
  refine WL.step (v := (Value.func (.func 79) #[] #[])) rfl (Step.assign rfl) ?_
  refine WL.nil ?_
  refine W.seq' ?_
  refine W.region rfl ?_
  refine WL.step (v := (Value.int .i64 gap)) rfl (Step.move rfl) ?_
  refine WL.step (v := (Value.int .i64 gap)) rfl (Step.move rfl) ?_
  refine WL.callX rfl (num_clamp gap 1 1048576 (M.enterW0 trivial)) (CallsF.func Try.en80 rfl) ?_
  rintro _ w3 ⟨rfl, m⟩
  replace M := M.leaveW0 m
  clear m
  replace M : Mem _ _ _ [] [SlAt 1 v xs.length (xs.flatMap intE)] _ := M
  refine WL.step (v := (Value.bool ((gap : Int) == (max 1 (min gap 1048576) : Int)))) rfl (Step.pure (by kernel_rfl)) ?_
  refine WL.step (v := (Value.bool ((gap : Int) == (max 1 (min gap 1048576) : Int)))) rfl (Step.move rfl) ?_
  rcases Bool.eq_false_or_eq_true ((gap : Int) == (max 1 (min gap 1048576) : Int)) with h4 | h4
  ·
    have h4p : (gap : Int) = (max 1 (min gap 1048576) : Int) := by simpa using h4
    rw [h4]
    refine WL.step (v := v) rfl (Step.move rfl) ?_
    refine WL.step (v := (Value.func (.func 79) #[] #[])) rfl (Step.move rfl) ?_
    refine WL.callX rfl (any_far v xs (M.enterW0 ⟨(M.wideR0 0 rfl), trivial⟩)) (CallsF.func Try.en81 rfl) ?_
    rintro _ w5 ⟨rfl, m⟩
    replace M := M.leaveW0 m
    clear m
    replace M : Mem _ _ _ [] [SlAt 1 v xs.length (xs.flatMap intE)] _ := M
    refine WL.step (v := (Value.bool (!(xs.any farB)))) rfl (Step.pure (by kernel_rfl)) ?_
    refine WL.step (v := (Value.bool (!(xs.any farB)))) rfl (Step.pick (t := true) rfl rfl) ?_
    refine WL.step (v := (Value.bool (!(xs.any farB)))) rfl (Step.assign rfl) ?_
    refine WL.nil ?_
    refine W.ret ?_
    refine ⟨.inl rfl, (Value.bool (!(xs.any farB))), ?_, ?_⟩
    · exact ⟨rfl, (Res.r1 (show RV _ _ _ (.tmp 4) (Value.bool (!(xs.any farB))) from by exact rfl))⟩
    refine ⟨?_, M.close [] rfl (by decide) trivial⟩
    refine congrArg Value.bool ?_
    rw [mayB, ← gap_eq gap, h4, Bool.true_and, may_eq gap]
  ·
    have h4p : ¬ (gap : Int) = (max 1 (min gap 1048576) : Int) := by simpa using h4
    rw [h4]
    refine WL.pass rfl ?_
    refine WL.pass rfl ?_
    refine WL.pass rfl ?_
    refine WL.pass rfl ?_
    refine WL.step (v := (Value.bool false)) rfl (Step.pick (t := false) rfl rfl) ?_
    refine WL.step (v := (Value.bool false)) rfl (Step.assign rfl) ?_
    refine WL.nil ?_
    refine W.ret ?_
    refine ⟨.inl rfl, (Value.bool false), ?_, ?_⟩
    · exact ⟨rfl, (Res.r1 (show RV _ _ _ (.tmp 4) (Value.bool false) from by exact rfl))⟩
    refine ⟨?_, M.close [] rfl (by decide) trivial⟩
    refine congrArg Value.bool ?_
    rw [mayB, ← gap_eq gap, h4, Bool.false_and]

theorem ses_over {G : Nat → Prop} {w : World} (a : Span) (b : Span)   (M : Mem G (fun _ => False) w [] [] w) : Rets Try.prog 38 #[(Value.agg #[(Value.int .i64 a.start), (Value.int .i64 a.fin)]), (Value.agg #[(Value.int .i64 b.start), (Value.int .i64 b.fin)])] w fun r w' => r = (Value.bool (overS2 a b)) ∧ Mem G (fun _ => False) w [] [] w' := by
  refine Rets.enter 17 _ Try.func38 rfl Try.ntmps38 Try.results38 (by simp) ?_
  refine W.seq' ?_
  refine W.region rfl ?_
  refine WL.box (v := (Value.agg #[(Value.int .i64 a.start), (Value.int .i64 a.fin)])) (c := #[(Value.int .i64 a.start), (Value.int .i64 a.fin)]) M rfl rfl rfl (fun b1 w2 hb1 M => ?_)
  refine WL.box (v := (Value.agg #[(Value.int .i64 b.start), (Value.int .i64 b.fin)])) (c := #[(Value.int .i64 b.start), (Value.int .i64 b.fin)]) M rfl rfl rfl (fun b3 w4 hb3 M => ?_)
  refine WL.step (v := (Value.bool false)) rfl (Step.assign rfl) ?_
  refine WL.nil ?_
  refine W.seq' ?_
  refine W.region rfl ?_
  refine WL.step (v := (Value.pointer (some ⟨b1, 0, none⟩))) rfl (Step.pure (by kernel_rfl)) ?_
  refine WL.step (v := (Value.int .i64 a.start)) rfl (Step.load1 Try.sc2 rfl ((M.cell 1 rfl 0).trans rfl)) ?_
  refine WL.step (v := (Value.pointer (some ⟨b3, 1, none⟩))) rfl (Step.pure (by kernel_rfl)) ?_
  refine WL.step (v := (Value.int .i64 b.fin)) rfl (Step.load1 Try.sc2 rfl ((M.cell 0 rfl 1).trans rfl)) ?_
  refine WL.step (v := (Value.bool (decide ((a.start : Int) < (b.fin : Int))))) rfl (Step.pure (by kernel_rfl)) ?_
  refine WL.step (v := (Value.bool (decide ((a.start : Int) < (b.fin : Int))))) rfl (Step.move rfl) ?_
  rcases Bool.eq_false_or_eq_true (decide ((a.start : Int) < (b.fin : Int))) with h5 | h5
  ·
    have h5p := of_decide_eq_true h5
    rw [h5]
    refine WL.step (v := (Value.pointer (some ⟨b3, 0, none⟩))) rfl (Step.pure (by kernel_rfl)) ?_
    refine WL.step (v := (Value.int .i64 b.start)) rfl (Step.load1 Try.sc2 rfl ((M.cell 0 rfl 0).trans rfl)) ?_
    refine WL.step (v := (Value.pointer (some ⟨b1, 1, none⟩))) rfl (Step.pure (by kernel_rfl)) ?_
    refine WL.step (v := (Value.int .i64 a.fin)) rfl (Step.load1 Try.sc2 rfl ((M.cell 1 rfl 1).trans rfl)) ?_
    refine WL.step (v := (Value.bool (decide ((b.start : Int) < (a.fin : Int))))) rfl (Step.pure (by kernel_rfl)) ?_
    refine WL.step (v := (Value.bool (decide ((b.start : Int) < (a.fin : Int))))) rfl (Step.pick (t := true) rfl rfl) ?_
    refine WL.step (v := (Value.bool (decide ((b.start : Int) < (a.fin : Int))))) rfl (Step.assign rfl) ?_
    refine WL.nil ?_
    refine W.ret ?_
    refine ⟨.inl rfl, (Value.bool (decide ((b.start : Int) < (a.fin : Int)))), ?_, ?_⟩
    · exact ⟨rfl, (Res.r1 (show RV _ _ _ (.tmp 4) (Value.bool (decide ((b.start : Int) < (a.fin : Int)))) from by exact rfl))⟩
    refine ⟨?_, M.close [] rfl (by decide) trivial⟩
    refine congrArg Value.bool ?_
    first | rfl | (simp [overS2, h5p]; done) | (simp [overS2, h5p]; omega) | (rw [Bool.eq_iff_iff]; simp [overS2, h5p]; done) | (rw [Bool.eq_iff_iff]; simp [overS2, h5p]; omega) | grind [overS2]
  ·
    have h5p := of_decide_eq_false h5
    rw [h5]
    refine WL.pass rfl ?_
    refine WL.pass rfl ?_
    refine WL.pass rfl ?_
    refine WL.pass rfl ?_
    refine WL.pass rfl ?_
    refine WL.step (v := (Value.bool false)) rfl (Step.pick (t := false) rfl rfl) ?_
    refine WL.step (v := (Value.bool false)) rfl (Step.assign rfl) ?_
    refine WL.nil ?_
    refine W.ret ?_
    refine ⟨.inl rfl, (Value.bool false), ?_, ?_⟩
    · exact ⟨rfl, (Res.r1 (show RV _ _ _ (.tmp 4) (Value.bool false) from by exact rfl))⟩
    refine ⟨?_, M.close [] rfl (by decide) trivial⟩
    refine congrArg Value.bool ?_
    first | rfl | (simp [overS2, h5p]; done) | (simp [overS2, h5p]; omega) | (rw [Bool.eq_iff_iff]; simp [overS2, h5p]; done) | (rw [Bool.eq_iff_iff]; simp [overS2, h5p]; omega) | grind [overS2]

theorem ref17_over {G : Nat → Prop} {w : World} (a : Span) (b : Span)   (M : Mem G (fun _ => False) w [] [] w) : Rets Try.prog 39 #[(Value.agg #[(Value.int .i64 a.start), (Value.int .i64 a.fin)]), (Value.agg #[(Value.int .i64 b.start), (Value.int .i64 b.fin)])] w fun r w' => r = (Value.bool (overS2 a b)) ∧ Mem G (fun _ => False) w [] [] w' := by
  refine Rets.enter 17 _ Try.func39 rfl Try.ntmps39 Try.results39 (by simp) ?_
  refine W.seq' ?_
  refine W.region rfl ?_
  refine WL.box (v := (Value.agg #[(Value.int .i64 a.start), (Value.int .i64 a.fin)])) (c := #[(Value.int .i64 a.start), (Value.int .i64 a.fin)]) M rfl rfl rfl (fun b1 w2 hb1 M => ?_)
  refine WL.box (v := (Value.agg #[(Value.int .i64 b.start), (Value.int .i64 b.fin)])) (c := #[(Value.int .i64 b.start), (Value.int .i64 b.fin)]) M rfl rfl rfl (fun b3 w4 hb3 M => ?_)
  refine WL.step (v := (Value.bool false)) rfl (Step.assign rfl) ?_
  refine WL.nil ?_
  refine W.seq' ?_
  refine W.region rfl ?_
  refine WL.step (v := (Value.pointer (some ⟨b1, 0, none⟩))) rfl (Step.pure (by kernel_rfl)) ?_
  refine WL.step (v := (Value.int .i64 a.start)) rfl (Step.load1 Try.sc2 rfl ((M.cell 1 rfl 0).trans rfl)) ?_
  refine WL.step (v := (Value.pointer (some ⟨b3, 1, none⟩))) rfl (Step.pure (by kernel_rfl)) ?_
  refine WL.step (v := (Value.int .i64 b.fin)) rfl (Step.load1 Try.sc2 rfl ((M.cell 0 rfl 1).trans rfl)) ?_
  refine WL.step (v := (Value.bool (decide ((a.start : Int) < (b.fin : Int))))) rfl (Step.pure (by kernel_rfl)) ?_
  refine WL.step (v := (Value.bool (decide ((a.start : Int) < (b.fin : Int))))) rfl (Step.move rfl) ?_
  rcases Bool.eq_false_or_eq_true (decide ((a.start : Int) < (b.fin : Int))) with h5 | h5
  ·
    have h5p := of_decide_eq_true h5
    rw [h5]
    refine WL.step (v := (Value.pointer (some ⟨b3, 0, none⟩))) rfl (Step.pure (by kernel_rfl)) ?_
    refine WL.step (v := (Value.int .i64 b.start)) rfl (Step.load1 Try.sc2 rfl ((M.cell 0 rfl 0).trans rfl)) ?_
    refine WL.step (v := (Value.pointer (some ⟨b1, 1, none⟩))) rfl (Step.pure (by kernel_rfl)) ?_
    refine WL.step (v := (Value.int .i64 a.fin)) rfl (Step.load1 Try.sc2 rfl ((M.cell 1 rfl 1).trans rfl)) ?_
    refine WL.step (v := (Value.bool (decide ((b.start : Int) < (a.fin : Int))))) rfl (Step.pure (by kernel_rfl)) ?_
    refine WL.step (v := (Value.bool (decide ((b.start : Int) < (a.fin : Int))))) rfl (Step.pick (t := true) rfl rfl) ?_
    refine WL.step (v := (Value.bool (decide ((b.start : Int) < (a.fin : Int))))) rfl (Step.assign rfl) ?_
    refine WL.nil ?_
    refine W.ret ?_
    refine ⟨.inl rfl, (Value.bool (decide ((b.start : Int) < (a.fin : Int)))), ?_, ?_⟩
    · exact ⟨rfl, (Res.r1 (show RV _ _ _ (.tmp 4) (Value.bool (decide ((b.start : Int) < (a.fin : Int)))) from by exact rfl))⟩
    refine ⟨?_, M.close [] rfl (by decide) trivial⟩
    refine congrArg Value.bool ?_
    first | rfl | (simp [overS2, h5p]; done) | (simp [overS2, h5p]; omega) | (rw [Bool.eq_iff_iff]; simp [overS2, h5p]; done) | (rw [Bool.eq_iff_iff]; simp [overS2, h5p]; omega) | grind [overS2]
  ·
    have h5p := of_decide_eq_false h5
    rw [h5]
    refine WL.pass rfl ?_
    refine WL.pass rfl ?_
    refine WL.pass rfl ?_
    refine WL.pass rfl ?_
    refine WL.pass rfl ?_
    refine WL.step (v := (Value.bool false)) rfl (Step.pick (t := false) rfl rfl) ?_
    refine WL.step (v := (Value.bool false)) rfl (Step.assign rfl) ?_
    refine WL.nil ?_
    refine W.ret ?_
    refine ⟨.inl rfl, (Value.bool false), ?_, ?_⟩
    · exact ⟨rfl, (Res.r1 (show RV _ _ _ (.tmp 4) (Value.bool false) from by exact rfl))⟩
    refine ⟨?_, M.close [] rfl (by decide) trivial⟩
    refine congrArg Value.bool ?_
    first | rfl | (simp [overS2, h5p]; done) | (simp [overS2, h5p]; omega) | (rw [Bool.eq_iff_iff]; simp [overS2, h5p]; done) | (rw [Bool.eq_iff_iff]; simp [overS2, h5p]; omega) | grind [overS2]

theorem ref17_gap {G : Nat → Prop} {w : World} (gap : Int)   (M : Mem G (fun _ => False) w [] [] w) : Rets Try.prog 57 #[(Value.int .i64 gap)] w fun r w' => r = (Value.bool (gapB gap)) ∧ Mem G (fun _ => False) w [] [] w' := by
  refine Rets.enter 9 _ Try.func57 rfl Try.ntmps57 Try.results57 (by simp) ?_
  refine W.seq' ?_
  refine W.region rfl ?_
  refine WL.step (v := (Value.bool false)) rfl (Step.assign rfl) ?_
  refine WL.nil ?_
  refine W.seq' ?_
  refine W.region rfl ?_
  refine WL.step (v := (Value.int .i64 gap)) rfl (Step.move rfl) ?_
  refine WL.step (v := (Value.bool (decide ((gap : Int) ≥ (1 : Int))))) rfl (Step.pure (by kernel_rfl)) ?_
  refine WL.step (v := (Value.bool (decide ((gap : Int) ≥ (1 : Int))))) rfl (Step.move rfl) ?_
  rcases Bool.eq_false_or_eq_true (decide ((gap : Int) ≥ (1 : Int))) with h1 | h1
  ·
    have h1p := of_decide_eq_true h1
    rw [h1]
    refine WL.step (v := (Value.int .i64 gap)) rfl (Step.move rfl) ?_
    refine WL.step (v := (Value.bool (decide ((gap : Int) ≤ (1048576 : Int))))) rfl (Step.pure (by kernel_rfl)) ?_
    refine WL.step (v := (Value.bool (decide ((gap : Int) ≤ (1048576 : Int))))) rfl (Step.pick (t := true) rfl rfl) ?_
    refine WL.step (v := (Value.bool (decide ((gap : Int) ≤ (1048576 : Int))))) rfl (Step.assign rfl) ?_
    refine WL.nil ?_
    refine W.ret ?_
    refine ⟨.inl rfl, (Value.bool (decide ((gap : Int) ≤ (1048576 : Int)))), ?_, ?_⟩
    · exact ⟨rfl, (Res.r1 (show RV _ _ _ (.tmp 2) (Value.bool (decide ((gap : Int) ≤ (1048576 : Int)))) from by exact rfl))⟩
    refine ⟨?_, M.close [] rfl (by decide) trivial⟩
    refine congrArg Value.bool ?_
    first | rfl | (simp [gapB, h1p]; done) | (simp [gapB, h1p]; omega) | (rw [Bool.eq_iff_iff]; simp [gapB, h1p]; done) | (rw [Bool.eq_iff_iff]; simp [gapB, h1p]; omega) | grind [gapB]
  ·
    have h1p := of_decide_eq_false h1
    rw [h1]
    refine WL.pass rfl ?_
    refine WL.pass rfl ?_
    refine WL.step (v := (Value.bool false)) rfl (Step.pick (t := false) rfl rfl) ?_
    refine WL.step (v := (Value.bool false)) rfl (Step.assign rfl) ?_
    refine WL.nil ?_
    refine W.ret ?_
    refine ⟨.inl rfl, (Value.bool false), ?_, ?_⟩
    · exact ⟨rfl, (Res.r1 (show RV _ _ _ (.tmp 2) (Value.bool false) from by exact rfl))⟩
    refine ⟨?_, M.close [] rfl (by decide) trivial⟩
    refine congrArg Value.bool ?_
    first | rfl | (simp [gapB, h1p]; done) | (simp [gapB, h1p]; omega) | (rw [Bool.eq_iff_iff]; simp [gapB, h1p]; done) | (rw [Bool.eq_iff_iff]; simp [gapB, h1p]; omega) | grind [gapB]

theorem ref17_time {G : Nat → Prop} {w : World} (t : Int)   (M : Mem G (fun _ => False) w [] [] w) : Rets Try.prog 58 #[(Value.int .i64 t)] w fun r w' => r = (Value.bool (timeB t)) ∧ Mem G (fun _ => False) w [] [] w' := by
  refine Rets.enter 9 _ Try.func58 rfl Try.ntmps58 Try.results58 (by simp) ?_
  refine W.seq' ?_
  refine W.region rfl ?_
  refine WL.step (v := (Value.bool false)) rfl (Step.assign rfl) ?_
  refine WL.nil ?_
  refine W.seq' ?_
  refine W.region rfl ?_
  refine WL.step (v := (Value.int .i64 t)) rfl (Step.move rfl) ?_
  refine WL.step (v := (Value.bool (decide ((t : Int) ≥ (-1099511627776 : Int))))) rfl (Step.pure (by kernel_rfl)) ?_
  refine WL.step (v := (Value.bool (decide ((t : Int) ≥ (-1099511627776 : Int))))) rfl (Step.move rfl) ?_
  rcases Bool.eq_false_or_eq_true (decide ((t : Int) ≥ (-1099511627776 : Int))) with h1 | h1
  ·
    have h1p := of_decide_eq_true h1
    rw [h1]
    refine WL.step (v := (Value.int .i64 t)) rfl (Step.move rfl) ?_
    refine WL.step (v := (Value.bool (decide ((t : Int) ≤ (1099511627776 : Int))))) rfl (Step.pure (by kernel_rfl)) ?_
    refine WL.step (v := (Value.bool (decide ((t : Int) ≤ (1099511627776 : Int))))) rfl (Step.pick (t := true) rfl rfl) ?_
    refine WL.step (v := (Value.bool (decide ((t : Int) ≤ (1099511627776 : Int))))) rfl (Step.assign rfl) ?_
    refine WL.nil ?_
    refine W.ret ?_
    refine ⟨.inl rfl, (Value.bool (decide ((t : Int) ≤ (1099511627776 : Int)))), ?_, ?_⟩
    · exact ⟨rfl, (Res.r1 (show RV _ _ _ (.tmp 2) (Value.bool (decide ((t : Int) ≤ (1099511627776 : Int)))) from by exact rfl))⟩
    refine ⟨?_, M.close [] rfl (by decide) trivial⟩
    refine congrArg Value.bool ?_
    first | rfl | (simp [timeB, h1p]; done) | (simp [timeB, h1p]; omega) | (rw [Bool.eq_iff_iff]; simp [timeB, h1p]; done) | (rw [Bool.eq_iff_iff]; simp [timeB, h1p]; omega) | grind [timeB]
  ·
    have h1p := of_decide_eq_false h1
    rw [h1]
    refine WL.pass rfl ?_
    refine WL.pass rfl ?_
    refine WL.step (v := (Value.bool false)) rfl (Step.pick (t := false) rfl rfl) ?_
    refine WL.step (v := (Value.bool false)) rfl (Step.assign rfl) ?_
    refine WL.nil ?_
    refine W.ret ?_
    refine ⟨.inl rfl, (Value.bool false), ?_, ?_⟩
    · exact ⟨rfl, (Res.r1 (show RV _ _ _ (.tmp 2) (Value.bool false) from by exact rfl))⟩
    refine ⟨?_, M.close [] rfl (by decide) trivial⟩
    refine congrArg Value.bool ?_
    first | rfl | (simp [timeB, h1p]; done) | (simp [timeB, h1p]; omega) | (rw [Bool.eq_iff_iff]; simp [timeB, h1p]; done) | (rw [Bool.eq_iff_iff]; simp [timeB, h1p]; omega) | grind [timeB]

theorem clone_i64 {G : Nat → Prop} {w : World} (v : Value) (xs : List Int)  (hb : xs.length * 8 ≤ 140737488355328) (M : Mem G (fun _ => False) w [] [SlAt 1 v xs.length (xs.flatMap intE)] w) : Rets Try.prog 65 #[v] w fun r w' => ∃ (v' : Value), r = v' ∧ Mem G (fun _ => False) w [own 2 1 v' xs.length (xs.flatMap intE)] [] w' := by
  refine Rets.enter 8 _ Try.func65 rfl Try.ntmps65 Try.results65 (by simp) ?_
  have hle1 := SlAt.le' (M.rep 0 rfl)
  have sl2 : IsSl v := SlAt.isSl (Mem.rep M 0 rfl)
  refine W.seq' ?_
  refine W.region rfl ?_
  refine WL.step (v := (Value.slice none 0 0)) rfl (Step.assign rfl) ?_
  refine WL.nil ?_
  refine W.seq' ?_
  refine W.seq' ?_
  refine W.region rfl ?_
  refine WL.step (v := v) rfl (Step.move rfl) ?_
  rcases SlAt.cases (M.rep 0 rfl) with ⟨hn3, hn3z⟩ | ⟨_, _, hn3⟩
  ·
    refine WL.step (v := (Value.bool true)) rfl (Step.eqNil Try.un70 rfl hn3 rfl) ?_
    refine WL.nil ?_
    refine W.cond (t := true) rfl (fun _ => ?_) (fun h => by cases h)
    refine W.seq' ?_
    refine W.region rfl ?_
    refine WL.step (v := (Value.slice none 0 0)) rfl (Step.assign rfl) ?_
    refine WL.nil ?_
    refine W.ret ?_
    refine ⟨.inl rfl, (Value.slice none 0 0), ?_, ?_⟩
    · exact ⟨rfl, (Res.r1 (show RV _ _ _ (.tmp 2) (Value.slice none 0 0) from by exact rfl))⟩
    replace M := M.ownNil 2 1
    have e4 : xs = [] := by
      exact List.eq_nil_of_length_eq_zero hn3z
    replace M : Mem _ _ _ [own 2 1 (Value.slice none 0 0) (([] : List Int).length) (([] : List Int).flatMap intE)] [SlAt 1 v xs.length (xs.flatMap intE)] _ := M
    replace M := M.rechunk 0 (c' := own 2 1 (Value.slice none 0 0) xs.length (xs.flatMap intE)) rfl (by rw [e4])
    replace M : Mem _ _ _ [own 2 1 (Value.slice none 0 0) xs.length (xs.flatMap intE)] [SlAt 1 v xs.length (xs.flatMap intE)] _ := M
    refine ⟨(Value.slice none 0 0), ?_, M.close [0] rfl (by decide) trivial⟩
    rfl
  ·
    refine WL.step (v := (Value.bool false)) rfl (Step.eqSome Try.un70 rfl hn3 rfl) ?_
    refine WL.nil ?_
    refine W.cond (t := false) rfl (fun h => by cases h) (fun _ => ?_)
    refine W.skip ?_
    refine W.seq' ?_
    refine W.region rfl ?_
    refine WL.new (obj := .cells #[] 2) (fun b => .slice (some ⟨b, 0, none⟩) 0 0) M rfl (fun w => Step.make (by kernel_rfl)) (fun b5 w6 hb5 M => ?_)
    refine WL.step (v := v) rfl (Step.move rfl) ?_
    replace M := M.ownBlk 0 (n := 0) (size := 1) rfl rfl (by decide)
    replace M : Mem _ _ _ [own 2 1 (Value.slice (some ⟨b5, 0, none⟩) 0 0) (([] : List Int).length) (([] : List Int).flatMap intE)] [SlAt 1 v xs.length (xs.flatMap intE)] _ := M
    refine WL.does rfl (M.appendF ([] : List Int) xs (sv := v) 0 Try.un70 Try.el2 rfl (by decide) rfl rfl rfl (M.rep 0 rfl) intE_cel (by have := trivial; simp only [maxLen, List.length_nil, List.length_cons, List.length_append]; omega) (by have := trivial; (try simp only [List.length_nil, List.length_cons, List.length_append]); omega)) ?_
    rintro v7 w8 M
    replace M : Mem _ _ _ [own 2 1 v7 xs.length (xs.flatMap intE)] [SlAt 1 v xs.length (xs.flatMap intE)] _ := M
    have sl9 : IsSl v7 := SlAt.isSl (own_slAt (M.chunk 0 rfl).inv)
    refine WL.step (v := v7) rfl (Step.assign rfl) ?_
    refine WL.nil ?_
    refine W.ret ?_
    refine ⟨.inl rfl, v7, ?_, ?_⟩
    · exact ⟨rfl, (Res.r1 (show RV _ _ _ (.tmp 2) v7 from by exact rfl))⟩
    refine ⟨v7, ?_, M.close [0] rfl (by decide) trivial⟩
    rfl

theorem ses_of {G : Nat → Prop} {w : World} (gap : Int) (v : Value) (xs : List Int)  (hb : xs.length ≤ 1000000) (hm : mayB gap xs = true) (M : Mem G (fun _ => False) w [] [SlAt 1 v xs.length (xs.flatMap intE)] w) : Rets Try.prog 35 #[(Value.int .i64 gap), v] w fun r w' => ∃ (v' : Value), r = (Value.tuple #[v', (Value.int .i64 0)]) ∧ Mem G (fun _ => False) w [own 65 2 v' ((ofT gap (sortT xs)).length) ((ofT gap (sortT xs)).flatMap spanE)] [] w' := by
  refine Rets.enter 57 _ Try.func35 rfl Try.ntmps35 Try.results35 (by simp) ?_
  have hle1 := SlAt.le' (M.rep 0 rfl)
  have sl2 : IsSl v := SlAt.isSl (Mem.rep M 0 rfl)
  obtain ⟨hg1, hg2⟩ := mayB_gap hm
  have hts : ∀ t, t ∈ sortT xs → -1099511627776 ≤ t ∧ t ≤ 1099511627776 := fun t ht => mayB_time hm t ((sortT_perm xs).mem_iff.1 ht)
  refine W.seq' ?_
  refine W.region rfl ?_
  refine WL.step (v := (Value.slice none 0 0)) rfl (Step.assign rfl) ?_
  refine WL.step (v := (Value.int .i64 0)) rfl (Step.assign rfl) ?_
  refine WL.nil ?_
  refine W.scope ?_
  refine W.seq' ?_
  refine W.seq' ?_
  refine W.region rfl ?_
  refine WL.step (v := (Value.int .i64 gap)) rfl (Step.move rfl) ?_
  refine WL.step (v := v) rfl (Step.move rfl) ?_
  refine WL.callX rfl (ses_may gap v xs (M.enterW0 ⟨(M.wideR0 0 rfl), trivial⟩)) (CallsF.func Try.en60 rfl) ?_
  rintro _ w3 ⟨rfl, m⟩
  replace M := M.leaveW0 m
  clear m
  replace M : Mem _ _ _ [] [SlAt 1 v xs.length (xs.flatMap intE)] _ := M
  rw [hm]
  refine WL.step (v := (Value.bool false)) rfl (Step.pure (by kernel_rfl)) ?_
  refine WL.nil ?_
  refine W.cond (t := false) rfl (fun h => by cases h) (fun _ => ?_)
  refine W.skip ?_
  refine W.seq' ?_
  refine W.region rfl ?_
  refine WL.step (v := v) rfl (Step.move rfl) ?_
  refine WL.callX rfl (clone_i64 v xs (by omega) (M.enterW0 ⟨(M.wideR0 0 rfl), trivial⟩)) (CallsF.func Try.en65 rfl) ?_
  rintro v4 w5 ⟨_, rfl, m⟩
  replace M := M.leaveW0 m
  clear m
  replace M : Mem _ _ _ [own 2 1 v4 xs.length (xs.flatMap intE)] [SlAt 1 v xs.length (xs.flatMap intE)] _ := M
  have sl6 : IsSl v4 := SlAt.isSl (own_slAt (Mem.chunk M 0 rfl).inv)
  have hle7 := SlAt.le' (own_slAt (Mem.chunk M 0 rfl).inv)
  refine WL.step (v := v4) rfl (Step.assign rfl) ?_
  refine WL.nil ?_
  refine W.seq' ?_
  refine W.region rfl ?_
  refine WL.step (v := v4) rfl (Step.move rfl) ?_
  refine WL.callX rfl (sort_i64 v4 xs (by first | omega | assumption | decide | (simp only [List.length_nil, List.length_cons, List.length_take, List.length_drop]; omega)) (M.enterW (C := [own 2 1 v4 xs.length (xs.flatMap intE)]) (D := []) [0] rfl (by decide) trivial)) (CallsF.func Try.en66 rfl) ?_
  rintro _ w8 ⟨rfl, m⟩
  replace M := M.leaveW (C := [own 2 1 v4 xs.length (xs.flatMap intE)]) (D := []) [0] rfl (by decide) m
  clear m
  replace M : Mem _ _ _ [own 2 1 v4 ((sortT xs).length) ((sortT xs).flatMap intE)] [SlAt 1 v xs.length (xs.flatMap intE)] _ := M
  have hle9 := SlAt.le' (own_slAt (Mem.chunk M 0 rfl).inv)
  refine WL.nil ?_
  refine W.seq' ?_
  refine W.region rfl ?_
  refine WL.step (v := (Value.slice none 0 0)) rfl (Step.assign rfl) ?_
  refine WL.nil ?_
  refine W.seq' ?_
  refine W.label ?_
  refine W.seq' ?_
  refine W.seq' ?_
  refine W.region rfl ?_
  refine WL.step (v := v4) rfl (Step.move rfl) ?_
  refine WL.step (v := (Value.int .i64 (↑((sortT xs).length)))) rfl (Step.lenSl Try.un70 rfl (own_slAt (M.chunk 0 rfl).inv)) ?_
  refine WL.step (v := (Value.int .i64 0)) rfl (Step.move rfl) ?_
  refine WL.nil ?_
  refine W.block ?_
  replace M := M.ownNil 65 2
  replace M : Mem _ _ _ [own 65 2 (Value.slice none 0 0) (([] : List Span).length) (([] : List Span).flatMap spanE), own 2 1 v4 ((sortT xs).length) ((sortT xs).flatMap intE)] [SlAt 1 v xs.length (xs.flatMap intE)] _ := M
  replace M := M.sel (L' := [own 65 2 (Value.slice none 0 0) (([] : List Span).length) (([] : List Span).flatMap spanE), own 2 1 v4 ((sortT xs).length) ((sortT xs).flatMap intE)]) [0, 1] rfl (by decide)
  replace M : Mem _ _ _ [own 65 2 (Value.slice none 0 0) (([] : List Span).length) (([] : List Span).flatMap spanE), own 2 1 v4 ((sortT xs).length) ((sortT xs).flatMap intE)] [SlAt 1 v xs.length (xs.flatMap intE)] _ := M
  refine W.loop (fun kk ρ w' => ∃ (i_ : Nat) (ov_ : Value) (zs_ : List Span), ((i_ ≤ (sortT xs).length) ∧ (zs_ = ofT gap ((sortT xs).take i_)) ∧ (zs_.length ≤ i_) ∧ kk = (sortT xs).length - i_) ∧ ρ.has [(0, (Value.int .i64 gap)), (4, (Value.slice none 0 0)), (5, (Value.int .i64 0)), (7, ov_), (19, v4), (20, (Value.int .i64 (↑((sortT xs).length)))), (21, (Value.int .i64 ↑i_))] ∧ Mem G (fun _ => False) w [own 65 2 ov_ zs_.length (zs_.flatMap spanE), own 2 1 v4 ((sortT xs).length) ((sortT xs).flatMap intE)] [SlAt 1 v xs.length (xs.flatMap intE)]  w') _ ⟨0, _, ([] : List Span), ⟨(Nat.zero_le _), rfl, (Nat.le_refl _), rfl⟩, ⟨rfl, rfl, rfl, rfl, rfl, rfl, rfl, rfl, rfl⟩, M⟩ ?_
  rintro _ ρ11 w10 ⟨i_, ov_, zs_, ⟨hi12, hi13, hi14, rfl⟩, hρ, M⟩
  obtain ⟨ρ11, rfl⟩ := hρ.know
  clear hρ
  have sl15 : IsSl ov_ := SlAt.isSl (own_slAt (M.chunk 0 rfl).inv)
  have hsl_ := sortT_len xs
  refine W.seq' ?_
  refine W.region rfl ?_
  refine WL.step (v := (Value.bool (decide ((↑i_ : Int) < (↑((sortT xs).length) : Int))))) rfl (Step.pure (by kernel_rfl)) ?_
  refine WL.nil ?_
  refine W.seq' ?_
  refine W.cond (t := decide ((↑i_ : Int) < (↑((sortT xs).length) : Int))) rfl (fun h16 => ?_) (fun h16 => ?_)
  ·
    have h16p := of_decide_eq_true h16
    refine W.skip ?_
    refine W.seq' ?_
    refine W.block ?_
    refine W.seq' ?_
    refine W.region rfl ?_
    obtain ⟨cap18, hb17⟩ := SlAt.base (own_slAt (M.chunk 1 rfl).inv) (by omega)
    obtain ⟨x19, hx19⟩ := elem_of_lt (xs := sortT xs) (i := i_) (by omega)
    have ht_ := hts _ (List.mem_of_getElem? hx19)
    refine WL.step (v := (Value.pointer (some ⟨(sBlk v4), sOff v4 + i_ * 1, none⟩))) rfl (Step.indexAddr (i := i_) (Try.un70).run Try.el2.sized rfl rfl (by omega) hb17 (by omega)) ?_
    refine WL.step (v := (Value.int .i64 x19)) rfl (Step.loadE (k := 0) Try.sc2 (flat_ec (own_slAt (M.chunk 1 rfl).inv) hx19 intE_len) (by decide) rfl rfl) ?_
    refine WL.step (v := (Value.int .i64 x19)) rfl (Step.assign rfl) ?_
    refine WL.nil ?_
    refine W.seq' ?_
    refine W.seq' ?_
    refine W.region rfl ?_
    refine WL.step (v := ov_) rfl (Step.move rfl) ?_
    refine WL.step (v := (Value.int .i64 ↑zs_.length)) rfl (Step.lenSl Try.un58 rfl (own_slAt (M.chunk 0 rfl).inv)) ?_
    refine WL.step (v := (Value.int .i64 ↑zs_.length)) rfl (Step.assign rfl) ?_
    refine WL.nil ?_
    refine W.seq' ?_
    refine W.region rfl ?_
    refine WL.step (v := (Value.int .i64 ↑zs_.length)) rfl (Step.move rfl) ?_
    refine WL.step (v := (Value.bool (decide ((↑zs_.length : Int) > (0 : Int))))) rfl (Step.pure (by kernel_rfl)) ?_
    refine WL.step (v := (Value.bool (decide ((↑zs_.length : Int) > (0 : Int))))) rfl (Step.move rfl) ?_
    rcases Bool.eq_false_or_eq_true (decide ((↑zs_.length : Int) > (0 : Int))) with h20 | h20
    ·
      have h20p := of_decide_eq_true h20
      rw [h20]
      refine WL.step (v := (Value.int .i64 x19)) rfl (Step.move rfl) ?_
      refine WL.step (v := ov_) rfl (Step.move rfl) ?_
      refine WL.step (v := (Value.int .i64 ↑zs_.length)) rfl (Step.move rfl) ?_
      refine WL.step (v := (Value.int .i64 ((↑zs_.length : Int) - 1))) rfl (Step.sub rfl rfl (wrap_i64 (by omega))) ?_
      obtain ⟨cap22, hb21⟩ := SlAt.base (own_slAt (M.chunk 0 rfl).inv) (by omega)
      obtain ⟨x23, hx23⟩ := elem_of_lt (xs := zs_) (i := zs_.length - 1) (by omega)
      refine WL.step (v := (Value.pointer (some ⟨(sBlk ov_), sOff ov_ + (zs_.length - 1) * 2, none⟩))) rfl (Step.indexAddr (i := zs_.length - 1) (Try.un58).run Try.el65.sized rfl rfl (by omega) hb21 (by omega)) ?_
      refine WL.step (v := (Value.pointer (some ⟨(sBlk ov_), sOff ov_ + (zs_.length - 1) * 2 + 1, none⟩))) rfl (Step.pure (by kernel_rfl)) ?_
      refine WL.step (v := (Value.int .i64 x23.fin)) rfl (Step.loadE (k := 1) Try.sc2 (flat_ec (own_slAt (M.chunk 0 rfl).inv) hx23 spanE_len) (by decide) rfl rfl) ?_
      refine WL.step (v := (Value.bool (decide ((x19 : Int) < (x23.fin : Int))))) rfl (Step.pure (by kernel_rfl)) ?_
      refine WL.step (v := (Value.bool (decide ((x19 : Int) < (x23.fin : Int))))) rfl (Step.pick (t := true) rfl rfl) ?_
      refine WL.nil ?_
      refine W.cond (t := decide ((x19 : Int) < (x23.fin : Int))) rfl (fun h24 => ?_) (fun h24 => ?_)
      ·
        have h24p := of_decide_eq_true h24
        refine W.seq' ?_
        refine W.region rfl ?_
        refine WL.step (v := ov_) rfl (Step.move rfl) ?_
        refine WL.step (v := (Value.int .i64 ↑zs_.length)) rfl (Step.move rfl) ?_
        refine WL.step (v := (Value.int .i64 ((↑zs_.length : Int) - 1))) rfl (Step.sub rfl rfl (wrap_i64 (by omega))) ?_
        refine WL.step (v := (Value.int .i64 x19)) rfl (Step.move rfl) ?_
        refine WL.step (v := (Value.int .i64 gap)) rfl (Step.move rfl) ?_
        refine WL.step (v := (Value.int .i64 (x19 + gap))) rfl (Step.add rfl rfl (wrap_i64 (by omega))) ?_
        refine WL.step (v := (Value.pointer (some ⟨(sBlk ov_), sOff ov_ + (zs_.length - 1) * 2, none⟩))) rfl (Step.indexAddr (i := zs_.length - 1) (Try.un58).run Try.el65.sized rfl rfl (by omega) hb21 (by omega)) ?_
        refine WL.step (v := (Value.pointer (some ⟨(sBlk ov_), sOff ov_ + (zs_.length - 1) * 2 + 1, none⟩))) rfl (Step.pure (by kernel_rfl)) ?_
        obtain ⟨pre25, post26, hcs27, hpre28, hback29⟩ := flat_open spanE_len hx23
        replace M := M.rechunk 0 (c' := own 65 2 ov_ zs_.length (pre25 ++ ([(Value.int .i64 x23.start), (Value.int .i64 x23.fin)] ++ post26))) rfl (by rw [hcs27]; rfl)
        replace M : Mem _ _ _ [own 65 2 ov_ zs_.length (pre25 ++ ([(Value.int .i64 x23.start), (Value.int .i64 x23.fin)] ++ post26)), own 2 1 v4 ((sortT xs).length) ((sortT xs).flatMap intE)] [SlAt 1 v xs.length (xs.flatMap intE)] _ := M
        refine WL.act rfl (M.storeAt (cells := [(Value.int .i64 x23.start), (Value.int .i64 x23.fin)]) (cells' := [(Value.int .i64 x23.start), (Value.int .i64 (x19 + gap))]) (new := [(Value.int .i64 (x19 + gap))]) (k := 1) 0 rfl hpre28 Try.el2.sized rfl rfl rfl (cel_cons rfl cel_nil) (by first | omega | (simp only [List.length_set, List.length_append, List.length_cons, List.length_nil]; omega)) (Nat.le_of_ble_eq_true rfl) rfl rfl) ?_
        rintro w30 ⟨M, -⟩
        replace M : Mem _ _ _ [own 65 2 ov_ zs_.length (pre25 ++ ([(Value.int .i64 x23.start), (Value.int .i64 (x19 + gap))] ++ post26)), own 2 1 v4 ((sortT xs).length) ((sortT xs).flatMap intE)] [SlAt 1 v xs.length (xs.flatMap intE)] _ := M
        refine WL.nil ?_
        refine W.exit ?_
        refine thn_exit ?_
        refine inBlk_hit ?_
        refine W.region rfl ?_
        refine WL.step (v := (Value.int .i64 (↑i_ + 1))) rfl (Step.add rfl rfl (wrap_i64 (by omega))) ?_
        refine WL.step (v := (Value.int .i64 (↑i_ + 1))) rfl (Step.move rfl) ?_
        refine WL.nil ?_
        replace M := M.rechunk 0 (c' := own 65 2 ov_ (zs_.length) ((zs_.set (zs_.length - 1) (⟨x23.start, x19 + gap⟩ : Span)).flatMap spanE)) rfl (by rw [← hback29]; rfl)
        replace M := M.rechunk 0 (c' := own 65 2 ov_ ((zs_.set (zs_.length - 1) (⟨x23.start, x19 + gap⟩ : Span)).length) ((zs_.set (zs_.length - 1) (⟨x23.start, x19 + gap⟩ : Span)).flatMap spanE)) rfl (by rw [List.length_set])
        replace M : Mem _ _ _ [own 65 2 ov_ ((zs_.set (zs_.length - 1) (⟨x23.start, x19 + gap⟩ : Span)).length) ((zs_.set (zs_.length - 1) (⟨x23.start, x19 + gap⟩ : Span)).flatMap spanE), own 2 1 v4 ((sortT xs).length) ((sortT xs).flatMap intE)] [SlAt 1 v xs.length (xs.flatMap intE)] _ := M
        exact ⟨_, (by omega), i_ + 1, _, zs_.set (zs_.length - 1) (⟨x23.start, x19 + gap⟩ : Span), ⟨(by omega), (by rw [ofT_snoc hx19, ← hi13]; exact stepT_hit hx23 (by omega) h24p), (by simp only [List.length_set, List.length_append, List.length_cons, List.length_nil]; omega), rfl⟩, ⟨rfl, rfl, rfl, rfl, rfl, rfl, rfl, rfl, rfl⟩, M⟩
      ·
        have h24p := of_decide_eq_false h24
        refine W.skip ?_
        refine W.region rfl ?_
        refine WL.step (v := ov_) rfl (Step.move rfl) ?_
        refine WL.step (v := (Value.int .i64 x19)) rfl (Step.move rfl) ?_
        refine WL.step (v := (Value.int .i64 x19)) rfl (Step.move rfl) ?_
        refine WL.step (v := (Value.int .i64 gap)) rfl (Step.move rfl) ?_
        refine WL.step (v := (Value.int .i64 (x19 + gap))) rfl (Step.add rfl rfl (wrap_i64 (by omega))) ?_
        refine WL.step (v := (Value.agg #[(Value.int .i64 x19), (Value.int .i64 (x19 + gap))])) rfl (Step.pure (by kernel_rfl)) ?_
        refine WL.new (obj := .cells #[(Value.int .i64 x19), (Value.int .i64 (x19 + gap))] 65) (fun b => .slice (some ⟨b, 0, none⟩) 1 1) M rfl (fun w => Step.make (by kernel_rfl)) (fun b31 w32 hb31 M => ?_)
        refine WL.does rfl (M.appendF zs_ ([(⟨x19, x19 + gap⟩ : Span)] : List Span) (sv := (Value.slice (some ⟨b31, 0, none⟩) 1 1)) 1 Try.un58 Try.el65 rfl (by decide) rfl rfl rfl (SlAt.of_blk (M.blk 0 rfl) rfl (by decide)) spanE_cel (by have := (show zs_.length ≤ 1000000 by omega); simp only [maxLen, List.length_nil, List.length_cons, List.length_append]; omega) (by have := (show zs_.length ≤ 1000000 by omega); (try simp only [List.length_nil, List.length_cons, List.length_append]); omega)) ?_
        rintro v33 w34 M
        replace M : Mem _ _ _ [blk b31 (.cells #[(Value.int .i64 x19), (Value.int .i64 (x19 + gap))] 65), own 65 2 v33 ((zs_ ++ ([(⟨x19, x19 + gap⟩ : Span)] : List Span)).length) ((zs_ ++ ([(⟨x19, x19 + gap⟩ : Span)] : List Span)).flatMap spanE), own 2 1 v4 ((sortT xs).length) ((sortT xs).flatMap intE)] [SlAt 1 v xs.length (xs.flatMap intE)] _ := M
        have sl35 : IsSl v33 := SlAt.isSl (own_slAt (M.chunk 1 rfl).inv)
        refine WL.step (v := v33) rfl (Step.assign rfl) ?_
        refine WL.nil ?_
        refine W.region rfl ?_
        refine WL.step (v := (Value.int .i64 (↑i_ + 1))) rfl (Step.add rfl rfl (wrap_i64 (by omega))) ?_
        refine WL.step (v := (Value.int .i64 (↑i_ + 1))) rfl (Step.move rfl) ?_
        refine WL.nil ?_
        replace M := M.sel (L' := [own 65 2 v33 ((zs_ ++ ([(⟨x19, x19 + gap⟩ : Span)] : List Span)).length) ((zs_ ++ ([(⟨x19, x19 + gap⟩ : Span)] : List Span)).flatMap spanE), own 2 1 v4 ((sortT xs).length) ((sortT xs).flatMap intE)]) [1, 2] rfl (by decide)
        exact ⟨_, (by omega), i_ + 1, _, zs_ ++ ([(⟨x19, x19 + gap⟩ : Span)] : List Span), ⟨(by omega), (by rw [ofT_snoc hx19, ← hi13]; exact stepT_miss hx23 (by omega) h24p), (by simp only [List.length_set, List.length_append, List.length_cons, List.length_nil]; omega), rfl⟩, ⟨rfl, rfl, rfl, rfl, rfl, rfl, rfl, rfl, rfl⟩, M⟩
    ·
      have h20p := of_decide_eq_false h20
      rw [h20]
      refine WL.pass rfl ?_
      refine WL.pass rfl ?_
      refine WL.pass rfl ?_
      refine WL.pass rfl ?_
      refine WL.pass rfl ?_
      refine WL.pass rfl ?_
      refine WL.pass rfl ?_
      refine WL.pass rfl ?_
      refine WL.step (v := (Value.bool false)) rfl (Step.pick (t := false) rfl rfl) ?_
      refine WL.nil ?_
      refine W.cond (t := false) rfl (fun h => by cases h) (fun _ => ?_)
      refine W.skip ?_
      refine W.region rfl ?_
      refine WL.step (v := ov_) rfl (Step.move rfl) ?_
      refine WL.step (v := (Value.int .i64 x19)) rfl (Step.move rfl) ?_
      refine WL.step (v := (Value.int .i64 x19)) rfl (Step.move rfl) ?_
      refine WL.step (v := (Value.int .i64 gap)) rfl (Step.move rfl) ?_
      refine WL.step (v := (Value.int .i64 (x19 + gap))) rfl (Step.add rfl rfl (wrap_i64 (by omega))) ?_
      refine WL.step (v := (Value.agg #[(Value.int .i64 x19), (Value.int .i64 (x19 + gap))])) rfl (Step.pure (by kernel_rfl)) ?_
      refine WL.new (obj := .cells #[(Value.int .i64 x19), (Value.int .i64 (x19 + gap))] 65) (fun b => .slice (some ⟨b, 0, none⟩) 1 1) M rfl (fun w => Step.make (by kernel_rfl)) (fun b36 w37 hb36 M => ?_)
      refine WL.does rfl (M.appendF zs_ ([(⟨x19, x19 + gap⟩ : Span)] : List Span) (sv := (Value.slice (some ⟨b36, 0, none⟩) 1 1)) 1 Try.un58 Try.el65 rfl (by decide) rfl rfl rfl (SlAt.of_blk (M.blk 0 rfl) rfl (by decide)) spanE_cel (by have := (show zs_.length ≤ 1000000 by omega); simp only [maxLen, List.length_nil, List.length_cons, List.length_append]; omega) (by have := (show zs_.length ≤ 1000000 by omega); (try simp only [List.length_nil, List.length_cons, List.length_append]); omega)) ?_
      rintro v38 w39 M
      replace M : Mem _ _ _ [blk b36 (.cells #[(Value.int .i64 x19), (Value.int .i64 (x19 + gap))] 65), own 65 2 v38 ((zs_ ++ ([(⟨x19, x19 + gap⟩ : Span)] : List Span)).length) ((zs_ ++ ([(⟨x19, x19 + gap⟩ : Span)] : List Span)).flatMap spanE), own 2 1 v4 ((sortT xs).length) ((sortT xs).flatMap intE)] [SlAt 1 v xs.length (xs.flatMap intE)] _ := M
      have sl40 : IsSl v38 := SlAt.isSl (own_slAt (M.chunk 1 rfl).inv)
      refine WL.step (v := v38) rfl (Step.assign rfl) ?_
      refine WL.nil ?_
      refine W.region rfl ?_
      refine WL.step (v := (Value.int .i64 (↑i_ + 1))) rfl (Step.add rfl rfl (wrap_i64 (by omega))) ?_
      refine WL.step (v := (Value.int .i64 (↑i_ + 1))) rfl (Step.move rfl) ?_
      refine WL.nil ?_
      replace M := M.sel (L' := [own 65 2 v38 ((zs_ ++ ([(⟨x19, x19 + gap⟩ : Span)] : List Span)).length) ((zs_ ++ ([(⟨x19, x19 + gap⟩ : Span)] : List Span)).flatMap spanE), own 2 1 v4 ((sortT xs).length) ((sortT xs).flatMap intE)]) [1, 2] rfl (by decide)
      exact ⟨_, (by omega), i_ + 1, _, zs_ ++ ([(⟨x19, x19 + gap⟩ : Span)] : List Span), ⟨(by omega), (by rw [ofT_snoc hx19, ← hi13]; exact stepT_none (by omega)), (by simp only [List.length_set, List.length_append, List.length_cons, List.length_nil]; omega), rfl⟩, ⟨rfl, rfl, rfl, rfl, rfl, rfl, rfl, rfl, rfl⟩, M⟩
  ·
    have h16p := of_decide_eq_false h16
    refine W.exit ?_
    refine thn_exit ?_
    refine thn_exit ?_
    refine inBlk_hit ?_
    refine W.seq' ?_
    refine W.region rfl ?_
    refine WL.step (v := ov_) rfl (Step.move rfl) ?_
    refine WL.step (v := ov_) rfl (Step.assign rfl) ?_
    refine WL.step (v := (Value.int .i64 0)) rfl (Step.assign rfl) ?_
    refine WL.nil ?_
    refine W.ret ?_
    refine ⟨.inl rfl, (Value.tuple #[ov_, (Value.int .i64 0)]), ?_, ?_⟩
    · exact ⟨rfl, (Res.r2 (show RV _ _ _ (.tmp 4) ov_ from by exact rfl) (show RV _ _ _ (.tmp 5) (Value.int .i64 0) from by exact rfl))⟩
    have e41 : ofT gap (sortT xs) = zs_ := by
      rw [hi13, show i_ = (sortT xs).length by omega, List.take_length]
    replace M := M.rechunk 0 (c' := own 65 2 ov_ ((ofT gap (sortT xs)).length) ((ofT gap (sortT xs)).flatMap spanE)) rfl (congrArg (fun z => own 65 2 ov_ z.length (z.flatMap spanE)) e41.symm)
    replace M : Mem _ _ _ [own 65 2 ov_ ((ofT gap (sortT xs)).length) ((ofT gap (sortT xs)).flatMap spanE), own 2 1 v4 ((sortT xs).length) ((sortT xs).flatMap intE)] [SlAt 1 v xs.length (xs.flatMap intE)] _ := M
    refine ⟨ov_, ?_, M.close [0] rfl (by decide) trivial⟩
    rfl

theorem ses_ofno {G : Nat → Prop} {w : World} (gap : Int) (v : Value) (xs : List Int)  (hm : mayB gap xs = false) (M : Mem G (fun _ => False) w [] [SlAt 1 v xs.length (xs.flatMap intE)] w) : Rets Try.prog 35 #[(Value.int .i64 gap), v] w fun r w' => r = (Value.tuple #[(Value.slice none 0 0), (Value.int .i64 2)]) ∧ Mem G (fun _ => False) w [] [] w' := by
  refine Rets.enter 57 _ Try.func35 rfl Try.ntmps35 Try.results35 (by simp) ?_
  have hle1 := SlAt.le' (M.rep 0 rfl)
  have sl2 : IsSl v := SlAt.isSl (Mem.rep M 0 rfl)
  refine W.seq' ?_
  refine W.region rfl ?_
  refine WL.step (v := (Value.slice none 0 0)) rfl (Step.assign rfl) ?_
  refine WL.step (v := (Value.int .i64 0)) rfl (Step.assign rfl) ?_
  refine WL.nil ?_
  refine W.scope ?_
  refine W.seq' ?_
  refine W.seq' ?_
  refine W.region rfl ?_
  refine WL.step (v := (Value.int .i64 gap)) rfl (Step.move rfl) ?_
  refine WL.step (v := v) rfl (Step.move rfl) ?_
  refine WL.callX rfl (ses_may gap v xs (M.enterW0 ⟨(M.wideR0 0 rfl), trivial⟩)) (CallsF.func Try.en60 rfl) ?_
  rintro _ w3 ⟨rfl, m⟩
  replace M := M.leaveW0 m
  clear m
  replace M : Mem _ _ _ [] [SlAt 1 v xs.length (xs.flatMap intE)] _ := M
  rw [hm]
  refine WL.step (v := (Value.bool true)) rfl (Step.pure (by kernel_rfl)) ?_
  refine WL.nil ?_
  refine W.cond (t := true) rfl (fun _ => ?_) (fun h => by cases h)
  refine W.seq' ?_
  refine W.region rfl ?_
  refine WL.step (v := (Value.slice none 0 0)) rfl (Step.assign rfl) ?_
  refine WL.step (v := (Value.int .i64 2)) rfl (Step.assign rfl) ?_
  refine WL.nil ?_
  refine W.ret ?_
  refine ⟨.inl rfl, (Value.tuple #[(Value.slice none 0 0), (Value.int .i64 2)]), ?_, ?_⟩
  · exact ⟨rfl, (Res.r2 (show RV _ _ _ (.tmp 4) (Value.slice none 0 0) from by exact rfl) (show RV _ _ _ (.tmp 5) (Value.int .i64 2) from by exact rfl))⟩
  refine ⟨?_, M.close [] rfl (by decide) trivial⟩
  rfl
end Go.Proofs
