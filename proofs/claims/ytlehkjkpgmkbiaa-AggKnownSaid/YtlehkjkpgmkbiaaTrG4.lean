/- Walks. -/
import Derived.Test.YtlehkjkpgmkbiaaTrG3
import Derived.Test.YtlehkjkpgmkbiaaTrAggR
import Derived.Test.YtlehkjkpgmkbiaaTrSort
set_option maxRecDepth 100000
set_option linter.all false
namespace Go.Proofs
open Go Tp
theorem Try.un186 : Und Try.prog 186 (.slice 45) := by unfold Und; kernel_rfl
theorem Try.un195 : Und Try.prog 195 (.slice 3) := by unfold Und; kernel_rfl
theorem Try.ag113 : Aggr Try.prog 113 3 := ⟨fun _ => by kernel_rfl, fun _ => by kernel_rfl⟩
theorem Try.ag118 : Aggr Try.prog 118 3 := ⟨fun _ => by kernel_rfl, fun _ => by kernel_rfl⟩
theorem Try.el45 : Elem Try.prog 45 (Value.agg #[(Value.int .i64 0), (Value.int .i64 0), (Value.int .i64 0), (Value.int .i64 0)]) 4 32 := Elem.mk (by kernel_rfl)
theorem Try.en64 : Enters Try.prog 64 := fun _ _ => by kernel_rfl
theorem Try.en65 : Enters Try.prog 65 := fun _ _ => by kernel_rfl
theorem Try.en67 : Enters Try.prog 67 := fun _ _ => by kernel_rfl
theorem Try.en111 : Enters Try.prog 111 := fun _ _ => by kernel_rfl
theorem Try.en112 : Enters Try.prog 112 := fun _ _ => by kernel_rfl
theorem Try.en113 : Enters Try.prog 113 := fun _ _ => by kernel_rfl
theorem Try.en114 : Enters Try.prog 114 := fun _ _ => by kernel_rfl
theorem Try.en123 : Enters Try.prog 123 := fun _ _ => by kernel_rfl
theorem Try.en132 : Enters Try.prog 132 := fun _ _ => by kernel_rfl
theorem Try.en133 : Enters Try.prog 133 := fun _ _ => by kernel_rfl
theorem Try.en135 : Enters Try.prog 135 := fun _ _ => by kernel_rfl
theorem Try.sc9 : Scal Try.prog 9 := fun _ => by kernel_rfl
theorem Try.sc116 : Scal Try.prog 116 := fun _ => by kernel_rfl

theorem ref5_all {G : Nat → Prop} {w : World} (v : Value) (xs : List Int)  (hb : xs.length ≤ 1000000) (hin : ∀ x, x ∈ xs → in64 x) (M : Mem G (fun _ => False) w [] [SlAt 1 v xs.length (xs.flatMap intE)] w) : Rets Try.prog 119 #[v] w fun r w' => r = (Value.tuple #[(Value.agg #[(Value.int .i64 (((allV xs).1).count)), (Value.int .i64 (((allV xs).1).sum)), (Value.int .i64 (((allV xs).1).min)), (Value.int .i64 (((allV xs).1).max))]), (Value.int .i64 ((allV xs).2))]) ∧ Mem G (fun _ => False) w [] [] w' := by
  refine Rets.enter 61 _ Try.func119 rfl Try.ntmps119 Try.results119 (by simp) ?_
  have hle1 := SlAt.le' (M.rep 0 rfl)
  have sl2 : IsSl v := SlAt.isSl (Mem.rep M 0 rfl)
  refine W.seq' ?_
  refine W.region rfl ?_
  refine WL.alloc (c := #[(Value.int .i64 0), (Value.int .i64 0), (Value.int .i64 0), (Value.int .i64 0)]) M rfl Try.el45.zero rfl (fun b3 w4 hb3 M => ?_)
  refine WL.step (v := (Value.int .i64 0)) rfl (Step.assign rfl) ?_
  refine WL.nil ?_
  refine W.seq' ?_
  refine W.region rfl ?_
  refine WL.alloc (c := #[(Value.int .i64 0), (Value.int .i64 0), (Value.int .i64 0), (Value.int .i64 0)]) M rfl Try.el45.zero rfl (fun b5 w6 hb5 M => ?_)
  refine WL.nil ?_
  refine W.seq' ?_
  refine W.region rfl ?_
  refine WL.step (v := v) rfl (Step.move rfl) ?_
  refine WL.callX rfl (w_sum v xs (by first | omega | assumption | decide | (simp only [List.length_nil, List.length_cons, List.length_take, List.length_drop]; omega)) (by first | assumption | decide) (M.enterW0 ⟨(M.wideR0 0 rfl), trivial⟩)) (CallsF.func Try.en135 rfl) ?_
  rintro _ w7 ⟨rfl, m⟩
  replace M := M.leaveW0 m
  clear m
  replace M : Mem _ _ _ [blk b5 (.cells #[(Value.int .i64 0), (Value.int .i64 0), (Value.int .i64 0), (Value.int .i64 0)] 45), blk b3 (.cells #[(Value.int .i64 0), (Value.int .i64 0), (Value.int .i64 0), (Value.int .i64 0)] 45)] [SlAt 1 v xs.length (xs.flatMap intE)] _ := M
  refine WL.step (v := (Value.tuple #[(Value.int .i64 ((sumV xs).1)), (Value.int .i64 ((sumV xs).2))])) rfl (Step.move rfl) ?_
  refine WL.step (v := (Value.int .i64 ((sumV xs).1))) rfl (Step.pure (by kernel_rfl)) ?_
  refine WL.step (v := (Value.int .i64 ((sumV xs).2))) rfl (Step.pure (by kernel_rfl)) ?_
  refine WL.step (v := (Value.int .i64 ((sumV xs).1))) rfl (Step.assign rfl) ?_
  refine WL.step (v := (Value.int .i64 ((sumV xs).2))) rfl (Step.assign rfl) ?_
  refine WL.nil ?_
  refine W.seq' ?_
  refine W.seq' ?_
  refine W.region rfl ?_
  refine WL.step (v := (Value.int .i64 ((sumV xs).2))) rfl (Step.move rfl) ?_
  refine WL.step (v := (Value.bool (((sumV xs).2 : Int) != (0 : Int)))) rfl (Step.pure (by kernel_rfl)) ?_
  refine WL.nil ?_
  refine W.cond (t := ((sumV xs).2 : Int) != (0 : Int)) rfl (fun h8 => ?_) (fun h8 => ?_)
  ·
    have h8p : ¬ ((sumV xs).2 : Int) = (0 : Int) := by simpa using h8
    refine W.seq' ?_
    refine W.region rfl ?_
    refine WL.step (v := (Value.agg #[(Value.int .i64 0), (Value.int .i64 0), (Value.int .i64 0), (Value.int .i64 0)])) rfl (Step.pure (by kernel_rfl)) ?_
    refine WL.step (v := (Value.int .i64 ((sumV xs).2))) rfl (Step.move rfl) ?_
    refine WL.store (v := (Value.agg #[(Value.int .i64 0), (Value.int .i64 0), (Value.int .i64 0), (Value.int .i64 0)])) (cs := [(Value.int .i64 0), (Value.int .i64 0), (Value.int .i64 0), (Value.int .i64 0)]) (c' := #[(Value.int .i64 0), (Value.int .i64 0), (Value.int .i64 0), (Value.int .i64 0)]) M 1 rfl rfl Try.el45.sized rfl rfl rfl rfl (Nat.le_of_ble_eq_true rfl) (cel_cons rfl (cel_cons rfl (cel_cons rfl (cel_cons rfl cel_nil)))) rfl rfl (fun w9 M => ?_)
    refine WL.step (v := (Value.int .i64 ((sumV xs).2))) rfl (Step.assign rfl) ?_
    refine WL.nil ?_
    refine W.ret ?_
    refine ⟨.inl rfl, (Value.tuple #[(Value.agg #[(Value.int .i64 0), (Value.int .i64 0), (Value.int .i64 0), (Value.int .i64 0)]), (Value.int .i64 ((sumV xs).2))]), ?_, ?_⟩
    · exact ⟨rfl, (Res.r2 (RV.cellN Try.ag45 rfl (M.blk 1 rfl) rfl) (show RV _ _ _ (.tmp 3) (Value.int .i64 ((sumV xs).2)) from by exact rfl))⟩
    refine ⟨?_, M.close [] rfl (by decide) trivial⟩
    rw [(allV_bad h8p).1, (allV_bad h8p).2]; rfl
  ·
    have h8p : ((sumV xs).2 : Int) = (0 : Int) := by simpa using h8
    refine W.skip ?_
    refine W.seq' ?_
    refine W.seq' ?_
    refine W.region rfl ?_
    refine WL.step (v := (Value.int .i64 0)) rfl (Step.assign rfl) ?_
    refine WL.nil ?_
    refine W.block ?_
    replace M := M.rechunk 0 (c' := blk b5 (.cells #[(Value.int .i64 0), (Value.int .i64 0), (Value.int .i64 (minI (xs.take 0))), (Value.int .i64 (maxI (xs.take 0)))] 45)) rfl rfl
    replace M : Mem _ _ _ [blk b5 (.cells #[(Value.int .i64 0), (Value.int .i64 0), (Value.int .i64 (minI (xs.take 0))), (Value.int .i64 (maxI (xs.take 0)))] 45), blk b3 (.cells #[(Value.int .i64 0), (Value.int .i64 0), (Value.int .i64 0), (Value.int .i64 0)] 45)] [SlAt 1 v xs.length (xs.flatMap intE)] _ := M
    replace M := M.sel (L' := [blk b5 (.cells #[(Value.int .i64 0), (Value.int .i64 0), (Value.int .i64 (minI (xs.take 0))), (Value.int .i64 (maxI (xs.take 0)))] 45), blk b3 (.cells #[(Value.int .i64 0), (Value.int .i64 0), (Value.int .i64 0), (Value.int .i64 0)] 45)]) [0, 1] rfl (by decide)
    replace M : Mem _ _ _ [blk b5 (.cells #[(Value.int .i64 0), (Value.int .i64 0), (Value.int .i64 (minI (xs.take 0))), (Value.int .i64 (maxI (xs.take 0)))] 45), blk b3 (.cells #[(Value.int .i64 0), (Value.int .i64 0), (Value.int .i64 0), (Value.int .i64 0)] 45)] [SlAt 1 v xs.length (xs.flatMap intE)] _ := M
    refine W.loop (fun kk ρ w' => ∃ (i_ : Nat), ((i_ ≤ xs.length) ∧ kk = xs.length - i_) ∧ ρ.has [(0, v), (2, (Value.pointer (some ⟨b3, 0, none⟩))), (3, (Value.int .i64 0)), (4, (Value.pointer (some ⟨b5, 0, none⟩))), (5, (Value.int .i64 ((sumV xs).1))), (7, (Value.int .i64 ↑i_))] ∧ Mem G (fun _ => False) w [blk b5 (.cells #[(Value.int .i64 0), (Value.int .i64 0), (Value.int .i64 (minI (xs.take i_))), (Value.int .i64 (maxI (xs.take i_)))] 45), blk b3 (.cells #[(Value.int .i64 0), (Value.int .i64 0), (Value.int .i64 0), (Value.int .i64 0)] 45)] [SlAt 1 v xs.length (xs.flatMap intE)]  w') _ ⟨0, ⟨(Nat.zero_le _), rfl⟩, ⟨rfl, rfl, rfl, rfl, rfl, rfl, rfl, rfl⟩, M⟩ ?_
    rintro _ ρ11 w10 ⟨i_, ⟨hi12, rfl⟩, hρ, M⟩
    obtain ⟨ρ11, rfl⟩ := hρ.know
    clear hρ
    refine W.seq' ?_
    refine W.seq' ?_
    refine W.region rfl ?_
    refine WL.step (v := (Value.int .i64 ↑i_)) rfl (Step.move rfl) ?_
    refine WL.step (v := v) rfl (Step.move rfl) ?_
    refine WL.step (v := (Value.int .i64 ↑xs.length)) rfl (Step.lenSl Try.un121 rfl (M.rep 0 rfl)) ?_
    refine WL.step (v := (Value.bool (decide ((↑i_ : Int) < (↑xs.length : Int))))) rfl (Step.pure (by kernel_rfl)) ?_
    refine WL.nil ?_
    refine W.cond (t := decide ((↑i_ : Int) < (↑xs.length : Int))) rfl (fun h13 => ?_) (fun h13 => ?_)
    ·
      have h13p := of_decide_eq_true h13
      refine W.skip ?_
      refine W.seq' ?_
      refine W.block ?_
      refine W.seq' ?_
      refine W.seq' ?_
      rcases Bool.eq_false_or_eq_true ((↑i_ : Int) == (0 : Int)) with h14 | h14
      ·
        have h14p : (↑i_ : Int) = (0 : Int) := by simpa using h14
        refine W.drawn M [0, 1, 2, 3, 4, 5, 6, 7, 8, 9, 10] [] [] [blk b5 (.cells #[(Value.int .i64 0), (Value.int .i64 0), (Value.int .i64 (minI (xs.take i_))), (Value.int .i64 (maxI (xs.take i_)))] 45), blk b3 (.cells #[(Value.int .i64 0), (Value.int .i64 0), (Value.int .i64 0), (Value.int .i64 0)] 45)] [SlAt 1 v xs.length (xs.flatMap intE)] (List.Sublist.cons_cons _ (List.Sublist.cons_cons _ List.Sublist.slnil)) (fun _ h => h) Try.mixed (by kernel_rfl) ?_
        refine TW.pure (v := (Value.int .i64 ↑i_)) rfl (by decide) (by decide) rfl (fun w => (Step.move rfl)) ?_
        refine TW.pure (v := (Value.bool true)) rfl (by decide) (by decide) rfl (fun w => (Step.cast (congrArg Value.bool h14) (Step.pure (by kernel_rfl)))) ?_
        refine TW.pure (v := (Value.bool true)) rfl (by decide) (by decide) rfl (fun w => (Step.move rfl)) ?_
        refine TW.skip rfl rfl ?_
        refine TW.skip rfl rfl ?_
        refine TW.skip rfl rfl ?_
        refine TW.skip rfl rfl ?_
        refine TW.skip rfl rfl ?_
        refine TW.skip rfl rfl ?_
        refine TW.skip rfl rfl ?_
        refine TW.pure (v := (Value.bool true)) rfl (by decide) (by decide) rfl (fun w => (Step.pick (t := true) rfl rfl)) ?_
        refine TW.done (fun w15 M => ?_)
        refine W.cond (t := true) rfl (fun _ => ?_) (fun h => by cases h)
        refine W.region rfl ?_
        refine WL.step (v := v) rfl (Step.move rfl) ?_
        refine WL.step (v := (Value.int .i64 ↑i_)) rfl (Step.move rfl) ?_
        obtain ⟨cap17, hb16⟩ := SlAt.base (M.rep 0 rfl) (by omega)
        obtain ⟨x18, hx18⟩ := elem_of_lt (xs := xs) (i := i_) (by omega)
        refine WL.step (v := (Value.pointer (some ⟨(sBlk v), sOff v + i_ * 1, none⟩))) rfl (Step.indexAddr (i := i_) (Try.un121).run Try.el2.sized rfl rfl (by omega) hb16 (by omega)) ?_
        refine WL.step (v := (Value.int .i64 x18)) rfl (Step.loadE (k := 0) Try.sc2 (flat_ec (M.rep 0 rfl) hx18 intE_len) (by decide) rfl rfl) ?_
        refine WL.step (v := (Value.pointer (some ⟨b5, 2, none⟩))) rfl (Step.pure (by kernel_rfl)) ?_
        refine WL.store (v := (Value.int .i64 x18)) (cs := [(Value.int .i64 x18)]) (c' := #[(Value.int .i64 0), (Value.int .i64 0), (Value.int .i64 x18), (Value.int .i64 (maxI (xs.take i_)))]) M 0 rfl rfl Try.el2.sized rfl rfl rfl rfl (Nat.le_of_ble_eq_true rfl) (cel_cons rfl cel_nil) rfl rfl (fun w19 M => ?_)
        refine WL.nil ?_
        refine W.seq' ?_
        refine W.drawn M [0, 1, 2, 3, 4, 5, 6, 7, 8, 9, 10] [] [] [blk b5 (.cells #[(Value.int .i64 0), (Value.int .i64 0), (Value.int .i64 x18), (Value.int .i64 (maxI (xs.take i_)))] 45), blk b3 (.cells #[(Value.int .i64 0), (Value.int .i64 0), (Value.int .i64 0), (Value.int .i64 0)] 45)] [SlAt 1 v xs.length (xs.flatMap intE)] (List.Sublist.cons_cons _ (List.Sublist.cons_cons _ List.Sublist.slnil)) (fun _ h => h) Try.mixed (by kernel_rfl) ?_
        refine TW.pure (v := (Value.int .i64 ↑i_)) rfl (by decide) (by decide) rfl (fun w => (Step.move rfl)) ?_
        refine TW.pure (v := (Value.bool true)) rfl (by decide) (by decide) rfl (fun w => (Step.cast (congrArg Value.bool h14) (Step.pure (by kernel_rfl)))) ?_
        refine TW.pure (v := (Value.bool true)) rfl (by decide) (by decide) rfl (fun w => (Step.move rfl)) ?_
        refine TW.skip rfl rfl ?_
        refine TW.skip rfl rfl ?_
        refine TW.skip rfl rfl ?_
        refine TW.skip rfl rfl ?_
        refine TW.skip rfl rfl ?_
        refine TW.skip rfl rfl ?_
        refine TW.skip rfl rfl ?_
        refine TW.pure (v := (Value.bool true)) rfl (by decide) (by decide) rfl (fun w => (Step.pick (t := true) rfl rfl)) ?_
        refine TW.done (fun w20 M => ?_)
        refine W.cond (t := true) rfl (fun _ => ?_) (fun h => by cases h)
        refine W.region rfl ?_
        refine WL.step (v := v) rfl (Step.move rfl) ?_
        refine WL.step (v := (Value.int .i64 ↑i_)) rfl (Step.move rfl) ?_
        refine WL.step (v := (Value.pointer (some ⟨(sBlk v), sOff v + i_ * 1, none⟩))) rfl (Step.indexAddr (i := i_) (Try.un121).run Try.el2.sized rfl rfl (by omega) hb16 (by omega)) ?_
        refine WL.step (v := (Value.int .i64 x18)) rfl (Step.loadE (k := 0) Try.sc2 (flat_ec (M.rep 0 rfl) hx18 intE_len) (by decide) rfl rfl) ?_
        refine WL.step (v := (Value.pointer (some ⟨b5, 3, none⟩))) rfl (Step.pure (by kernel_rfl)) ?_
        refine WL.store (v := (Value.int .i64 x18)) (cs := [(Value.int .i64 x18)]) (c' := #[(Value.int .i64 0), (Value.int .i64 0), (Value.int .i64 x18), (Value.int .i64 x18)]) M 0 rfl rfl Try.el2.sized rfl rfl rfl rfl (Nat.le_of_ble_eq_true rfl) (cel_cons rfl cel_nil) rfl rfl (fun w21 M => ?_)
        refine WL.nil ?_
        refine W.region rfl ?_
        refine WL.step (v := (Value.int .i64 ↑i_)) rfl (Step.move rfl) ?_
        refine WL.step (v := (Value.int .i64 (↑i_ + 1))) rfl (Step.add rfl rfl (wrap_i64 (by omega))) ?_
        refine WL.step (v := (Value.int .i64 (↑i_ + 1))) rfl (Step.assign rfl) ?_
        refine WL.nil ?_
        have hmin_ : minI (xs.take (i_ + 1)) = (x18 : Int) := by rw [minI_step hx18]; (repeat split) <;> omega
        have hmax_ : maxI (xs.take (i_ + 1)) = (x18 : Int) := by rw [maxI_step hx18]; (repeat split) <;> omega
        replace M := M.rechunk 0 (c' := blk b5 (.cells #[(Value.int .i64 0), (Value.int .i64 0), (Value.int .i64 (minI (xs.take (i_ + 1)))), (Value.int .i64 (maxI (xs.take (i_ + 1))))] 45)) rfl (by rw [hmin_, hmax_])
        replace M : Mem _ _ _ [blk b5 (.cells #[(Value.int .i64 0), (Value.int .i64 0), (Value.int .i64 (minI (xs.take (i_ + 1)))), (Value.int .i64 (maxI (xs.take (i_ + 1))))] 45), blk b3 (.cells #[(Value.int .i64 0), (Value.int .i64 0), (Value.int .i64 0), (Value.int .i64 0)] 45)] [SlAt 1 v xs.length (xs.flatMap intE)] _ := M
        exact ⟨_, (by omega), i_ + 1, ⟨(by omega), rfl⟩, ⟨rfl, rfl, rfl, rfl, rfl, rfl, rfl, rfl⟩, M⟩
      ·
        have h14p : ¬ (↑i_ : Int) = (0 : Int) := by simpa using h14
        obtain ⟨cap23, hb22⟩ := SlAt.base (M.rep 0 rfl) (by omega)
        obtain ⟨x24, hx24⟩ := elem_of_lt (xs := xs) (i := i_) (by omega)
        refine W.drawn M [0, 1, 2, 3, 4, 5, 6, 7, 8, 9, 10] [] [] [blk b5 (.cells #[(Value.int .i64 0), (Value.int .i64 0), (Value.int .i64 (minI (xs.take i_))), (Value.int .i64 (maxI (xs.take i_)))] 45), blk b3 (.cells #[(Value.int .i64 0), (Value.int .i64 0), (Value.int .i64 0), (Value.int .i64 0)] 45)] [SlAt 1 v xs.length (xs.flatMap intE)] (List.Sublist.cons_cons _ (List.Sublist.cons_cons _ List.Sublist.slnil)) (fun _ h => h) Try.mixed (by kernel_rfl) ?_
        refine TW.pure (v := (Value.int .i64 ↑i_)) rfl (by decide) (by decide) rfl (fun w => (Step.move rfl)) ?_
        refine TW.pure (v := (Value.bool false)) rfl (by decide) (by decide) rfl (fun w => (Step.cast (congrArg Value.bool h14) (Step.pure (by kernel_rfl)))) ?_
        refine TW.pure (v := (Value.bool false)) rfl (by decide) (by decide) rfl (fun w => (Step.move rfl)) ?_
        refine TW.pure (v := v) rfl (by decide) (by decide) rfl (fun w => (Step.move rfl)) ?_
        refine TW.pure (v := (Value.int .i64 ↑i_)) rfl (by decide) (by decide) rfl (fun w => (Step.move rfl)) ?_
        refine TW.pure (v := (Value.pointer (some ⟨(sBlk v), sOff v + i_ * 1, none⟩))) rfl (by decide) (by decide) rfl (fun w => (Step.indexAddr (i := i_) (Try.un121).run Try.el2.sized rfl rfl (by omega) hb22 (by omega))) ?_
        refine TW.read (v := (Value.int .i64 x24)) rfl (by decide) (by decide) rfl (fun A w M => (Step.loadE (k := 0) Try.sc2 (flat_ec (M.rep 0 rfl) hx24 intE_len) (by decide) rfl rfl)) ?_
        refine TW.pure (v := (Value.pointer (some ⟨b5, 2, none⟩))) rfl (by decide) (by decide) rfl (fun w => (Step.pure (by kernel_rfl))) ?_
        refine TW.read (v := (Value.int .i64 (minI (xs.take i_)))) rfl (by decide) (by decide) rfl (fun A w M => (Step.load1 Try.sc2 rfl ((M.cell 1 rfl 2).trans rfl))) ?_
        refine TW.pure (v := (Value.bool (decide ((x24 : Int) < (minI (xs.take i_) : Int))))) rfl (by decide) (by decide) rfl (fun w => (Step.pure (by kernel_rfl))) ?_
        refine TW.pure (v := (Value.bool (decide ((x24 : Int) < (minI (xs.take i_) : Int))))) rfl (by decide) (by decide) rfl (fun w => (Step.pick (t := false) rfl rfl)) ?_
        refine TW.done (fun w25 M => ?_)
        refine W.cond (t := decide ((x24 : Int) < (minI (xs.take i_) : Int))) rfl (fun h26 => ?_) (fun h26 => ?_)
        ·
          have h26p := of_decide_eq_true h26
          refine W.region rfl ?_
          refine WL.step (v := v) rfl (Step.move rfl) ?_
          refine WL.step (v := (Value.int .i64 ↑i_)) rfl (Step.move rfl) ?_
          refine WL.step (v := (Value.pointer (some ⟨(sBlk v), sOff v + i_ * 1, none⟩))) rfl (Step.indexAddr (i := i_) (Try.un121).run Try.el2.sized rfl rfl (by omega) hb22 (by omega)) ?_
          refine WL.step (v := (Value.int .i64 x24)) rfl (Step.loadE (k := 0) Try.sc2 (flat_ec (M.rep 0 rfl) hx24 intE_len) (by decide) rfl rfl) ?_
          refine WL.step (v := (Value.pointer (some ⟨b5, 2, none⟩))) rfl (Step.pure (by kernel_rfl)) ?_
          refine WL.store (v := (Value.int .i64 x24)) (cs := [(Value.int .i64 x24)]) (c' := #[(Value.int .i64 0), (Value.int .i64 0), (Value.int .i64 x24), (Value.int .i64 (maxI (xs.take i_)))]) M 0 rfl rfl Try.el2.sized rfl rfl rfl rfl (Nat.le_of_ble_eq_true rfl) (cel_cons rfl cel_nil) rfl rfl (fun w27 M => ?_)
          refine WL.nil ?_
          refine W.seq' ?_
          refine W.drawn M [0, 1, 2, 3, 4, 5, 6, 7, 8, 9, 10] [] [] [blk b5 (.cells #[(Value.int .i64 0), (Value.int .i64 0), (Value.int .i64 x24), (Value.int .i64 (maxI (xs.take i_)))] 45), blk b3 (.cells #[(Value.int .i64 0), (Value.int .i64 0), (Value.int .i64 0), (Value.int .i64 0)] 45)] [SlAt 1 v xs.length (xs.flatMap intE)] (List.Sublist.cons_cons _ (List.Sublist.cons_cons _ List.Sublist.slnil)) (fun _ h => h) Try.mixed (by kernel_rfl) ?_
          refine TW.pure (v := (Value.int .i64 ↑i_)) rfl (by decide) (by decide) rfl (fun w => (Step.move rfl)) ?_
          refine TW.pure (v := (Value.bool false)) rfl (by decide) (by decide) rfl (fun w => (Step.cast (congrArg Value.bool h14) (Step.pure (by kernel_rfl)))) ?_
          refine TW.pure (v := (Value.bool false)) rfl (by decide) (by decide) rfl (fun w => (Step.move rfl)) ?_
          refine TW.pure (v := v) rfl (by decide) (by decide) rfl (fun w => (Step.move rfl)) ?_
          refine TW.pure (v := (Value.int .i64 ↑i_)) rfl (by decide) (by decide) rfl (fun w => (Step.move rfl)) ?_
          refine TW.pure (v := (Value.pointer (some ⟨(sBlk v), sOff v + i_ * 1, none⟩))) rfl (by decide) (by decide) rfl (fun w => (Step.indexAddr (i := i_) (Try.un121).run Try.el2.sized rfl rfl (by omega) hb22 (by omega))) ?_
          refine TW.read (v := (Value.int .i64 x24)) rfl (by decide) (by decide) rfl (fun A w M => (Step.loadE (k := 0) Try.sc2 (flat_ec (M.rep 0 rfl) hx24 intE_len) (by decide) rfl rfl)) ?_
          refine TW.pure (v := (Value.pointer (some ⟨b5, 3, none⟩))) rfl (by decide) (by decide) rfl (fun w => (Step.pure (by kernel_rfl))) ?_
          refine TW.read (v := (Value.int .i64 (maxI (xs.take i_)))) rfl (by decide) (by decide) rfl (fun A w M => (Step.load1 Try.sc2 rfl ((M.cell 1 rfl 3).trans rfl))) ?_
          refine TW.pure (v := (Value.bool (decide ((x24 : Int) > (maxI (xs.take i_) : Int))))) rfl (by decide) (by decide) rfl (fun w => (Step.pure (by kernel_rfl))) ?_
          refine TW.pure (v := (Value.bool (decide ((x24 : Int) > (maxI (xs.take i_) : Int))))) rfl (by decide) (by decide) rfl (fun w => (Step.pick (t := false) rfl rfl)) ?_
          refine TW.done (fun w28 M => ?_)
          refine W.cond (t := decide ((x24 : Int) > (maxI (xs.take i_) : Int))) rfl (fun h29 => ?_) (fun h29 => ?_)
          ·
            have h29p := of_decide_eq_true h29
            refine W.region rfl ?_
            refine WL.step (v := v) rfl (Step.move rfl) ?_
            refine WL.step (v := (Value.int .i64 ↑i_)) rfl (Step.move rfl) ?_
            refine WL.step (v := (Value.pointer (some ⟨(sBlk v), sOff v + i_ * 1, none⟩))) rfl (Step.indexAddr (i := i_) (Try.un121).run Try.el2.sized rfl rfl (by omega) hb22 (by omega)) ?_
            refine WL.step (v := (Value.int .i64 x24)) rfl (Step.loadE (k := 0) Try.sc2 (flat_ec (M.rep 0 rfl) hx24 intE_len) (by decide) rfl rfl) ?_
            refine WL.step (v := (Value.pointer (some ⟨b5, 3, none⟩))) rfl (Step.pure (by kernel_rfl)) ?_
            refine WL.store (v := (Value.int .i64 x24)) (cs := [(Value.int .i64 x24)]) (c' := #[(Value.int .i64 0), (Value.int .i64 0), (Value.int .i64 x24), (Value.int .i64 x24)]) M 0 rfl rfl Try.el2.sized rfl rfl rfl rfl (Nat.le_of_ble_eq_true rfl) (cel_cons rfl cel_nil) rfl rfl (fun w30 M => ?_)
            refine WL.nil ?_
            refine W.region rfl ?_
            refine WL.step (v := (Value.int .i64 ↑i_)) rfl (Step.move rfl) ?_
            refine WL.step (v := (Value.int .i64 (↑i_ + 1))) rfl (Step.add rfl rfl (wrap_i64 (by omega))) ?_
            refine WL.step (v := (Value.int .i64 (↑i_ + 1))) rfl (Step.assign rfl) ?_
            refine WL.nil ?_
            have hmin_ : minI (xs.take (i_ + 1)) = (x24 : Int) := by rw [minI_step hx24]; (repeat split) <;> omega
            have hmax_ : maxI (xs.take (i_ + 1)) = (x24 : Int) := by rw [maxI_step hx24]; (repeat split) <;> omega
            replace M := M.rechunk 0 (c' := blk b5 (.cells #[(Value.int .i64 0), (Value.int .i64 0), (Value.int .i64 (minI (xs.take (i_ + 1)))), (Value.int .i64 (maxI (xs.take (i_ + 1))))] 45)) rfl (by rw [hmin_, hmax_])
            replace M : Mem _ _ _ [blk b5 (.cells #[(Value.int .i64 0), (Value.int .i64 0), (Value.int .i64 (minI (xs.take (i_ + 1)))), (Value.int .i64 (maxI (xs.take (i_ + 1))))] 45), blk b3 (.cells #[(Value.int .i64 0), (Value.int .i64 0), (Value.int .i64 0), (Value.int .i64 0)] 45)] [SlAt 1 v xs.length (xs.flatMap intE)] _ := M
            exact ⟨_, (by omega), i_ + 1, ⟨(by omega), rfl⟩, ⟨rfl, rfl, rfl, rfl, rfl, rfl, rfl, rfl⟩, M⟩
          ·
            have h29p := of_decide_eq_false h29
            refine W.skip ?_
            refine W.region rfl ?_
            refine WL.step (v := (Value.int .i64 ↑i_)) rfl (Step.move rfl) ?_
            refine WL.step (v := (Value.int .i64 (↑i_ + 1))) rfl (Step.add rfl rfl (wrap_i64 (by omega))) ?_
            refine WL.step (v := (Value.int .i64 (↑i_ + 1))) rfl (Step.assign rfl) ?_
            refine WL.nil ?_
            have hmin_ : minI (xs.take (i_ + 1)) = (x24 : Int) := by rw [minI_step hx24]; (repeat split) <;> omega
            have hmax_ : maxI (xs.take (i_ + 1)) = (maxI (xs.take i_) : Int) := by rw [maxI_step hx24]; (repeat split) <;> omega
            replace M := M.rechunk 0 (c' := blk b5 (.cells #[(Value.int .i64 0), (Value.int .i64 0), (Value.int .i64 (minI (xs.take (i_ + 1)))), (Value.int .i64 (maxI (xs.take (i_ + 1))))] 45)) rfl (by rw [hmin_, hmax_])
            replace M : Mem _ _ _ [blk b5 (.cells #[(Value.int .i64 0), (Value.int .i64 0), (Value.int .i64 (minI (xs.take (i_ + 1)))), (Value.int .i64 (maxI (xs.take (i_ + 1))))] 45), blk b3 (.cells #[(Value.int .i64 0), (Value.int .i64 0), (Value.int .i64 0), (Value.int .i64 0)] 45)] [SlAt 1 v xs.length (xs.flatMap intE)] _ := M
            exact ⟨_, (by omega), i_ + 1, ⟨(by omega), rfl⟩, ⟨rfl, rfl, rfl, rfl, rfl, rfl, rfl, rfl⟩, M⟩
        ·
          have h26p := of_decide_eq_false h26
          refine W.skip ?_
          refine W.seq' ?_
          refine W.drawn M [0, 1, 2, 3, 4, 5, 6, 7, 8, 9, 10] [] [] [blk b5 (.cells #[(Value.int .i64 0), (Value.int .i64 0), (Value.int .i64 (minI (xs.take i_))), (Value.int .i64 (maxI (xs.take i_)))] 45), blk b3 (.cells #[(Value.int .i64 0), (Value.int .i64 0), (Value.int .i64 0), (Value.int .i64 0)] 45)] [SlAt 1 v xs.length (xs.flatMap intE)] (List.Sublist.cons_cons _ (List.Sublist.cons_cons _ List.Sublist.slnil)) (fun _ h => h) Try.mixed (by kernel_rfl) ?_
          refine TW.pure (v := (Value.int .i64 ↑i_)) rfl (by decide) (by decide) rfl (fun w => (Step.move rfl)) ?_
          refine TW.pure (v := (Value.bool false)) rfl (by decide) (by decide) rfl (fun w => (Step.cast (congrArg Value.bool h14) (Step.pure (by kernel_rfl)))) ?_
          refine TW.pure (v := (Value.bool false)) rfl (by decide) (by decide) rfl (fun w => (Step.move rfl)) ?_
          refine TW.pure (v := v) rfl (by decide) (by decide) rfl (fun w => (Step.move rfl)) ?_
          refine TW.pure (v := (Value.int .i64 ↑i_)) rfl (by decide) (by decide) rfl (fun w => (Step.move rfl)) ?_
          refine TW.pure (v := (Value.pointer (some ⟨(sBlk v), sOff v + i_ * 1, none⟩))) rfl (by decide) (by decide) rfl (fun w => (Step.indexAddr (i := i_) (Try.un121).run Try.el2.sized rfl rfl (by omega) hb22 (by omega))) ?_
          refine TW.read (v := (Value.int .i64 x24)) rfl (by decide) (by decide) rfl (fun A w M => (Step.loadE (k := 0) Try.sc2 (flat_ec (M.rep 0 rfl) hx24 intE_len) (by decide) rfl rfl)) ?_
          refine TW.pure (v := (Value.pointer (some ⟨b5, 3, none⟩))) rfl (by decide) (by decide) rfl (fun w => (Step.pure (by kernel_rfl))) ?_
          refine TW.read (v := (Value.int .i64 (maxI (xs.take i_)))) rfl (by decide) (by decide) rfl (fun A w M => (Step.load1 Try.sc2 rfl ((M.cell 1 rfl 3).trans rfl))) ?_
          refine TW.pure (v := (Value.bool (decide ((x24 : Int) > (maxI (xs.take i_) : Int))))) rfl (by decide) (by decide) rfl (fun w => (Step.pure (by kernel_rfl))) ?_
          refine TW.pure (v := (Value.bool (decide ((x24 : Int) > (maxI (xs.take i_) : Int))))) rfl (by decide) (by decide) rfl (fun w => (Step.pick (t := false) rfl rfl)) ?_
          refine TW.done (fun w31 M => ?_)
          refine W.cond (t := decide ((x24 : Int) > (maxI (xs.take i_) : Int))) rfl (fun h32 => ?_) (fun h32 => ?_)
          ·
            have h32p := of_decide_eq_true h32
            refine W.region rfl ?_
            refine WL.step (v := v) rfl (Step.move rfl) ?_
            refine WL.step (v := (Value.int .i64 ↑i_)) rfl (Step.move rfl) ?_
            refine WL.step (v := (Value.pointer (some ⟨(sBlk v), sOff v + i_ * 1, none⟩))) rfl (Step.indexAddr (i := i_) (Try.un121).run Try.el2.sized rfl rfl (by omega) hb22 (by omega)) ?_
            refine WL.step (v := (Value.int .i64 x24)) rfl (Step.loadE (k := 0) Try.sc2 (flat_ec (M.rep 0 rfl) hx24 intE_len) (by decide) rfl rfl) ?_
            refine WL.step (v := (Value.pointer (some ⟨b5, 3, none⟩))) rfl (Step.pure (by kernel_rfl)) ?_
            refine WL.store (v := (Value.int .i64 x24)) (cs := [(Value.int .i64 x24)]) (c' := #[(Value.int .i64 0), (Value.int .i64 0), (Value.int .i64 (minI (xs.take i_))), (Value.int .i64 x24)]) M 0 rfl rfl Try.el2.sized rfl rfl rfl rfl (Nat.le_of_ble_eq_true rfl) (cel_cons rfl cel_nil) rfl rfl (fun w33 M => ?_)
            refine WL.nil ?_
            refine W.region rfl ?_
            refine WL.step (v := (Value.int .i64 ↑i_)) rfl (Step.move rfl) ?_
            refine WL.step (v := (Value.int .i64 (↑i_ + 1))) rfl (Step.add rfl rfl (wrap_i64 (by omega))) ?_
            refine WL.step (v := (Value.int .i64 (↑i_ + 1))) rfl (Step.assign rfl) ?_
            refine WL.nil ?_
            have hmin_ : minI (xs.take (i_ + 1)) = (minI (xs.take i_) : Int) := by rw [minI_step hx24]; (repeat split) <;> omega
            have hmax_ : maxI (xs.take (i_ + 1)) = (x24 : Int) := by rw [maxI_step hx24]; (repeat split) <;> omega
            replace M := M.rechunk 0 (c' := blk b5 (.cells #[(Value.int .i64 0), (Value.int .i64 0), (Value.int .i64 (minI (xs.take (i_ + 1)))), (Value.int .i64 (maxI (xs.take (i_ + 1))))] 45)) rfl (by rw [hmin_, hmax_])
            replace M : Mem _ _ _ [blk b5 (.cells #[(Value.int .i64 0), (Value.int .i64 0), (Value.int .i64 (minI (xs.take (i_ + 1)))), (Value.int .i64 (maxI (xs.take (i_ + 1))))] 45), blk b3 (.cells #[(Value.int .i64 0), (Value.int .i64 0), (Value.int .i64 0), (Value.int .i64 0)] 45)] [SlAt 1 v xs.length (xs.flatMap intE)] _ := M
            exact ⟨_, (by omega), i_ + 1, ⟨(by omega), rfl⟩, ⟨rfl, rfl, rfl, rfl, rfl, rfl, rfl, rfl⟩, M⟩
          ·
            have h32p := of_decide_eq_false h32
            refine W.skip ?_
            refine W.region rfl ?_
            refine WL.step (v := (Value.int .i64 ↑i_)) rfl (Step.move rfl) ?_
            refine WL.step (v := (Value.int .i64 (↑i_ + 1))) rfl (Step.add rfl rfl (wrap_i64 (by omega))) ?_
            refine WL.step (v := (Value.int .i64 (↑i_ + 1))) rfl (Step.assign rfl) ?_
            refine WL.nil ?_
            have hmin_ : minI (xs.take (i_ + 1)) = (minI (xs.take i_) : Int) := by rw [minI_step hx24]; (repeat split) <;> omega
            have hmax_ : maxI (xs.take (i_ + 1)) = (maxI (xs.take i_) : Int) := by rw [maxI_step hx24]; (repeat split) <;> omega
            replace M := M.rechunk 0 (c' := blk b5 (.cells #[(Value.int .i64 0), (Value.int .i64 0), (Value.int .i64 (minI (xs.take (i_ + 1)))), (Value.int .i64 (maxI (xs.take (i_ + 1))))] 45)) rfl (by rw [hmin_, hmax_])
            replace M : Mem _ _ _ [blk b5 (.cells #[(Value.int .i64 0), (Value.int .i64 0), (Value.int .i64 (minI (xs.take (i_ + 1)))), (Value.int .i64 (maxI (xs.take (i_ + 1))))] 45), blk b3 (.cells #[(Value.int .i64 0), (Value.int .i64 0), (Value.int .i64 0), (Value.int .i64 0)] 45)] [SlAt 1 v xs.length (xs.flatMap intE)] _ := M
            exact ⟨_, (by omega), i_ + 1, ⟨(by omega), rfl⟩, ⟨rfl, rfl, rfl, rfl, rfl, rfl, rfl, rfl⟩, M⟩
    ·
      have h13p := of_decide_eq_false h13
      refine W.exit ?_
      refine thn_exit ?_
      refine thn_exit ?_
      refine inBlk_hit ?_
      refine W.seq' ?_
      refine W.region rfl ?_
      refine WL.step (v := v) rfl (Step.move rfl) ?_
      refine WL.step (v := (Value.int .i64 ↑xs.length)) rfl (Step.lenSl Try.un121 rfl (M.rep 0 rfl)) ?_
      refine WL.step (v := (Value.pointer (some ⟨b5, 0, none⟩))) rfl (Step.pure (by kernel_rfl)) ?_
      refine WL.store (v := (Value.int .i64 ↑xs.length)) (cs := [(Value.int .i64 ↑xs.length)]) (c' := #[(Value.int .i64 ↑xs.length), (Value.int .i64 0), (Value.int .i64 (minI (xs.take i_))), (Value.int .i64 (maxI (xs.take i_)))]) M 0 rfl rfl Try.el2.sized rfl rfl rfl rfl (Nat.le_of_ble_eq_true rfl) (cel_cons rfl cel_nil) rfl rfl (fun w34 M => ?_)
      refine WL.nil ?_
      refine W.seq' ?_
      refine W.region rfl ?_
      refine WL.step (v := (Value.int .i64 ((sumV xs).1))) rfl (Step.move rfl) ?_
      refine WL.step (v := (Value.pointer (some ⟨b5, 1, none⟩))) rfl (Step.pure (by kernel_rfl)) ?_
      refine WL.store (v := (Value.int .i64 ((sumV xs).1))) (cs := [(Value.int .i64 ((sumV xs).1))]) (c' := #[(Value.int .i64 ↑xs.length), (Value.int .i64 ((sumV xs).1)), (Value.int .i64 (minI (xs.take i_))), (Value.int .i64 (maxI (xs.take i_)))]) M 0 rfl rfl Try.el2.sized rfl rfl rfl rfl (Nat.le_of_ble_eq_true rfl) (cel_cons rfl cel_nil) rfl rfl (fun w35 M => ?_)
      refine WL.nil ?_
      refine W.seq' ?_
      refine W.region rfl ?_
      refine WL.step (v := (Value.agg #[(Value.int .i64 ↑xs.length), (Value.int .i64 ((sumV xs).1)), (Value.int .i64 (minI (xs.take i_))), (Value.int .i64 (maxI (xs.take i_)))])) rfl (Step.loadN Try.ag45 rfl (M.blk 0 rfl) (Nat.le_of_ble_eq_true rfl) rfl) ?_
      refine WL.store (v := (Value.agg #[(Value.int .i64 ↑xs.length), (Value.int .i64 ((sumV xs).1)), (Value.int .i64 (minI (xs.take i_))), (Value.int .i64 (maxI (xs.take i_)))])) (cs := [(Value.int .i64 ↑xs.length), (Value.int .i64 ((sumV xs).1)), (Value.int .i64 (minI (xs.take i_))), (Value.int .i64 (maxI (xs.take i_)))]) (c' := #[(Value.int .i64 ↑xs.length), (Value.int .i64 ((sumV xs).1)), (Value.int .i64 (minI (xs.take i_))), (Value.int .i64 (maxI (xs.take i_)))]) M 1 rfl rfl Try.el45.sized rfl rfl rfl rfl (Nat.le_of_ble_eq_true rfl) (cel_cons rfl (cel_cons rfl (cel_cons rfl (cel_cons rfl cel_nil)))) rfl rfl (fun w36 M => ?_)
      refine WL.step (v := (Value.int .i64 0)) rfl (Step.assign rfl) ?_
      refine WL.nil ?_
      refine W.ret ?_
      refine ⟨.inl rfl, (Value.tuple #[(Value.agg #[(Value.int .i64 ↑xs.length), (Value.int .i64 ((sumV xs).1)), (Value.int .i64 (minI (xs.take i_))), (Value.int .i64 (maxI (xs.take i_)))]), (Value.int .i64 0)]), ?_, ?_⟩
      · exact ⟨rfl, (Res.r2 (RV.cellN Try.ag45 rfl (M.blk 1 rfl) rfl) (show RV _ _ _ (.tmp 3) (Value.int .i64 0) from by exact rfl))⟩
      refine ⟨?_, M.close [] rfl (by decide) trivial⟩
      have hkk : i_ = xs.length := by omega
      subst hkk
      have hok := allV_ok (xs := xs) (by omega)
      rw [hok, List.take_length]

theorem ref5_join {G : Nat → Prop} {w : World} (v : Value) (l : List Agg5)  (hb : l.length ≤ 1000000) (hin : inJ l) (M : Mem G (fun _ => False) w [] [SlAt 4 v l.length (l.flatMap aggE)] w) : Rets Try.prog 123 #[v] w fun r w' => r = (Value.tuple #[(Value.agg #[(Value.int .i64 (((joinL l).1).count)), (Value.int .i64 (((joinL l).1).sum)), (Value.int .i64 (((joinL l).1).min)), (Value.int .i64 (((joinL l).1).max))]), (Value.int .i64 ((joinL l).2))]) ∧ Mem G (fun _ => False) w [] [] w' := by
  refine Rets.enter 100 _ Try.func123 rfl Try.ntmps123 Try.results123 (by simp) ?_
  have hle1 := SlAt.le' (M.rep 0 rfl)
  have sl2 : IsSl v := SlAt.isSl (Mem.rep M 0 rfl)
  refine W.seq' ?_
  refine W.region rfl ?_
  refine WL.alloc (c := #[(Value.int .i64 0), (Value.int .i64 0), (Value.int .i64 0), (Value.int .i64 0)]) M rfl Try.el45.zero rfl (fun b3 w4 hb3 M => ?_)
  refine WL.step (v := (Value.int .i64 0)) rfl (Step.assign rfl) ?_
  refine WL.nil ?_
  refine W.seq' ?_
  refine W.region rfl ?_
  refine WL.step (v := (Value.slice none 0 0)) rfl (Step.assign rfl) ?_
  refine WL.step (v := (Value.slice none 0 0)) rfl (Step.assign rfl) ?_
  refine WL.nil ?_
  refine W.seq' ?_
  refine W.region rfl ?_
  refine WL.alloc (c := #[(Value.int .i64 0), (Value.int .i64 0), (Value.int .i64 0), (Value.int .i64 0)]) M rfl Try.el45.zero rfl (fun b5 w6 hb5 M => ?_)
  refine WL.nil ?_
  refine W.seq' ?_
  refine W.seq' ?_
  refine W.region rfl ?_
  refine WL.step (v := (Value.int .i64 0)) rfl (Step.assign rfl) ?_
  refine WL.nil ?_
  refine W.block ?_
  replace M := M.ownNil 2 1
  replace M := M.ownNil 2 1
  replace M : Mem _ _ _ [own 2 1 (Value.slice none 0 0) (([] : List Int).length) (([] : List Int).flatMap intE), own 2 1 (Value.slice none 0 0) (([] : List Int).length) (([] : List Int).flatMap intE), blk b5 (.cells #[(Value.int .i64 0), (Value.int .i64 0), (Value.int .i64 0), (Value.int .i64 0)] 45), blk b3 (.cells #[(Value.int .i64 0), (Value.int .i64 0), (Value.int .i64 0), (Value.int .i64 0)] 45)] [SlAt 4 v l.length (l.flatMap aggE)] _ := M
  replace M := M.rechunk 0 (c' := own 2 1 (Value.slice none 0 0) ((cntJ (l.take 0)).length) ((cntJ (l.take 0)).flatMap intE)) rfl rfl
  replace M : Mem _ _ _ [own 2 1 (Value.slice none 0 0) ((cntJ (l.take 0)).length) ((cntJ (l.take 0)).flatMap intE), own 2 1 (Value.slice none 0 0) (([] : List Int).length) (([] : List Int).flatMap intE), blk b5 (.cells #[(Value.int .i64 0), (Value.int .i64 0), (Value.int .i64 0), (Value.int .i64 0)] 45), blk b3 (.cells #[(Value.int .i64 0), (Value.int .i64 0), (Value.int .i64 0), (Value.int .i64 0)] 45)] [SlAt 4 v l.length (l.flatMap aggE)] _ := M
  replace M := M.rechunk 1 (c' := own 2 1 (Value.slice none 0 0) ((sumJ (l.take 0)).length) ((sumJ (l.take 0)).flatMap intE)) rfl rfl
  replace M : Mem _ _ _ [own 2 1 (Value.slice none 0 0) ((cntJ (l.take 0)).length) ((cntJ (l.take 0)).flatMap intE), own 2 1 (Value.slice none 0 0) ((sumJ (l.take 0)).length) ((sumJ (l.take 0)).flatMap intE), blk b5 (.cells #[(Value.int .i64 0), (Value.int .i64 0), (Value.int .i64 0), (Value.int .i64 0)] 45), blk b3 (.cells #[(Value.int .i64 0), (Value.int .i64 0), (Value.int .i64 0), (Value.int .i64 0)] 45)] [SlAt 4 v l.length (l.flatMap aggE)] _ := M
  replace M := M.rechunk 2 (c' := blk b5 (.cells #[(Value.int .i64 0), (Value.int .i64 0), (Value.int .i64 (minJ (l.take 0))), (Value.int .i64 (maxJ (l.take 0)))] 45)) rfl rfl
  replace M : Mem _ _ _ [own 2 1 (Value.slice none 0 0) ((cntJ (l.take 0)).length) ((cntJ (l.take 0)).flatMap intE), own 2 1 (Value.slice none 0 0) ((sumJ (l.take 0)).length) ((sumJ (l.take 0)).flatMap intE), blk b5 (.cells #[(Value.int .i64 0), (Value.int .i64 0), (Value.int .i64 (minJ (l.take 0))), (Value.int .i64 (maxJ (l.take 0)))] 45), blk b3 (.cells #[(Value.int .i64 0), (Value.int .i64 0), (Value.int .i64 0), (Value.int .i64 0)] 45)] [SlAt 4 v l.length (l.flatMap aggE)] _ := M
  replace M := M.sel (L' := [own 2 1 (Value.slice none 0 0) ((cntJ (l.take 0)).length) ((cntJ (l.take 0)).flatMap intE), own 2 1 (Value.slice none 0 0) ((sumJ (l.take 0)).length) ((sumJ (l.take 0)).flatMap intE), blk b5 (.cells #[(Value.int .i64 0), (Value.int .i64 0), (Value.int .i64 (minJ (l.take 0))), (Value.int .i64 (maxJ (l.take 0)))] 45), blk b3 (.cells #[(Value.int .i64 0), (Value.int .i64 0), (Value.int .i64 0), (Value.int .i64 0)] 45)]) [0, 1, 2, 3] rfl (by decide)
  replace M : Mem _ _ _ [own 2 1 (Value.slice none 0 0) ((cntJ (l.take 0)).length) ((cntJ (l.take 0)).flatMap intE), own 2 1 (Value.slice none 0 0) ((sumJ (l.take 0)).length) ((sumJ (l.take 0)).flatMap intE), blk b5 (.cells #[(Value.int .i64 0), (Value.int .i64 0), (Value.int .i64 (minJ (l.take 0))), (Value.int .i64 (maxJ (l.take 0)))] 45), blk b3 (.cells #[(Value.int .i64 0), (Value.int .i64 0), (Value.int .i64 0), (Value.int .i64 0)] 45)] [SlAt 4 v l.length (l.flatMap aggE)] _ := M
  refine W.loop (fun kk ρ w' => ∃ (k_ : Nat) (c_ : Value) (s_ : Value), ((k_ ≤ l.length) ∧ kk = l.length - k_) ∧ ρ.has [(0, v), (2, (Value.pointer (some ⟨b3, 0, none⟩))), (3, (Value.int .i64 0)), (4, c_), (5, s_), (6, (Value.pointer (some ⟨b5, 0, none⟩))), (7, (Value.int .i64 ↑k_))] ∧ Mem G (fun _ => False) w [own 2 1 c_ ((cntJ (l.take k_)).length) ((cntJ (l.take k_)).flatMap intE), own 2 1 s_ ((sumJ (l.take k_)).length) ((sumJ (l.take k_)).flatMap intE), blk b5 (.cells #[(Value.int .i64 0), (Value.int .i64 0), (Value.int .i64 (minJ (l.take k_))), (Value.int .i64 (maxJ (l.take k_)))] 45), blk b3 (.cells #[(Value.int .i64 0), (Value.int .i64 0), (Value.int .i64 0), (Value.int .i64 0)] 45)] [SlAt 4 v l.length (l.flatMap aggE)]  w') _ ⟨0, _, _, ⟨(Nat.zero_le _), rfl⟩, ⟨rfl, rfl, rfl, rfl, rfl, rfl, rfl, rfl, rfl⟩, M⟩ ?_
  rintro _ ρ8 w7 ⟨k_, c_, s_, ⟨hi9, rfl⟩, hρ, M⟩
  obtain ⟨ρ8, rfl⟩ := hρ.know
  clear hρ
  have sl10 : IsSl c_ := SlAt.isSl (own_slAt (M.chunk 0 rfl).inv)
  have sl11 : IsSl s_ := SlAt.isSl (own_slAt (M.chunk 1 rfl).inv)
  have hj1_ := cntJ_in hin k_
  have hj2_ := sumJ_in hin k_
  obtain ⟨hj3_, hj4_, hj5_⟩ := lenJ (l.take k_)
  have hj6_ : (l.take k_).length ≤ k_ := by rw [List.length_take]; omega
  refine W.seq' ?_
  refine W.seq' ?_
  refine W.region rfl ?_
  refine WL.step (v := (Value.int .i64 ↑k_)) rfl (Step.move rfl) ?_
  refine WL.step (v := v) rfl (Step.move rfl) ?_
  refine WL.step (v := (Value.int .i64 ↑l.length)) rfl (Step.lenSl Try.un186 rfl (M.rep 0 rfl)) ?_
  refine WL.step (v := (Value.bool (decide ((↑k_ : Int) < (↑l.length : Int))))) rfl (Step.pure (by kernel_rfl)) ?_
  refine WL.nil ?_
  refine W.cond (t := decide ((↑k_ : Int) < (↑l.length : Int))) rfl (fun h12 => ?_) (fun h12 => ?_)
  ·
    have h12p := of_decide_eq_true h12
    refine W.skip ?_
    refine W.seq' ?_
    refine W.block ?_
    refine W.seq' ?_
    refine W.seq' ?_
    refine W.region rfl ?_
    refine WL.step (v := v) rfl (Step.move rfl) ?_
    refine WL.step (v := (Value.int .i64 ↑k_)) rfl (Step.move rfl) ?_
    obtain ⟨cap14, hb13⟩ := SlAt.base (M.rep 0 rfl) (by omega)
    obtain ⟨x15, hx15⟩ := elem_of_lt (xs := l) (i := k_) (by omega)
    refine WL.step (v := (Value.pointer (some ⟨(sBlk v), sOff v + k_ * 4, none⟩))) rfl (Step.indexAddr (i := k_) (Try.un186).run Try.el45.sized rfl rfl (by omega) hb13 (by omega)) ?_
    refine WL.step (v := (Value.agg #[(Value.int .i64 x15.count), (Value.int .i64 x15.sum), (Value.int .i64 x15.min), (Value.int .i64 x15.max)])) rfl (Step.loadEN (k := 0) (cs' := [(Value.int .i64 x15.count), (Value.int .i64 x15.sum), (Value.int .i64 x15.min), (Value.int .i64 x15.max)]) Try.ag45 (flat_ec (M.rep 0 rfl) hx15 aggE_len) (by decide) rfl rfl rfl) ?_
    refine WL.step (v := (Value.agg #[(Value.int .i64 0), (Value.int .i64 0), (Value.int .i64 0), (Value.int .i64 0)])) rfl (Step.pure (by kernel_rfl)) ?_
    refine WL.step (v := (Value.bool (decide (x15 = (⟨0, 0, 0, 0⟩ : Agg5))))) rfl (Step.cast (congrArg Value.bool (agg_eqB x15 (⟨0, 0, 0, 0⟩ : Agg5))) (Step.eqAgg Try.eg45 rfl rfl rfl (Try.eq45 9998 (x15.count : Int) (x15.sum : Int) (x15.min : Int) (x15.max : Int) (0 : Int) (0 : Int) (0 : Int) (0 : Int)))) ?_
    refine WL.nil ?_
    refine W.cond (t := decide (x15 = (⟨0, 0, 0, 0⟩ : Agg5))) rfl (fun h16 => ?_) (fun h16 => ?_)
    ·
      have h16p := of_decide_eq_true h16
      refine W.exit ?_
      refine thn_exit ?_
      refine inBlk_hit ?_
      refine W.region rfl ?_
      refine WL.step (v := (Value.int .i64 ↑k_)) rfl (Step.move rfl) ?_
      refine WL.step (v := (Value.int .i64 (↑k_ + 1))) rfl (Step.add rfl rfl (wrap_i64 (by omega))) ?_
      refine WL.step (v := (Value.int .i64 (↑k_ + 1))) rfl (Step.assign rfl) ?_
      refine WL.nil ?_
      replace M := M.rechunk 0 (c' := own 2 1 c_ ((cntJ (l.take (k_ + 1))).length) ((cntJ (l.take (k_ + 1))).flatMap intE)) rfl (by rw [cntJ_pass hx15 (by simpa [aggZ] using h16)])
      replace M : Mem _ _ _ [own 2 1 c_ ((cntJ (l.take (k_ + 1))).length) ((cntJ (l.take (k_ + 1))).flatMap intE), own 2 1 s_ ((sumJ (l.take k_)).length) ((sumJ (l.take k_)).flatMap intE), blk b5 (.cells #[(Value.int .i64 0), (Value.int .i64 0), (Value.int .i64 (minJ (l.take k_))), (Value.int .i64 (maxJ (l.take k_)))] 45), blk b3 (.cells #[(Value.int .i64 0), (Value.int .i64 0), (Value.int .i64 0), (Value.int .i64 0)] 45)] [SlAt 4 v l.length (l.flatMap aggE)] _ := M
      replace M := M.rechunk 1 (c' := own 2 1 s_ ((sumJ (l.take (k_ + 1))).length) ((sumJ (l.take (k_ + 1))).flatMap intE)) rfl (by rw [sumJ_pass hx15 (by simpa [aggZ] using h16)])
      replace M : Mem _ _ _ [own 2 1 c_ ((cntJ (l.take (k_ + 1))).length) ((cntJ (l.take (k_ + 1))).flatMap intE), own 2 1 s_ ((sumJ (l.take (k_ + 1))).length) ((sumJ (l.take (k_ + 1))).flatMap intE), blk b5 (.cells #[(Value.int .i64 0), (Value.int .i64 0), (Value.int .i64 (minJ (l.take k_))), (Value.int .i64 (maxJ (l.take k_)))] 45), blk b3 (.cells #[(Value.int .i64 0), (Value.int .i64 0), (Value.int .i64 0), (Value.int .i64 0)] 45)] [SlAt 4 v l.length (l.flatMap aggE)] _ := M
      have hminJ_ : minJ (l.take (k_ + 1)) = (minJ (l.take k_) : Int) := by rw [minJ_pass hx15 (by simpa [aggZ] using h16)]
      have hmaxJ_ : maxJ (l.take (k_ + 1)) = (maxJ (l.take k_) : Int) := by rw [maxJ_pass hx15 (by simpa [aggZ] using h16)]
      replace M := M.rechunk 2 (c' := blk b5 (.cells #[(Value.int .i64 0), (Value.int .i64 0), (Value.int .i64 (minJ (l.take (k_ + 1)))), (Value.int .i64 (maxJ (l.take (k_ + 1))))] 45)) rfl (by rw [hminJ_, hmaxJ_])
      replace M : Mem _ _ _ [own 2 1 c_ ((cntJ (l.take (k_ + 1))).length) ((cntJ (l.take (k_ + 1))).flatMap intE), own 2 1 s_ ((sumJ (l.take (k_ + 1))).length) ((sumJ (l.take (k_ + 1))).flatMap intE), blk b5 (.cells #[(Value.int .i64 0), (Value.int .i64 0), (Value.int .i64 (minJ (l.take (k_ + 1)))), (Value.int .i64 (maxJ (l.take (k_ + 1))))] 45), blk b3 (.cells #[(Value.int .i64 0), (Value.int .i64 0), (Value.int .i64 0), (Value.int .i64 0)] 45)] [SlAt 4 v l.length (l.flatMap aggE)] _ := M
      exact ⟨_, (by omega), k_ + 1, _, _, ⟨(by omega), rfl⟩, ⟨rfl, rfl, rfl, rfl, rfl, rfl, rfl, rfl, rfl⟩, M⟩
    ·
      have h16p := of_decide_eq_false h16
      refine W.skip ?_
      refine W.seq' ?_
      refine W.seq' ?_
      rcases Bool.eq_false_or_eq_true ((↑((cntJ (l.take k_)).length) : Int) == (0 : Int)) with h17 | h17
      ·
        have h17p : (↑((cntJ (l.take k_)).length) : Int) = (0 : Int) := by simpa using h17
        refine W.drawn M [0, 1, 2, 3, 4, 5, 6, 7, 8, 9, 10, 11, 12] [] [] [own 2 1 c_ ((cntJ (l.take k_)).length) ((cntJ (l.take k_)).flatMap intE), own 2 1 s_ ((sumJ (l.take k_)).length) ((sumJ (l.take k_)).flatMap intE), blk b5 (.cells #[(Value.int .i64 0), (Value.int .i64 0), (Value.int .i64 (minJ (l.take k_))), (Value.int .i64 (maxJ (l.take k_)))] 45), blk b3 (.cells #[(Value.int .i64 0), (Value.int .i64 0), (Value.int .i64 0), (Value.int .i64 0)] 45)] [SlAt 4 v l.length (l.flatMap aggE)] (List.Sublist.cons_cons _ (List.Sublist.cons_cons _ (List.Sublist.cons_cons _ (List.Sublist.cons_cons _ List.Sublist.slnil)))) (fun _ h => h) Try.mixed (by kernel_rfl) ?_
        refine TW.pure (v := c_) rfl (by decide) (by decide) rfl (fun w => (Step.move rfl)) ?_
        refine TW.read (v := (Value.int .i64 (↑((cntJ (l.take k_)).length)))) rfl (by decide) (by decide) rfl (fun A w M => (Step.lenSl Try.un121 rfl (own_slAt (M.chunk 1 rfl).inv))) ?_
        refine TW.pure (v := (Value.bool true)) rfl (by decide) (by decide) rfl (fun w => (Step.cast (congrArg Value.bool h17) (Step.pure (by kernel_rfl)))) ?_
        refine TW.pure (v := (Value.bool true)) rfl (by decide) (by decide) rfl (fun w => (Step.move rfl)) ?_
        refine TW.skip rfl rfl ?_
        refine TW.skip rfl rfl ?_
        refine TW.skip rfl rfl ?_
        refine TW.skip rfl rfl ?_
        refine TW.skip rfl rfl ?_
        refine TW.skip rfl rfl ?_
        refine TW.skip rfl rfl ?_
        refine TW.skip rfl rfl ?_
        refine TW.pure (v := (Value.bool true)) rfl (by decide) (by decide) rfl (fun w => (Step.pick (t := true) rfl rfl)) ?_
        refine TW.done (fun w18 M => ?_)
        refine W.cond (t := true) rfl (fun _ => ?_) (fun h => by cases h)
        refine W.region rfl ?_
        refine WL.step (v := v) rfl (Step.move rfl) ?_
        refine WL.step (v := (Value.int .i64 ↑k_)) rfl (Step.move rfl) ?_
        refine WL.step (v := (Value.pointer (some ⟨(sBlk v), sOff v + k_ * 4, none⟩))) rfl (Step.indexAddr (i := k_) (Try.un186).run Try.el45.sized rfl rfl (by omega) hb13 (by omega)) ?_
        refine WL.step (v := (Value.pointer (some ⟨(sBlk v), sOff v + k_ * 4 + 2, none⟩))) rfl (Step.pure (by kernel_rfl)) ?_
        refine WL.step (v := (Value.int .i64 x15.min)) rfl (Step.loadE (k := 2) Try.sc2 (flat_ec (M.rep 0 rfl) hx15 aggE_len) (by decide) rfl rfl) ?_
        refine WL.step (v := (Value.pointer (some ⟨b5, 2, none⟩))) rfl (Step.pure (by kernel_rfl)) ?_
        refine WL.store (v := (Value.int .i64 x15.min)) (cs := [(Value.int .i64 x15.min)]) (c' := #[(Value.int .i64 0), (Value.int .i64 0), (Value.int .i64 x15.min), (Value.int .i64 (maxJ (l.take k_)))]) M 2 rfl rfl Try.el2.sized rfl rfl rfl rfl (Nat.le_of_ble_eq_true rfl) (cel_cons rfl cel_nil) rfl rfl (fun w19 M => ?_)
        refine WL.nil ?_
        refine W.seq' ?_
        refine W.seq' ?_
        refine W.drawn M [0, 1, 2, 3, 4, 5, 6, 7, 8, 9, 10, 11, 12] [] [] [own 2 1 c_ ((cntJ (l.take k_)).length) ((cntJ (l.take k_)).flatMap intE), own 2 1 s_ ((sumJ (l.take k_)).length) ((sumJ (l.take k_)).flatMap intE), blk b5 (.cells #[(Value.int .i64 0), (Value.int .i64 0), (Value.int .i64 x15.min), (Value.int .i64 (maxJ (l.take k_)))] 45), blk b3 (.cells #[(Value.int .i64 0), (Value.int .i64 0), (Value.int .i64 0), (Value.int .i64 0)] 45)] [SlAt 4 v l.length (l.flatMap aggE)] (List.Sublist.cons_cons _ (List.Sublist.cons_cons _ (List.Sublist.cons_cons _ (List.Sublist.cons_cons _ List.Sublist.slnil)))) (fun _ h => h) Try.mixed (by kernel_rfl) ?_
        refine TW.pure (v := c_) rfl (by decide) (by decide) rfl (fun w => (Step.move rfl)) ?_
        refine TW.read (v := (Value.int .i64 (↑((cntJ (l.take k_)).length)))) rfl (by decide) (by decide) rfl (fun A w M => (Step.lenSl Try.un121 rfl (own_slAt (M.chunk 1 rfl).inv))) ?_
        refine TW.pure (v := (Value.bool true)) rfl (by decide) (by decide) rfl (fun w => (Step.cast (congrArg Value.bool h17) (Step.pure (by kernel_rfl)))) ?_
        refine TW.pure (v := (Value.bool true)) rfl (by decide) (by decide) rfl (fun w => (Step.move rfl)) ?_
        refine TW.skip rfl rfl ?_
        refine TW.skip rfl rfl ?_
        refine TW.skip rfl rfl ?_
        refine TW.skip rfl rfl ?_
        refine TW.skip rfl rfl ?_
        refine TW.skip rfl rfl ?_
        refine TW.skip rfl rfl ?_
        refine TW.skip rfl rfl ?_
        refine TW.pure (v := (Value.bool true)) rfl (by decide) (by decide) rfl (fun w => (Step.pick (t := true) rfl rfl)) ?_
        refine TW.done (fun w20 M => ?_)
        refine W.cond (t := true) rfl (fun _ => ?_) (fun h => by cases h)
        refine W.region rfl ?_
        refine WL.step (v := v) rfl (Step.move rfl) ?_
        refine WL.step (v := (Value.int .i64 ↑k_)) rfl (Step.move rfl) ?_
        refine WL.step (v := (Value.pointer (some ⟨(sBlk v), sOff v + k_ * 4, none⟩))) rfl (Step.indexAddr (i := k_) (Try.un186).run Try.el45.sized rfl rfl (by omega) hb13 (by omega)) ?_
        refine WL.step (v := (Value.pointer (some ⟨(sBlk v), sOff v + k_ * 4 + 3, none⟩))) rfl (Step.pure (by kernel_rfl)) ?_
        refine WL.step (v := (Value.int .i64 x15.max)) rfl (Step.loadE (k := 3) Try.sc2 (flat_ec (M.rep 0 rfl) hx15 aggE_len) (by decide) rfl rfl) ?_
        refine WL.step (v := (Value.pointer (some ⟨b5, 3, none⟩))) rfl (Step.pure (by kernel_rfl)) ?_
        refine WL.store (v := (Value.int .i64 x15.max)) (cs := [(Value.int .i64 x15.max)]) (c' := #[(Value.int .i64 0), (Value.int .i64 0), (Value.int .i64 x15.min), (Value.int .i64 x15.max)]) M 2 rfl rfl Try.el2.sized rfl rfl rfl rfl (Nat.le_of_ble_eq_true rfl) (cel_cons rfl cel_nil) rfl rfl (fun w21 M => ?_)
        refine WL.nil ?_
        refine W.seq' ?_
        refine W.region rfl ?_
        refine WL.step (v := c_) rfl (Step.move rfl) ?_
        refine WL.step (v := v) rfl (Step.move rfl) ?_
        refine WL.step (v := (Value.int .i64 ↑k_)) rfl (Step.move rfl) ?_
        refine WL.step (v := (Value.pointer (some ⟨(sBlk v), sOff v + k_ * 4, none⟩))) rfl (Step.indexAddr (i := k_) (Try.un186).run Try.el45.sized rfl rfl (by omega) hb13 (by omega)) ?_
        refine WL.step (v := (Value.pointer (some ⟨(sBlk v), sOff v + k_ * 4, none⟩))) rfl (Step.pure (by kernel_rfl)) ?_
        refine WL.step (v := (Value.int .i64 x15.count)) rfl (Step.loadE (k := 0) Try.sc2 (flat_ec (M.rep 0 rfl) hx15 aggE_len) (by decide) rfl rfl) ?_
        refine WL.new (obj := .cells #[(Value.int .i64 x15.count)] 2) (fun b => .slice (some ⟨b, 0, none⟩) 1 1) M rfl (fun w => Step.make (by kernel_rfl)) (fun b22 w23 hb22 M => ?_)
        refine WL.does rfl (M.appendF (cntJ (l.take k_)) ([x15.count] : List Int) (sv := (Value.slice (some ⟨b22, 0, none⟩) 1 1)) 1 Try.un121 Try.el2 rfl (by decide) rfl rfl rfl (SlAt.of_blk (M.blk 0 rfl) rfl (by decide)) intE_cel (by have := hj5_; simp only [maxLen, List.length_nil, List.length_cons, List.length_append]; omega) (by have := hj5_; (try simp only [List.length_nil, List.length_cons, List.length_append]); omega)) ?_
        rintro v24 w25 M
        replace M : Mem _ _ _ [blk b22 (.cells #[(Value.int .i64 x15.count)] 2), own 2 1 v24 (((cntJ (l.take k_)) ++ ([x15.count] : List Int)).length) (((cntJ (l.take k_)) ++ ([x15.count] : List Int)).flatMap intE), own 2 1 s_ ((sumJ (l.take k_)).length) ((sumJ (l.take k_)).flatMap intE), blk b5 (.cells #[(Value.int .i64 0), (Value.int .i64 0), (Value.int .i64 x15.min), (Value.int .i64 x15.max)] 45), blk b3 (.cells #[(Value.int .i64 0), (Value.int .i64 0), (Value.int .i64 0), (Value.int .i64 0)] 45)] [SlAt 4 v l.length (l.flatMap aggE)] _ := M
        have sl26 : IsSl v24 := SlAt.isSl (own_slAt (M.chunk 1 rfl).inv)
        refine WL.step (v := v24) rfl (Step.assign rfl) ?_
        refine WL.nil ?_
        refine W.region rfl ?_
        refine WL.step (v := s_) rfl (Step.move rfl) ?_
        refine WL.step (v := v) rfl (Step.move rfl) ?_
        refine WL.step (v := (Value.int .i64 ↑k_)) rfl (Step.move rfl) ?_
        refine WL.step (v := (Value.pointer (some ⟨(sBlk v), sOff v + k_ * 4, none⟩))) rfl (Step.indexAddr (i := k_) (Try.un186).run Try.el45.sized rfl rfl (by omega) hb13 (by omega)) ?_
        refine WL.step (v := (Value.pointer (some ⟨(sBlk v), sOff v + k_ * 4 + 1, none⟩))) rfl (Step.pure (by kernel_rfl)) ?_
        refine WL.step (v := (Value.int .i64 x15.sum)) rfl (Step.loadE (k := 1) Try.sc2 (flat_ec (M.rep 0 rfl) hx15 aggE_len) (by decide) rfl rfl) ?_
        refine WL.new (obj := .cells #[(Value.int .i64 x15.sum)] 2) (fun b => .slice (some ⟨b, 0, none⟩) 1 1) M rfl (fun w => Step.make (by kernel_rfl)) (fun b27 w28 hb27 M => ?_)
        refine WL.does rfl (M.appendF (sumJ (l.take k_)) ([x15.sum] : List Int) (sv := (Value.slice (some ⟨b27, 0, none⟩) 1 1)) 3 Try.un121 Try.el2 rfl (by decide) rfl rfl rfl (SlAt.of_blk (M.blk 0 rfl) rfl (by decide)) intE_cel (by have := hj5_; simp only [maxLen, List.length_nil, List.length_cons, List.length_append]; omega) (by have := hj5_; (try simp only [List.length_nil, List.length_cons, List.length_append]); omega)) ?_
        rintro v29 w30 M
        replace M : Mem _ _ _ [blk b27 (.cells #[(Value.int .i64 x15.sum)] 2), blk b22 (.cells #[(Value.int .i64 x15.count)] 2), own 2 1 v24 (((cntJ (l.take k_)) ++ ([x15.count] : List Int)).length) (((cntJ (l.take k_)) ++ ([x15.count] : List Int)).flatMap intE), own 2 1 v29 (((sumJ (l.take k_)) ++ ([x15.sum] : List Int)).length) (((sumJ (l.take k_)) ++ ([x15.sum] : List Int)).flatMap intE), blk b5 (.cells #[(Value.int .i64 0), (Value.int .i64 0), (Value.int .i64 x15.min), (Value.int .i64 x15.max)] 45), blk b3 (.cells #[(Value.int .i64 0), (Value.int .i64 0), (Value.int .i64 0), (Value.int .i64 0)] 45)] [SlAt 4 v l.length (l.flatMap aggE)] _ := M
        have sl31 : IsSl v29 := SlAt.isSl (own_slAt (M.chunk 3 rfl).inv)
        refine WL.step (v := v29) rfl (Step.assign rfl) ?_
        refine WL.nil ?_
        refine W.region rfl ?_
        refine WL.step (v := (Value.int .i64 ↑k_)) rfl (Step.move rfl) ?_
        refine WL.step (v := (Value.int .i64 (↑k_ + 1))) rfl (Step.add rfl rfl (wrap_i64 (by omega))) ?_
        refine WL.step (v := (Value.int .i64 (↑k_ + 1))) rfl (Step.assign rfl) ?_
        refine WL.nil ?_
        replace M := M.rechunk 2 (c' := own 2 1 v24 ((cntJ (l.take (k_ + 1))).length) ((cntJ (l.take (k_ + 1))).flatMap intE)) rfl (by rw [cntJ_hit hx15 (by simpa [aggZ] using h16)])
        replace M : Mem _ _ _ [blk b27 (.cells #[(Value.int .i64 x15.sum)] 2), blk b22 (.cells #[(Value.int .i64 x15.count)] 2), own 2 1 v24 ((cntJ (l.take (k_ + 1))).length) ((cntJ (l.take (k_ + 1))).flatMap intE), own 2 1 v29 (((sumJ (l.take k_)) ++ ([x15.sum] : List Int)).length) (((sumJ (l.take k_)) ++ ([x15.sum] : List Int)).flatMap intE), blk b5 (.cells #[(Value.int .i64 0), (Value.int .i64 0), (Value.int .i64 x15.min), (Value.int .i64 x15.max)] 45), blk b3 (.cells #[(Value.int .i64 0), (Value.int .i64 0), (Value.int .i64 0), (Value.int .i64 0)] 45)] [SlAt 4 v l.length (l.flatMap aggE)] _ := M
        replace M := M.rechunk 3 (c' := own 2 1 v29 ((sumJ (l.take (k_ + 1))).length) ((sumJ (l.take (k_ + 1))).flatMap intE)) rfl (by rw [sumJ_hit hx15 (by simpa [aggZ] using h16)])
        replace M : Mem _ _ _ [blk b27 (.cells #[(Value.int .i64 x15.sum)] 2), blk b22 (.cells #[(Value.int .i64 x15.count)] 2), own 2 1 v24 ((cntJ (l.take (k_ + 1))).length) ((cntJ (l.take (k_ + 1))).flatMap intE), own 2 1 v29 ((sumJ (l.take (k_ + 1))).length) ((sumJ (l.take (k_ + 1))).flatMap intE), blk b5 (.cells #[(Value.int .i64 0), (Value.int .i64 0), (Value.int .i64 x15.min), (Value.int .i64 x15.max)] 45), blk b3 (.cells #[(Value.int .i64 0), (Value.int .i64 0), (Value.int .i64 0), (Value.int .i64 0)] 45)] [SlAt 4 v l.length (l.flatMap aggE)] _ := M
        have hminJ_ : minJ (l.take (k_ + 1)) = (x15.min : Int) := by rw [minJ_hit hx15 (by simpa [aggZ] using h16)]; (repeat split) <;> omega
        have hmaxJ_ : maxJ (l.take (k_ + 1)) = (x15.max : Int) := by rw [maxJ_hit hx15 (by simpa [aggZ] using h16)]; (repeat split) <;> omega
        replace M := M.rechunk 4 (c' := blk b5 (.cells #[(Value.int .i64 0), (Value.int .i64 0), (Value.int .i64 (minJ (l.take (k_ + 1)))), (Value.int .i64 (maxJ (l.take (k_ + 1))))] 45)) rfl (by rw [hminJ_, hmaxJ_])
        replace M : Mem _ _ _ [blk b27 (.cells #[(Value.int .i64 x15.sum)] 2), blk b22 (.cells #[(Value.int .i64 x15.count)] 2), own 2 1 v24 ((cntJ (l.take (k_ + 1))).length) ((cntJ (l.take (k_ + 1))).flatMap intE), own 2 1 v29 ((sumJ (l.take (k_ + 1))).length) ((sumJ (l.take (k_ + 1))).flatMap intE), blk b5 (.cells #[(Value.int .i64 0), (Value.int .i64 0), (Value.int .i64 (minJ (l.take (k_ + 1)))), (Value.int .i64 (maxJ (l.take (k_ + 1))))] 45), blk b3 (.cells #[(Value.int .i64 0), (Value.int .i64 0), (Value.int .i64 0), (Value.int .i64 0)] 45)] [SlAt 4 v l.length (l.flatMap aggE)] _ := M
        replace M := M.sel (L' := [own 2 1 v24 ((cntJ (l.take (k_ + 1))).length) ((cntJ (l.take (k_ + 1))).flatMap intE), own 2 1 v29 ((sumJ (l.take (k_ + 1))).length) ((sumJ (l.take (k_ + 1))).flatMap intE), blk b5 (.cells #[(Value.int .i64 0), (Value.int .i64 0), (Value.int .i64 (minJ (l.take (k_ + 1)))), (Value.int .i64 (maxJ (l.take (k_ + 1))))] 45), blk b3 (.cells #[(Value.int .i64 0), (Value.int .i64 0), (Value.int .i64 0), (Value.int .i64 0)] 45)]) [2, 3, 4, 5] rfl (by decide)
        exact ⟨_, (by omega), k_ + 1, _, _, ⟨(by omega), rfl⟩, ⟨rfl, rfl, rfl, rfl, rfl, rfl, rfl, rfl, rfl⟩, M⟩
      ·
        have h17p : ¬ (↑((cntJ (l.take k_)).length) : Int) = (0 : Int) := by simpa using h17
        refine W.drawn M [0, 1, 2, 3, 4, 5, 6, 7, 8, 9, 10, 11, 12] [] [] [own 2 1 c_ ((cntJ (l.take k_)).length) ((cntJ (l.take k_)).flatMap intE), own 2 1 s_ ((sumJ (l.take k_)).length) ((sumJ (l.take k_)).flatMap intE), blk b5 (.cells #[(Value.int .i64 0), (Value.int .i64 0), (Value.int .i64 (minJ (l.take k_))), (Value.int .i64 (maxJ (l.take k_)))] 45), blk b3 (.cells #[(Value.int .i64 0), (Value.int .i64 0), (Value.int .i64 0), (Value.int .i64 0)] 45)] [SlAt 4 v l.length (l.flatMap aggE)] (List.Sublist.cons_cons _ (List.Sublist.cons_cons _ (List.Sublist.cons_cons _ (List.Sublist.cons_cons _ List.Sublist.slnil)))) (fun _ h => h) Try.mixed (by kernel_rfl) ?_
        refine TW.pure (v := c_) rfl (by decide) (by decide) rfl (fun w => (Step.move rfl)) ?_
        refine TW.read (v := (Value.int .i64 (↑((cntJ (l.take k_)).length)))) rfl (by decide) (by decide) rfl (fun A w M => (Step.lenSl Try.un121 rfl (own_slAt (M.chunk 1 rfl).inv))) ?_
        refine TW.pure (v := (Value.bool false)) rfl (by decide) (by decide) rfl (fun w => (Step.cast (congrArg Value.bool h17) (Step.pure (by kernel_rfl)))) ?_
        refine TW.pure (v := (Value.bool false)) rfl (by decide) (by decide) rfl (fun w => (Step.move rfl)) ?_
        refine TW.pure (v := v) rfl (by decide) (by decide) rfl (fun w => (Step.move rfl)) ?_
        refine TW.pure (v := (Value.int .i64 ↑k_)) rfl (by decide) (by decide) rfl (fun w => (Step.move rfl)) ?_
        refine TW.pure (v := (Value.pointer (some ⟨(sBlk v), sOff v + k_ * 4, none⟩))) rfl (by decide) (by decide) rfl (fun w => (Step.indexAddr (i := k_) (Try.un186).run Try.el45.sized rfl rfl (by omega) hb13 (by omega))) ?_
        refine TW.pure (v := (Value.pointer (some ⟨(sBlk v), sOff v + k_ * 4 + 2, none⟩))) rfl (by decide) (by decide) rfl (fun w => (Step.pure (by kernel_rfl))) ?_
        refine TW.read (v := (Value.int .i64 x15.min)) rfl (by decide) (by decide) rfl (fun A w M => (Step.loadE (k := 2) Try.sc2 (flat_ec (M.rep 0 rfl) hx15 aggE_len) (by decide) rfl rfl)) ?_
        refine TW.pure (v := (Value.pointer (some ⟨b5, 2, none⟩))) rfl (by decide) (by decide) rfl (fun w => (Step.pure (by kernel_rfl))) ?_
        refine TW.read (v := (Value.int .i64 (minJ (l.take k_)))) rfl (by decide) (by decide) rfl (fun A w M => (Step.load1 Try.sc2 rfl ((M.cell 3 rfl 2).trans rfl))) ?_
        refine TW.pure (v := (Value.bool (decide ((x15.min : Int) < (minJ (l.take k_) : Int))))) rfl (by decide) (by decide) rfl (fun w => (Step.pure (by kernel_rfl))) ?_
        refine TW.pure (v := (Value.bool (decide ((x15.min : Int) < (minJ (l.take k_) : Int))))) rfl (by decide) (by decide) rfl (fun w => (Step.pick (t := false) rfl rfl)) ?_
        refine TW.done (fun w32 M => ?_)
        refine W.cond (t := decide ((x15.min : Int) < (minJ (l.take k_) : Int))) rfl (fun h33 => ?_) (fun h33 => ?_)
        ·
          have h33p := of_decide_eq_true h33
          refine W.region rfl ?_
          refine WL.step (v := v) rfl (Step.move rfl) ?_
          refine WL.step (v := (Value.int .i64 ↑k_)) rfl (Step.move rfl) ?_
          refine WL.step (v := (Value.pointer (some ⟨(sBlk v), sOff v + k_ * 4, none⟩))) rfl (Step.indexAddr (i := k_) (Try.un186).run Try.el45.sized rfl rfl (by omega) hb13 (by omega)) ?_
          refine WL.step (v := (Value.pointer (some ⟨(sBlk v), sOff v + k_ * 4 + 2, none⟩))) rfl (Step.pure (by kernel_rfl)) ?_
          refine WL.step (v := (Value.int .i64 x15.min)) rfl (Step.loadE (k := 2) Try.sc2 (flat_ec (M.rep 0 rfl) hx15 aggE_len) (by decide) rfl rfl) ?_
          refine WL.step (v := (Value.pointer (some ⟨b5, 2, none⟩))) rfl (Step.pure (by kernel_rfl)) ?_
          refine WL.store (v := (Value.int .i64 x15.min)) (cs := [(Value.int .i64 x15.min)]) (c' := #[(Value.int .i64 0), (Value.int .i64 0), (Value.int .i64 x15.min), (Value.int .i64 (maxJ (l.take k_)))]) M 2 rfl rfl Try.el2.sized rfl rfl rfl rfl (Nat.le_of_ble_eq_true rfl) (cel_cons rfl cel_nil) rfl rfl (fun w34 M => ?_)
          refine WL.nil ?_
          refine W.seq' ?_
          refine W.seq' ?_
          refine W.drawn M [0, 1, 2, 3, 4, 5, 6, 7, 8, 9, 10, 11, 12] [] [] [own 2 1 c_ ((cntJ (l.take k_)).length) ((cntJ (l.take k_)).flatMap intE), own 2 1 s_ ((sumJ (l.take k_)).length) ((sumJ (l.take k_)).flatMap intE), blk b5 (.cells #[(Value.int .i64 0), (Value.int .i64 0), (Value.int .i64 x15.min), (Value.int .i64 (maxJ (l.take k_)))] 45), blk b3 (.cells #[(Value.int .i64 0), (Value.int .i64 0), (Value.int .i64 0), (Value.int .i64 0)] 45)] [SlAt 4 v l.length (l.flatMap aggE)] (List.Sublist.cons_cons _ (List.Sublist.cons_cons _ (List.Sublist.cons_cons _ (List.Sublist.cons_cons _ List.Sublist.slnil)))) (fun _ h => h) Try.mixed (by kernel_rfl) ?_
          refine TW.pure (v := c_) rfl (by decide) (by decide) rfl (fun w => (Step.move rfl)) ?_
          refine TW.read (v := (Value.int .i64 (↑((cntJ (l.take k_)).length)))) rfl (by decide) (by decide) rfl (fun A w M => (Step.lenSl Try.un121 rfl (own_slAt (M.chunk 1 rfl).inv))) ?_
          refine TW.pure (v := (Value.bool false)) rfl (by decide) (by decide) rfl (fun w => (Step.cast (congrArg Value.bool h17) (Step.pure (by kernel_rfl)))) ?_
          refine TW.pure (v := (Value.bool false)) rfl (by decide) (by decide) rfl (fun w => (Step.move rfl)) ?_
          refine TW.pure (v := v) rfl (by decide) (by decide) rfl (fun w => (Step.move rfl)) ?_
          refine TW.pure (v := (Value.int .i64 ↑k_)) rfl (by decide) (by decide) rfl (fun w => (Step.move rfl)) ?_
          refine TW.pure (v := (Value.pointer (some ⟨(sBlk v), sOff v + k_ * 4, none⟩))) rfl (by decide) (by decide) rfl (fun w => (Step.indexAddr (i := k_) (Try.un186).run Try.el45.sized rfl rfl (by omega) hb13 (by omega))) ?_
          refine TW.pure (v := (Value.pointer (some ⟨(sBlk v), sOff v + k_ * 4 + 3, none⟩))) rfl (by decide) (by decide) rfl (fun w => (Step.pure (by kernel_rfl))) ?_
          refine TW.read (v := (Value.int .i64 x15.max)) rfl (by decide) (by decide) rfl (fun A w M => (Step.loadE (k := 3) Try.sc2 (flat_ec (M.rep 0 rfl) hx15 aggE_len) (by decide) rfl rfl)) ?_
          refine TW.pure (v := (Value.pointer (some ⟨b5, 3, none⟩))) rfl (by decide) (by decide) rfl (fun w => (Step.pure (by kernel_rfl))) ?_
          refine TW.read (v := (Value.int .i64 (maxJ (l.take k_)))) rfl (by decide) (by decide) rfl (fun A w M => (Step.load1 Try.sc2 rfl ((M.cell 3 rfl 3).trans rfl))) ?_
          refine TW.pure (v := (Value.bool (decide ((x15.max : Int) > (maxJ (l.take k_) : Int))))) rfl (by decide) (by decide) rfl (fun w => (Step.pure (by kernel_rfl))) ?_
          refine TW.pure (v := (Value.bool (decide ((x15.max : Int) > (maxJ (l.take k_) : Int))))) rfl (by decide) (by decide) rfl (fun w => (Step.pick (t := false) rfl rfl)) ?_
          refine TW.done (fun w35 M => ?_)
          refine W.cond (t := decide ((x15.max : Int) > (maxJ (l.take k_) : Int))) rfl (fun h36 => ?_) (fun h36 => ?_)
          ·
            have h36p := of_decide_eq_true h36
            refine W.region rfl ?_
            refine WL.step (v := v) rfl (Step.move rfl) ?_
            refine WL.step (v := (Value.int .i64 ↑k_)) rfl (Step.move rfl) ?_
            refine WL.step (v := (Value.pointer (some ⟨(sBlk v), sOff v + k_ * 4, none⟩))) rfl (Step.indexAddr (i := k_) (Try.un186).run Try.el45.sized rfl rfl (by omega) hb13 (by omega)) ?_
            refine WL.step (v := (Value.pointer (some ⟨(sBlk v), sOff v + k_ * 4 + 3, none⟩))) rfl (Step.pure (by kernel_rfl)) ?_
            refine WL.step (v := (Value.int .i64 x15.max)) rfl (Step.loadE (k := 3) Try.sc2 (flat_ec (M.rep 0 rfl) hx15 aggE_len) (by decide) rfl rfl) ?_
            refine WL.step (v := (Value.pointer (some ⟨b5, 3, none⟩))) rfl (Step.pure (by kernel_rfl)) ?_
            refine WL.store (v := (Value.int .i64 x15.max)) (cs := [(Value.int .i64 x15.max)]) (c' := #[(Value.int .i64 0), (Value.int .i64 0), (Value.int .i64 x15.min), (Value.int .i64 x15.max)]) M 2 rfl rfl Try.el2.sized rfl rfl rfl rfl (Nat.le_of_ble_eq_true rfl) (cel_cons rfl cel_nil) rfl rfl (fun w37 M => ?_)
            refine WL.nil ?_
            refine W.seq' ?_
            refine W.region rfl ?_
            refine WL.step (v := c_) rfl (Step.move rfl) ?_
            refine WL.step (v := v) rfl (Step.move rfl) ?_
            refine WL.step (v := (Value.int .i64 ↑k_)) rfl (Step.move rfl) ?_
            refine WL.step (v := (Value.pointer (some ⟨(sBlk v), sOff v + k_ * 4, none⟩))) rfl (Step.indexAddr (i := k_) (Try.un186).run Try.el45.sized rfl rfl (by omega) hb13 (by omega)) ?_
            refine WL.step (v := (Value.pointer (some ⟨(sBlk v), sOff v + k_ * 4, none⟩))) rfl (Step.pure (by kernel_rfl)) ?_
            refine WL.step (v := (Value.int .i64 x15.count)) rfl (Step.loadE (k := 0) Try.sc2 (flat_ec (M.rep 0 rfl) hx15 aggE_len) (by decide) rfl rfl) ?_
            refine WL.new (obj := .cells #[(Value.int .i64 x15.count)] 2) (fun b => .slice (some ⟨b, 0, none⟩) 1 1) M rfl (fun w => Step.make (by kernel_rfl)) (fun b38 w39 hb38 M => ?_)
            refine WL.does rfl (M.appendF (cntJ (l.take k_)) ([x15.count] : List Int) (sv := (Value.slice (some ⟨b38, 0, none⟩) 1 1)) 1 Try.un121 Try.el2 rfl (by decide) rfl rfl rfl (SlAt.of_blk (M.blk 0 rfl) rfl (by decide)) intE_cel (by have := hj5_; simp only [maxLen, List.length_nil, List.length_cons, List.length_append]; omega) (by have := hj5_; (try simp only [List.length_nil, List.length_cons, List.length_append]); omega)) ?_
            rintro v40 w41 M
            replace M : Mem _ _ _ [blk b38 (.cells #[(Value.int .i64 x15.count)] 2), own 2 1 v40 (((cntJ (l.take k_)) ++ ([x15.count] : List Int)).length) (((cntJ (l.take k_)) ++ ([x15.count] : List Int)).flatMap intE), own 2 1 s_ ((sumJ (l.take k_)).length) ((sumJ (l.take k_)).flatMap intE), blk b5 (.cells #[(Value.int .i64 0), (Value.int .i64 0), (Value.int .i64 x15.min), (Value.int .i64 x15.max)] 45), blk b3 (.cells #[(Value.int .i64 0), (Value.int .i64 0), (Value.int .i64 0), (Value.int .i64 0)] 45)] [SlAt 4 v l.length (l.flatMap aggE)] _ := M
            have sl42 : IsSl v40 := SlAt.isSl (own_slAt (M.chunk 1 rfl).inv)
            refine WL.step (v := v40) rfl (Step.assign rfl) ?_
            refine WL.nil ?_
            refine W.region rfl ?_
            refine WL.step (v := s_) rfl (Step.move rfl) ?_
            refine WL.step (v := v) rfl (Step.move rfl) ?_
            refine WL.step (v := (Value.int .i64 ↑k_)) rfl (Step.move rfl) ?_
            refine WL.step (v := (Value.pointer (some ⟨(sBlk v), sOff v + k_ * 4, none⟩))) rfl (Step.indexAddr (i := k_) (Try.un186).run Try.el45.sized rfl rfl (by omega) hb13 (by omega)) ?_
            refine WL.step (v := (Value.pointer (some ⟨(sBlk v), sOff v + k_ * 4 + 1, none⟩))) rfl (Step.pure (by kernel_rfl)) ?_
            refine WL.step (v := (Value.int .i64 x15.sum)) rfl (Step.loadE (k := 1) Try.sc2 (flat_ec (M.rep 0 rfl) hx15 aggE_len) (by decide) rfl rfl) ?_
            refine WL.new (obj := .cells #[(Value.int .i64 x15.sum)] 2) (fun b => .slice (some ⟨b, 0, none⟩) 1 1) M rfl (fun w => Step.make (by kernel_rfl)) (fun b43 w44 hb43 M => ?_)
            refine WL.does rfl (M.appendF (sumJ (l.take k_)) ([x15.sum] : List Int) (sv := (Value.slice (some ⟨b43, 0, none⟩) 1 1)) 3 Try.un121 Try.el2 rfl (by decide) rfl rfl rfl (SlAt.of_blk (M.blk 0 rfl) rfl (by decide)) intE_cel (by have := hj5_; simp only [maxLen, List.length_nil, List.length_cons, List.length_append]; omega) (by have := hj5_; (try simp only [List.length_nil, List.length_cons, List.length_append]); omega)) ?_
            rintro v45 w46 M
            replace M : Mem _ _ _ [blk b43 (.cells #[(Value.int .i64 x15.sum)] 2), blk b38 (.cells #[(Value.int .i64 x15.count)] 2), own 2 1 v40 (((cntJ (l.take k_)) ++ ([x15.count] : List Int)).length) (((cntJ (l.take k_)) ++ ([x15.count] : List Int)).flatMap intE), own 2 1 v45 (((sumJ (l.take k_)) ++ ([x15.sum] : List Int)).length) (((sumJ (l.take k_)) ++ ([x15.sum] : List Int)).flatMap intE), blk b5 (.cells #[(Value.int .i64 0), (Value.int .i64 0), (Value.int .i64 x15.min), (Value.int .i64 x15.max)] 45), blk b3 (.cells #[(Value.int .i64 0), (Value.int .i64 0), (Value.int .i64 0), (Value.int .i64 0)] 45)] [SlAt 4 v l.length (l.flatMap aggE)] _ := M
            have sl47 : IsSl v45 := SlAt.isSl (own_slAt (M.chunk 3 rfl).inv)
            refine WL.step (v := v45) rfl (Step.assign rfl) ?_
            refine WL.nil ?_
            refine W.region rfl ?_
            refine WL.step (v := (Value.int .i64 ↑k_)) rfl (Step.move rfl) ?_
            refine WL.step (v := (Value.int .i64 (↑k_ + 1))) rfl (Step.add rfl rfl (wrap_i64 (by omega))) ?_
            refine WL.step (v := (Value.int .i64 (↑k_ + 1))) rfl (Step.assign rfl) ?_
            refine WL.nil ?_
            replace M := M.rechunk 2 (c' := own 2 1 v40 ((cntJ (l.take (k_ + 1))).length) ((cntJ (l.take (k_ + 1))).flatMap intE)) rfl (by rw [cntJ_hit hx15 (by simpa [aggZ] using h16)])
            replace M : Mem _ _ _ [blk b43 (.cells #[(Value.int .i64 x15.sum)] 2), blk b38 (.cells #[(Value.int .i64 x15.count)] 2), own 2 1 v40 ((cntJ (l.take (k_ + 1))).length) ((cntJ (l.take (k_ + 1))).flatMap intE), own 2 1 v45 (((sumJ (l.take k_)) ++ ([x15.sum] : List Int)).length) (((sumJ (l.take k_)) ++ ([x15.sum] : List Int)).flatMap intE), blk b5 (.cells #[(Value.int .i64 0), (Value.int .i64 0), (Value.int .i64 x15.min), (Value.int .i64 x15.max)] 45), blk b3 (.cells #[(Value.int .i64 0), (Value.int .i64 0), (Value.int .i64 0), (Value.int .i64 0)] 45)] [SlAt 4 v l.length (l.flatMap aggE)] _ := M
            replace M := M.rechunk 3 (c' := own 2 1 v45 ((sumJ (l.take (k_ + 1))).length) ((sumJ (l.take (k_ + 1))).flatMap intE)) rfl (by rw [sumJ_hit hx15 (by simpa [aggZ] using h16)])
            replace M : Mem _ _ _ [blk b43 (.cells #[(Value.int .i64 x15.sum)] 2), blk b38 (.cells #[(Value.int .i64 x15.count)] 2), own 2 1 v40 ((cntJ (l.take (k_ + 1))).length) ((cntJ (l.take (k_ + 1))).flatMap intE), own 2 1 v45 ((sumJ (l.take (k_ + 1))).length) ((sumJ (l.take (k_ + 1))).flatMap intE), blk b5 (.cells #[(Value.int .i64 0), (Value.int .i64 0), (Value.int .i64 x15.min), (Value.int .i64 x15.max)] 45), blk b3 (.cells #[(Value.int .i64 0), (Value.int .i64 0), (Value.int .i64 0), (Value.int .i64 0)] 45)] [SlAt 4 v l.length (l.flatMap aggE)] _ := M
            have hminJ_ : minJ (l.take (k_ + 1)) = (x15.min : Int) := by rw [minJ_hit hx15 (by simpa [aggZ] using h16)]; (repeat split) <;> omega
            have hmaxJ_ : maxJ (l.take (k_ + 1)) = (x15.max : Int) := by rw [maxJ_hit hx15 (by simpa [aggZ] using h16)]; (repeat split) <;> omega
            replace M := M.rechunk 4 (c' := blk b5 (.cells #[(Value.int .i64 0), (Value.int .i64 0), (Value.int .i64 (minJ (l.take (k_ + 1)))), (Value.int .i64 (maxJ (l.take (k_ + 1))))] 45)) rfl (by rw [hminJ_, hmaxJ_])
            replace M : Mem _ _ _ [blk b43 (.cells #[(Value.int .i64 x15.sum)] 2), blk b38 (.cells #[(Value.int .i64 x15.count)] 2), own 2 1 v40 ((cntJ (l.take (k_ + 1))).length) ((cntJ (l.take (k_ + 1))).flatMap intE), own 2 1 v45 ((sumJ (l.take (k_ + 1))).length) ((sumJ (l.take (k_ + 1))).flatMap intE), blk b5 (.cells #[(Value.int .i64 0), (Value.int .i64 0), (Value.int .i64 (minJ (l.take (k_ + 1)))), (Value.int .i64 (maxJ (l.take (k_ + 1))))] 45), blk b3 (.cells #[(Value.int .i64 0), (Value.int .i64 0), (Value.int .i64 0), (Value.int .i64 0)] 45)] [SlAt 4 v l.length (l.flatMap aggE)] _ := M
            replace M := M.sel (L' := [own 2 1 v40 ((cntJ (l.take (k_ + 1))).length) ((cntJ (l.take (k_ + 1))).flatMap intE), own 2 1 v45 ((sumJ (l.take (k_ + 1))).length) ((sumJ (l.take (k_ + 1))).flatMap intE), blk b5 (.cells #[(Value.int .i64 0), (Value.int .i64 0), (Value.int .i64 (minJ (l.take (k_ + 1)))), (Value.int .i64 (maxJ (l.take (k_ + 1))))] 45), blk b3 (.cells #[(Value.int .i64 0), (Value.int .i64 0), (Value.int .i64 0), (Value.int .i64 0)] 45)]) [2, 3, 4, 5] rfl (by decide)
            exact ⟨_, (by omega), k_ + 1, _, _, ⟨(by omega), rfl⟩, ⟨rfl, rfl, rfl, rfl, rfl, rfl, rfl, rfl, rfl⟩, M⟩
          ·
            have h36p := of_decide_eq_false h36
            refine W.skip ?_
            refine W.seq' ?_
            refine W.region rfl ?_
            refine WL.step (v := c_) rfl (Step.move rfl) ?_
            refine WL.step (v := v) rfl (Step.move rfl) ?_
            refine WL.step (v := (Value.int .i64 ↑k_)) rfl (Step.move rfl) ?_
            refine WL.step (v := (Value.pointer (some ⟨(sBlk v), sOff v + k_ * 4, none⟩))) rfl (Step.indexAddr (i := k_) (Try.un186).run Try.el45.sized rfl rfl (by omega) hb13 (by omega)) ?_
            refine WL.step (v := (Value.pointer (some ⟨(sBlk v), sOff v + k_ * 4, none⟩))) rfl (Step.pure (by kernel_rfl)) ?_
            refine WL.step (v := (Value.int .i64 x15.count)) rfl (Step.loadE (k := 0) Try.sc2 (flat_ec (M.rep 0 rfl) hx15 aggE_len) (by decide) rfl rfl) ?_
            refine WL.new (obj := .cells #[(Value.int .i64 x15.count)] 2) (fun b => .slice (some ⟨b, 0, none⟩) 1 1) M rfl (fun w => Step.make (by kernel_rfl)) (fun b48 w49 hb48 M => ?_)
            refine WL.does rfl (M.appendF (cntJ (l.take k_)) ([x15.count] : List Int) (sv := (Value.slice (some ⟨b48, 0, none⟩) 1 1)) 1 Try.un121 Try.el2 rfl (by decide) rfl rfl rfl (SlAt.of_blk (M.blk 0 rfl) rfl (by decide)) intE_cel (by have := hj5_; simp only [maxLen, List.length_nil, List.length_cons, List.length_append]; omega) (by have := hj5_; (try simp only [List.length_nil, List.length_cons, List.length_append]); omega)) ?_
            rintro v50 w51 M
            replace M : Mem _ _ _ [blk b48 (.cells #[(Value.int .i64 x15.count)] 2), own 2 1 v50 (((cntJ (l.take k_)) ++ ([x15.count] : List Int)).length) (((cntJ (l.take k_)) ++ ([x15.count] : List Int)).flatMap intE), own 2 1 s_ ((sumJ (l.take k_)).length) ((sumJ (l.take k_)).flatMap intE), blk b5 (.cells #[(Value.int .i64 0), (Value.int .i64 0), (Value.int .i64 x15.min), (Value.int .i64 (maxJ (l.take k_)))] 45), blk b3 (.cells #[(Value.int .i64 0), (Value.int .i64 0), (Value.int .i64 0), (Value.int .i64 0)] 45)] [SlAt 4 v l.length (l.flatMap aggE)] _ := M
            have sl52 : IsSl v50 := SlAt.isSl (own_slAt (M.chunk 1 rfl).inv)
            refine WL.step (v := v50) rfl (Step.assign rfl) ?_
            refine WL.nil ?_
            refine W.region rfl ?_
            refine WL.step (v := s_) rfl (Step.move rfl) ?_
            refine WL.step (v := v) rfl (Step.move rfl) ?_
            refine WL.step (v := (Value.int .i64 ↑k_)) rfl (Step.move rfl) ?_
            refine WL.step (v := (Value.pointer (some ⟨(sBlk v), sOff v + k_ * 4, none⟩))) rfl (Step.indexAddr (i := k_) (Try.un186).run Try.el45.sized rfl rfl (by omega) hb13 (by omega)) ?_
            refine WL.step (v := (Value.pointer (some ⟨(sBlk v), sOff v + k_ * 4 + 1, none⟩))) rfl (Step.pure (by kernel_rfl)) ?_
            refine WL.step (v := (Value.int .i64 x15.sum)) rfl (Step.loadE (k := 1) Try.sc2 (flat_ec (M.rep 0 rfl) hx15 aggE_len) (by decide) rfl rfl) ?_
            refine WL.new (obj := .cells #[(Value.int .i64 x15.sum)] 2) (fun b => .slice (some ⟨b, 0, none⟩) 1 1) M rfl (fun w => Step.make (by kernel_rfl)) (fun b53 w54 hb53 M => ?_)
            refine WL.does rfl (M.appendF (sumJ (l.take k_)) ([x15.sum] : List Int) (sv := (Value.slice (some ⟨b53, 0, none⟩) 1 1)) 3 Try.un121 Try.el2 rfl (by decide) rfl rfl rfl (SlAt.of_blk (M.blk 0 rfl) rfl (by decide)) intE_cel (by have := hj5_; simp only [maxLen, List.length_nil, List.length_cons, List.length_append]; omega) (by have := hj5_; (try simp only [List.length_nil, List.length_cons, List.length_append]); omega)) ?_
            rintro v55 w56 M
            replace M : Mem _ _ _ [blk b53 (.cells #[(Value.int .i64 x15.sum)] 2), blk b48 (.cells #[(Value.int .i64 x15.count)] 2), own 2 1 v50 (((cntJ (l.take k_)) ++ ([x15.count] : List Int)).length) (((cntJ (l.take k_)) ++ ([x15.count] : List Int)).flatMap intE), own 2 1 v55 (((sumJ (l.take k_)) ++ ([x15.sum] : List Int)).length) (((sumJ (l.take k_)) ++ ([x15.sum] : List Int)).flatMap intE), blk b5 (.cells #[(Value.int .i64 0), (Value.int .i64 0), (Value.int .i64 x15.min), (Value.int .i64 (maxJ (l.take k_)))] 45), blk b3 (.cells #[(Value.int .i64 0), (Value.int .i64 0), (Value.int .i64 0), (Value.int .i64 0)] 45)] [SlAt 4 v l.length (l.flatMap aggE)] _ := M
            have sl57 : IsSl v55 := SlAt.isSl (own_slAt (M.chunk 3 rfl).inv)
            refine WL.step (v := v55) rfl (Step.assign rfl) ?_
            refine WL.nil ?_
            refine W.region rfl ?_
            refine WL.step (v := (Value.int .i64 ↑k_)) rfl (Step.move rfl) ?_
            refine WL.step (v := (Value.int .i64 (↑k_ + 1))) rfl (Step.add rfl rfl (wrap_i64 (by omega))) ?_
            refine WL.step (v := (Value.int .i64 (↑k_ + 1))) rfl (Step.assign rfl) ?_
            refine WL.nil ?_
            replace M := M.rechunk 2 (c' := own 2 1 v50 ((cntJ (l.take (k_ + 1))).length) ((cntJ (l.take (k_ + 1))).flatMap intE)) rfl (by rw [cntJ_hit hx15 (by simpa [aggZ] using h16)])
            replace M : Mem _ _ _ [blk b53 (.cells #[(Value.int .i64 x15.sum)] 2), blk b48 (.cells #[(Value.int .i64 x15.count)] 2), own 2 1 v50 ((cntJ (l.take (k_ + 1))).length) ((cntJ (l.take (k_ + 1))).flatMap intE), own 2 1 v55 (((sumJ (l.take k_)) ++ ([x15.sum] : List Int)).length) (((sumJ (l.take k_)) ++ ([x15.sum] : List Int)).flatMap intE), blk b5 (.cells #[(Value.int .i64 0), (Value.int .i64 0), (Value.int .i64 x15.min), (Value.int .i64 (maxJ (l.take k_)))] 45), blk b3 (.cells #[(Value.int .i64 0), (Value.int .i64 0), (Value.int .i64 0), (Value.int .i64 0)] 45)] [SlAt 4 v l.length (l.flatMap aggE)] _ := M
            replace M := M.rechunk 3 (c' := own 2 1 v55 ((sumJ (l.take (k_ + 1))).length) ((sumJ (l.take (k_ + 1))).flatMap intE)) rfl (by rw [sumJ_hit hx15 (by simpa [aggZ] using h16)])
            replace M : Mem _ _ _ [blk b53 (.cells #[(Value.int .i64 x15.sum)] 2), blk b48 (.cells #[(Value.int .i64 x15.count)] 2), own 2 1 v50 ((cntJ (l.take (k_ + 1))).length) ((cntJ (l.take (k_ + 1))).flatMap intE), own 2 1 v55 ((sumJ (l.take (k_ + 1))).length) ((sumJ (l.take (k_ + 1))).flatMap intE), blk b5 (.cells #[(Value.int .i64 0), (Value.int .i64 0), (Value.int .i64 x15.min), (Value.int .i64 (maxJ (l.take k_)))] 45), blk b3 (.cells #[(Value.int .i64 0), (Value.int .i64 0), (Value.int .i64 0), (Value.int .i64 0)] 45)] [SlAt 4 v l.length (l.flatMap aggE)] _ := M
            have hminJ_ : minJ (l.take (k_ + 1)) = (x15.min : Int) := by rw [minJ_hit hx15 (by simpa [aggZ] using h16)]; (repeat split) <;> omega
            have hmaxJ_ : maxJ (l.take (k_ + 1)) = (maxJ (l.take k_) : Int) := by rw [maxJ_hit hx15 (by simpa [aggZ] using h16)]; (repeat split) <;> omega
            replace M := M.rechunk 4 (c' := blk b5 (.cells #[(Value.int .i64 0), (Value.int .i64 0), (Value.int .i64 (minJ (l.take (k_ + 1)))), (Value.int .i64 (maxJ (l.take (k_ + 1))))] 45)) rfl (by rw [hminJ_, hmaxJ_])
            replace M : Mem _ _ _ [blk b53 (.cells #[(Value.int .i64 x15.sum)] 2), blk b48 (.cells #[(Value.int .i64 x15.count)] 2), own 2 1 v50 ((cntJ (l.take (k_ + 1))).length) ((cntJ (l.take (k_ + 1))).flatMap intE), own 2 1 v55 ((sumJ (l.take (k_ + 1))).length) ((sumJ (l.take (k_ + 1))).flatMap intE), blk b5 (.cells #[(Value.int .i64 0), (Value.int .i64 0), (Value.int .i64 (minJ (l.take (k_ + 1)))), (Value.int .i64 (maxJ (l.take (k_ + 1))))] 45), blk b3 (.cells #[(Value.int .i64 0), (Value.int .i64 0), (Value.int .i64 0), (Value.int .i64 0)] 45)] [SlAt 4 v l.length (l.flatMap aggE)] _ := M
            replace M := M.sel (L' := [own 2 1 v50 ((cntJ (l.take (k_ + 1))).length) ((cntJ (l.take (k_ + 1))).flatMap intE), own 2 1 v55 ((sumJ (l.take (k_ + 1))).length) ((sumJ (l.take (k_ + 1))).flatMap intE), blk b5 (.cells #[(Value.int .i64 0), (Value.int .i64 0), (Value.int .i64 (minJ (l.take (k_ + 1)))), (Value.int .i64 (maxJ (l.take (k_ + 1))))] 45), blk b3 (.cells #[(Value.int .i64 0), (Value.int .i64 0), (Value.int .i64 0), (Value.int .i64 0)] 45)]) [2, 3, 4, 5] rfl (by decide)
            exact ⟨_, (by omega), k_ + 1, _, _, ⟨(by omega), rfl⟩, ⟨rfl, rfl, rfl, rfl, rfl, rfl, rfl, rfl, rfl⟩, M⟩
        ·
          have h33p := of_decide_eq_false h33
          refine W.skip ?_
          refine W.seq' ?_
          refine W.seq' ?_
          refine W.drawn M [0, 1, 2, 3, 4, 5, 6, 7, 8, 9, 10, 11, 12] [] [] [own 2 1 c_ ((cntJ (l.take k_)).length) ((cntJ (l.take k_)).flatMap intE), own 2 1 s_ ((sumJ (l.take k_)).length) ((sumJ (l.take k_)).flatMap intE), blk b5 (.cells #[(Value.int .i64 0), (Value.int .i64 0), (Value.int .i64 (minJ (l.take k_))), (Value.int .i64 (maxJ (l.take k_)))] 45), blk b3 (.cells #[(Value.int .i64 0), (Value.int .i64 0), (Value.int .i64 0), (Value.int .i64 0)] 45)] [SlAt 4 v l.length (l.flatMap aggE)] (List.Sublist.cons_cons _ (List.Sublist.cons_cons _ (List.Sublist.cons_cons _ (List.Sublist.cons_cons _ List.Sublist.slnil)))) (fun _ h => h) Try.mixed (by kernel_rfl) ?_
          refine TW.pure (v := c_) rfl (by decide) (by decide) rfl (fun w => (Step.move rfl)) ?_
          refine TW.read (v := (Value.int .i64 (↑((cntJ (l.take k_)).length)))) rfl (by decide) (by decide) rfl (fun A w M => (Step.lenSl Try.un121 rfl (own_slAt (M.chunk 1 rfl).inv))) ?_
          refine TW.pure (v := (Value.bool false)) rfl (by decide) (by decide) rfl (fun w => (Step.cast (congrArg Value.bool h17) (Step.pure (by kernel_rfl)))) ?_
          refine TW.pure (v := (Value.bool false)) rfl (by decide) (by decide) rfl (fun w => (Step.move rfl)) ?_
          refine TW.pure (v := v) rfl (by decide) (by decide) rfl (fun w => (Step.move rfl)) ?_
          refine TW.pure (v := (Value.int .i64 ↑k_)) rfl (by decide) (by decide) rfl (fun w => (Step.move rfl)) ?_
          refine TW.pure (v := (Value.pointer (some ⟨(sBlk v), sOff v + k_ * 4, none⟩))) rfl (by decide) (by decide) rfl (fun w => (Step.indexAddr (i := k_) (Try.un186).run Try.el45.sized rfl rfl (by omega) hb13 (by omega))) ?_
          refine TW.pure (v := (Value.pointer (some ⟨(sBlk v), sOff v + k_ * 4 + 3, none⟩))) rfl (by decide) (by decide) rfl (fun w => (Step.pure (by kernel_rfl))) ?_
          refine TW.read (v := (Value.int .i64 x15.max)) rfl (by decide) (by decide) rfl (fun A w M => (Step.loadE (k := 3) Try.sc2 (flat_ec (M.rep 0 rfl) hx15 aggE_len) (by decide) rfl rfl)) ?_
          refine TW.pure (v := (Value.pointer (some ⟨b5, 3, none⟩))) rfl (by decide) (by decide) rfl (fun w => (Step.pure (by kernel_rfl))) ?_
          refine TW.read (v := (Value.int .i64 (maxJ (l.take k_)))) rfl (by decide) (by decide) rfl (fun A w M => (Step.load1 Try.sc2 rfl ((M.cell 3 rfl 3).trans rfl))) ?_
          refine TW.pure (v := (Value.bool (decide ((x15.max : Int) > (maxJ (l.take k_) : Int))))) rfl (by decide) (by decide) rfl (fun w => (Step.pure (by kernel_rfl))) ?_
          refine TW.pure (v := (Value.bool (decide ((x15.max : Int) > (maxJ (l.take k_) : Int))))) rfl (by decide) (by decide) rfl (fun w => (Step.pick (t := false) rfl rfl)) ?_
          refine TW.done (fun w58 M => ?_)
          refine W.cond (t := decide ((x15.max : Int) > (maxJ (l.take k_) : Int))) rfl (fun h59 => ?_) (fun h59 => ?_)
          ·
            have h59p := of_decide_eq_true h59
            refine W.region rfl ?_
            refine WL.step (v := v) rfl (Step.move rfl) ?_
            refine WL.step (v := (Value.int .i64 ↑k_)) rfl (Step.move rfl) ?_
            refine WL.step (v := (Value.pointer (some ⟨(sBlk v), sOff v + k_ * 4, none⟩))) rfl (Step.indexAddr (i := k_) (Try.un186).run Try.el45.sized rfl rfl (by omega) hb13 (by omega)) ?_
            refine WL.step (v := (Value.pointer (some ⟨(sBlk v), sOff v + k_ * 4 + 3, none⟩))) rfl (Step.pure (by kernel_rfl)) ?_
            refine WL.step (v := (Value.int .i64 x15.max)) rfl (Step.loadE (k := 3) Try.sc2 (flat_ec (M.rep 0 rfl) hx15 aggE_len) (by decide) rfl rfl) ?_
            refine WL.step (v := (Value.pointer (some ⟨b5, 3, none⟩))) rfl (Step.pure (by kernel_rfl)) ?_
            refine WL.store (v := (Value.int .i64 x15.max)) (cs := [(Value.int .i64 x15.max)]) (c' := #[(Value.int .i64 0), (Value.int .i64 0), (Value.int .i64 (minJ (l.take k_))), (Value.int .i64 x15.max)]) M 2 rfl rfl Try.el2.sized rfl rfl rfl rfl (Nat.le_of_ble_eq_true rfl) (cel_cons rfl cel_nil) rfl rfl (fun w60 M => ?_)
            refine WL.nil ?_
            refine W.seq' ?_
            refine W.region rfl ?_
            refine WL.step (v := c_) rfl (Step.move rfl) ?_
            refine WL.step (v := v) rfl (Step.move rfl) ?_
            refine WL.step (v := (Value.int .i64 ↑k_)) rfl (Step.move rfl) ?_
            refine WL.step (v := (Value.pointer (some ⟨(sBlk v), sOff v + k_ * 4, none⟩))) rfl (Step.indexAddr (i := k_) (Try.un186).run Try.el45.sized rfl rfl (by omega) hb13 (by omega)) ?_
            refine WL.step (v := (Value.pointer (some ⟨(sBlk v), sOff v + k_ * 4, none⟩))) rfl (Step.pure (by kernel_rfl)) ?_
            refine WL.step (v := (Value.int .i64 x15.count)) rfl (Step.loadE (k := 0) Try.sc2 (flat_ec (M.rep 0 rfl) hx15 aggE_len) (by decide) rfl rfl) ?_
            refine WL.new (obj := .cells #[(Value.int .i64 x15.count)] 2) (fun b => .slice (some ⟨b, 0, none⟩) 1 1) M rfl (fun w => Step.make (by kernel_rfl)) (fun b61 w62 hb61 M => ?_)
            refine WL.does rfl (M.appendF (cntJ (l.take k_)) ([x15.count] : List Int) (sv := (Value.slice (some ⟨b61, 0, none⟩) 1 1)) 1 Try.un121 Try.el2 rfl (by decide) rfl rfl rfl (SlAt.of_blk (M.blk 0 rfl) rfl (by decide)) intE_cel (by have := hj5_; simp only [maxLen, List.length_nil, List.length_cons, List.length_append]; omega) (by have := hj5_; (try simp only [List.length_nil, List.length_cons, List.length_append]); omega)) ?_
            rintro v63 w64 M
            replace M : Mem _ _ _ [blk b61 (.cells #[(Value.int .i64 x15.count)] 2), own 2 1 v63 (((cntJ (l.take k_)) ++ ([x15.count] : List Int)).length) (((cntJ (l.take k_)) ++ ([x15.count] : List Int)).flatMap intE), own 2 1 s_ ((sumJ (l.take k_)).length) ((sumJ (l.take k_)).flatMap intE), blk b5 (.cells #[(Value.int .i64 0), (Value.int .i64 0), (Value.int .i64 (minJ (l.take k_))), (Value.int .i64 x15.max)] 45), blk b3 (.cells #[(Value.int .i64 0), (Value.int .i64 0), (Value.int .i64 0), (Value.int .i64 0)] 45)] [SlAt 4 v l.length (l.flatMap aggE)] _ := M
            have sl65 : IsSl v63 := SlAt.isSl (own_slAt (M.chunk 1 rfl).inv)
            refine WL.step (v := v63) rfl (Step.assign rfl) ?_
            refine WL.nil ?_
            refine W.region rfl ?_
            refine WL.step (v := s_) rfl (Step.move rfl) ?_
            refine WL.step (v := v) rfl (Step.move rfl) ?_
            refine WL.step (v := (Value.int .i64 ↑k_)) rfl (Step.move rfl) ?_
            refine WL.step (v := (Value.pointer (some ⟨(sBlk v), sOff v + k_ * 4, none⟩))) rfl (Step.indexAddr (i := k_) (Try.un186).run Try.el45.sized rfl rfl (by omega) hb13 (by omega)) ?_
            refine WL.step (v := (Value.pointer (some ⟨(sBlk v), sOff v + k_ * 4 + 1, none⟩))) rfl (Step.pure (by kernel_rfl)) ?_
            refine WL.step (v := (Value.int .i64 x15.sum)) rfl (Step.loadE (k := 1) Try.sc2 (flat_ec (M.rep 0 rfl) hx15 aggE_len) (by decide) rfl rfl) ?_
            refine WL.new (obj := .cells #[(Value.int .i64 x15.sum)] 2) (fun b => .slice (some ⟨b, 0, none⟩) 1 1) M rfl (fun w => Step.make (by kernel_rfl)) (fun b66 w67 hb66 M => ?_)
            refine WL.does rfl (M.appendF (sumJ (l.take k_)) ([x15.sum] : List Int) (sv := (Value.slice (some ⟨b66, 0, none⟩) 1 1)) 3 Try.un121 Try.el2 rfl (by decide) rfl rfl rfl (SlAt.of_blk (M.blk 0 rfl) rfl (by decide)) intE_cel (by have := hj5_; simp only [maxLen, List.length_nil, List.length_cons, List.length_append]; omega) (by have := hj5_; (try simp only [List.length_nil, List.length_cons, List.length_append]); omega)) ?_
            rintro v68 w69 M
            replace M : Mem _ _ _ [blk b66 (.cells #[(Value.int .i64 x15.sum)] 2), blk b61 (.cells #[(Value.int .i64 x15.count)] 2), own 2 1 v63 (((cntJ (l.take k_)) ++ ([x15.count] : List Int)).length) (((cntJ (l.take k_)) ++ ([x15.count] : List Int)).flatMap intE), own 2 1 v68 (((sumJ (l.take k_)) ++ ([x15.sum] : List Int)).length) (((sumJ (l.take k_)) ++ ([x15.sum] : List Int)).flatMap intE), blk b5 (.cells #[(Value.int .i64 0), (Value.int .i64 0), (Value.int .i64 (minJ (l.take k_))), (Value.int .i64 x15.max)] 45), blk b3 (.cells #[(Value.int .i64 0), (Value.int .i64 0), (Value.int .i64 0), (Value.int .i64 0)] 45)] [SlAt 4 v l.length (l.flatMap aggE)] _ := M
            have sl70 : IsSl v68 := SlAt.isSl (own_slAt (M.chunk 3 rfl).inv)
            refine WL.step (v := v68) rfl (Step.assign rfl) ?_
            refine WL.nil ?_
            refine W.region rfl ?_
            refine WL.step (v := (Value.int .i64 ↑k_)) rfl (Step.move rfl) ?_
            refine WL.step (v := (Value.int .i64 (↑k_ + 1))) rfl (Step.add rfl rfl (wrap_i64 (by omega))) ?_
            refine WL.step (v := (Value.int .i64 (↑k_ + 1))) rfl (Step.assign rfl) ?_
            refine WL.nil ?_
            replace M := M.rechunk 2 (c' := own 2 1 v63 ((cntJ (l.take (k_ + 1))).length) ((cntJ (l.take (k_ + 1))).flatMap intE)) rfl (by rw [cntJ_hit hx15 (by simpa [aggZ] using h16)])
            replace M : Mem _ _ _ [blk b66 (.cells #[(Value.int .i64 x15.sum)] 2), blk b61 (.cells #[(Value.int .i64 x15.count)] 2), own 2 1 v63 ((cntJ (l.take (k_ + 1))).length) ((cntJ (l.take (k_ + 1))).flatMap intE), own 2 1 v68 (((sumJ (l.take k_)) ++ ([x15.sum] : List Int)).length) (((sumJ (l.take k_)) ++ ([x15.sum] : List Int)).flatMap intE), blk b5 (.cells #[(Value.int .i64 0), (Value.int .i64 0), (Value.int .i64 (minJ (l.take k_))), (Value.int .i64 x15.max)] 45), blk b3 (.cells #[(Value.int .i64 0), (Value.int .i64 0), (Value.int .i64 0), (Value.int .i64 0)] 45)] [SlAt 4 v l.length (l.flatMap aggE)] _ := M
            replace M := M.rechunk 3 (c' := own 2 1 v68 ((sumJ (l.take (k_ + 1))).length) ((sumJ (l.take (k_ + 1))).flatMap intE)) rfl (by rw [sumJ_hit hx15 (by simpa [aggZ] using h16)])
            replace M : Mem _ _ _ [blk b66 (.cells #[(Value.int .i64 x15.sum)] 2), blk b61 (.cells #[(Value.int .i64 x15.count)] 2), own 2 1 v63 ((cntJ (l.take (k_ + 1))).length) ((cntJ (l.take (k_ + 1))).flatMap intE), own 2 1 v68 ((sumJ (l.take (k_ + 1))).length) ((sumJ (l.take (k_ + 1))).flatMap intE), blk b5 (.cells #[(Value.int .i64 0), (Value.int .i64 0), (Value.int .i64 (minJ (l.take k_))), (Value.int .i64 x15.max)] 45), blk b3 (.cells #[(Value.int .i64 0), (Value.int .i64 0), (Value.int .i64 0), (Value.int .i64 0)] 45)] [SlAt 4 v l.length (l.flatMap aggE)] _ := M
            have hminJ_ : minJ (l.take (k_ + 1)) = (minJ (l.take k_) : Int) := by rw [minJ_hit hx15 (by simpa [aggZ] using h16)]; (repeat split) <;> omega
            have hmaxJ_ : maxJ (l.take (k_ + 1)) = (x15.max : Int) := by rw [maxJ_hit hx15 (by simpa [aggZ] using h16)]; (repeat split) <;> omega
            replace M := M.rechunk 4 (c' := blk b5 (.cells #[(Value.int .i64 0), (Value.int .i64 0), (Value.int .i64 (minJ (l.take (k_ + 1)))), (Value.int .i64 (maxJ (l.take (k_ + 1))))] 45)) rfl (by rw [hminJ_, hmaxJ_])
            replace M : Mem _ _ _ [blk b66 (.cells #[(Value.int .i64 x15.sum)] 2), blk b61 (.cells #[(Value.int .i64 x15.count)] 2), own 2 1 v63 ((cntJ (l.take (k_ + 1))).length) ((cntJ (l.take (k_ + 1))).flatMap intE), own 2 1 v68 ((sumJ (l.take (k_ + 1))).length) ((sumJ (l.take (k_ + 1))).flatMap intE), blk b5 (.cells #[(Value.int .i64 0), (Value.int .i64 0), (Value.int .i64 (minJ (l.take (k_ + 1)))), (Value.int .i64 (maxJ (l.take (k_ + 1))))] 45), blk b3 (.cells #[(Value.int .i64 0), (Value.int .i64 0), (Value.int .i64 0), (Value.int .i64 0)] 45)] [SlAt 4 v l.length (l.flatMap aggE)] _ := M
            replace M := M.sel (L' := [own 2 1 v63 ((cntJ (l.take (k_ + 1))).length) ((cntJ (l.take (k_ + 1))).flatMap intE), own 2 1 v68 ((sumJ (l.take (k_ + 1))).length) ((sumJ (l.take (k_ + 1))).flatMap intE), blk b5 (.cells #[(Value.int .i64 0), (Value.int .i64 0), (Value.int .i64 (minJ (l.take (k_ + 1)))), (Value.int .i64 (maxJ (l.take (k_ + 1))))] 45), blk b3 (.cells #[(Value.int .i64 0), (Value.int .i64 0), (Value.int .i64 0), (Value.int .i64 0)] 45)]) [2, 3, 4, 5] rfl (by decide)
            exact ⟨_, (by omega), k_ + 1, _, _, ⟨(by omega), rfl⟩, ⟨rfl, rfl, rfl, rfl, rfl, rfl, rfl, rfl, rfl⟩, M⟩
          ·
            have h59p := of_decide_eq_false h59
            refine W.skip ?_
            refine W.seq' ?_
            refine W.region rfl ?_
            refine WL.step (v := c_) rfl (Step.move rfl) ?_
            refine WL.step (v := v) rfl (Step.move rfl) ?_
            refine WL.step (v := (Value.int .i64 ↑k_)) rfl (Step.move rfl) ?_
            refine WL.step (v := (Value.pointer (some ⟨(sBlk v), sOff v + k_ * 4, none⟩))) rfl (Step.indexAddr (i := k_) (Try.un186).run Try.el45.sized rfl rfl (by omega) hb13 (by omega)) ?_
            refine WL.step (v := (Value.pointer (some ⟨(sBlk v), sOff v + k_ * 4, none⟩))) rfl (Step.pure (by kernel_rfl)) ?_
            refine WL.step (v := (Value.int .i64 x15.count)) rfl (Step.loadE (k := 0) Try.sc2 (flat_ec (M.rep 0 rfl) hx15 aggE_len) (by decide) rfl rfl) ?_
            refine WL.new (obj := .cells #[(Value.int .i64 x15.count)] 2) (fun b => .slice (some ⟨b, 0, none⟩) 1 1) M rfl (fun w => Step.make (by kernel_rfl)) (fun b71 w72 hb71 M => ?_)
            refine WL.does rfl (M.appendF (cntJ (l.take k_)) ([x15.count] : List Int) (sv := (Value.slice (some ⟨b71, 0, none⟩) 1 1)) 1 Try.un121 Try.el2 rfl (by decide) rfl rfl rfl (SlAt.of_blk (M.blk 0 rfl) rfl (by decide)) intE_cel (by have := hj5_; simp only [maxLen, List.length_nil, List.length_cons, List.length_append]; omega) (by have := hj5_; (try simp only [List.length_nil, List.length_cons, List.length_append]); omega)) ?_
            rintro v73 w74 M
            replace M : Mem _ _ _ [blk b71 (.cells #[(Value.int .i64 x15.count)] 2), own 2 1 v73 (((cntJ (l.take k_)) ++ ([x15.count] : List Int)).length) (((cntJ (l.take k_)) ++ ([x15.count] : List Int)).flatMap intE), own 2 1 s_ ((sumJ (l.take k_)).length) ((sumJ (l.take k_)).flatMap intE), blk b5 (.cells #[(Value.int .i64 0), (Value.int .i64 0), (Value.int .i64 (minJ (l.take k_))), (Value.int .i64 (maxJ (l.take k_)))] 45), blk b3 (.cells #[(Value.int .i64 0), (Value.int .i64 0), (Value.int .i64 0), (Value.int .i64 0)] 45)] [SlAt 4 v l.length (l.flatMap aggE)] _ := M
            have sl75 : IsSl v73 := SlAt.isSl (own_slAt (M.chunk 1 rfl).inv)
            refine WL.step (v := v73) rfl (Step.assign rfl) ?_
            refine WL.nil ?_
            refine W.region rfl ?_
            refine WL.step (v := s_) rfl (Step.move rfl) ?_
            refine WL.step (v := v) rfl (Step.move rfl) ?_
            refine WL.step (v := (Value.int .i64 ↑k_)) rfl (Step.move rfl) ?_
            refine WL.step (v := (Value.pointer (some ⟨(sBlk v), sOff v + k_ * 4, none⟩))) rfl (Step.indexAddr (i := k_) (Try.un186).run Try.el45.sized rfl rfl (by omega) hb13 (by omega)) ?_
            refine WL.step (v := (Value.pointer (some ⟨(sBlk v), sOff v + k_ * 4 + 1, none⟩))) rfl (Step.pure (by kernel_rfl)) ?_
            refine WL.step (v := (Value.int .i64 x15.sum)) rfl (Step.loadE (k := 1) Try.sc2 (flat_ec (M.rep 0 rfl) hx15 aggE_len) (by decide) rfl rfl) ?_
            refine WL.new (obj := .cells #[(Value.int .i64 x15.sum)] 2) (fun b => .slice (some ⟨b, 0, none⟩) 1 1) M rfl (fun w => Step.make (by kernel_rfl)) (fun b76 w77 hb76 M => ?_)
            refine WL.does rfl (M.appendF (sumJ (l.take k_)) ([x15.sum] : List Int) (sv := (Value.slice (some ⟨b76, 0, none⟩) 1 1)) 3 Try.un121 Try.el2 rfl (by decide) rfl rfl rfl (SlAt.of_blk (M.blk 0 rfl) rfl (by decide)) intE_cel (by have := hj5_; simp only [maxLen, List.length_nil, List.length_cons, List.length_append]; omega) (by have := hj5_; (try simp only [List.length_nil, List.length_cons, List.length_append]); omega)) ?_
            rintro v78 w79 M
            replace M : Mem _ _ _ [blk b76 (.cells #[(Value.int .i64 x15.sum)] 2), blk b71 (.cells #[(Value.int .i64 x15.count)] 2), own 2 1 v73 (((cntJ (l.take k_)) ++ ([x15.count] : List Int)).length) (((cntJ (l.take k_)) ++ ([x15.count] : List Int)).flatMap intE), own 2 1 v78 (((sumJ (l.take k_)) ++ ([x15.sum] : List Int)).length) (((sumJ (l.take k_)) ++ ([x15.sum] : List Int)).flatMap intE), blk b5 (.cells #[(Value.int .i64 0), (Value.int .i64 0), (Value.int .i64 (minJ (l.take k_))), (Value.int .i64 (maxJ (l.take k_)))] 45), blk b3 (.cells #[(Value.int .i64 0), (Value.int .i64 0), (Value.int .i64 0), (Value.int .i64 0)] 45)] [SlAt 4 v l.length (l.flatMap aggE)] _ := M
            have sl80 : IsSl v78 := SlAt.isSl (own_slAt (M.chunk 3 rfl).inv)
            refine WL.step (v := v78) rfl (Step.assign rfl) ?_
            refine WL.nil ?_
            refine W.region rfl ?_
            refine WL.step (v := (Value.int .i64 ↑k_)) rfl (Step.move rfl) ?_
            refine WL.step (v := (Value.int .i64 (↑k_ + 1))) rfl (Step.add rfl rfl (wrap_i64 (by omega))) ?_
            refine WL.step (v := (Value.int .i64 (↑k_ + 1))) rfl (Step.assign rfl) ?_
            refine WL.nil ?_
            replace M := M.rechunk 2 (c' := own 2 1 v73 ((cntJ (l.take (k_ + 1))).length) ((cntJ (l.take (k_ + 1))).flatMap intE)) rfl (by rw [cntJ_hit hx15 (by simpa [aggZ] using h16)])
            replace M : Mem _ _ _ [blk b76 (.cells #[(Value.int .i64 x15.sum)] 2), blk b71 (.cells #[(Value.int .i64 x15.count)] 2), own 2 1 v73 ((cntJ (l.take (k_ + 1))).length) ((cntJ (l.take (k_ + 1))).flatMap intE), own 2 1 v78 (((sumJ (l.take k_)) ++ ([x15.sum] : List Int)).length) (((sumJ (l.take k_)) ++ ([x15.sum] : List Int)).flatMap intE), blk b5 (.cells #[(Value.int .i64 0), (Value.int .i64 0), (Value.int .i64 (minJ (l.take k_))), (Value.int .i64 (maxJ (l.take k_)))] 45), blk b3 (.cells #[(Value.int .i64 0), (Value.int .i64 0), (Value.int .i64 0), (Value.int .i64 0)] 45)] [SlAt 4 v l.length (l.flatMap aggE)] _ := M
            replace M := M.rechunk 3 (c' := own 2 1 v78 ((sumJ (l.take (k_ + 1))).length) ((sumJ (l.take (k_ + 1))).flatMap intE)) rfl (by rw [sumJ_hit hx15 (by simpa [aggZ] using h16)])
            replace M : Mem _ _ _ [blk b76 (.cells #[(Value.int .i64 x15.sum)] 2), blk b71 (.cells #[(Value.int .i64 x15.count)] 2), own 2 1 v73 ((cntJ (l.take (k_ + 1))).length) ((cntJ (l.take (k_ + 1))).flatMap intE), own 2 1 v78 ((sumJ (l.take (k_ + 1))).length) ((sumJ (l.take (k_ + 1))).flatMap intE), blk b5 (.cells #[(Value.int .i64 0), (Value.int .i64 0), (Value.int .i64 (minJ (l.take k_))), (Value.int .i64 (maxJ (l.take k_)))] 45), blk b3 (.cells #[(Value.int .i64 0), (Value.int .i64 0), (Value.int .i64 0), (Value.int .i64 0)] 45)] [SlAt 4 v l.length (l.flatMap aggE)] _ := M
            have hminJ_ : minJ (l.take (k_ + 1)) = (minJ (l.take k_) : Int) := by rw [minJ_hit hx15 (by simpa [aggZ] using h16)]; (repeat split) <;> omega
            have hmaxJ_ : maxJ (l.take (k_ + 1)) = (maxJ (l.take k_) : Int) := by rw [maxJ_hit hx15 (by simpa [aggZ] using h16)]; (repeat split) <;> omega
            replace M := M.rechunk 4 (c' := blk b5 (.cells #[(Value.int .i64 0), (Value.int .i64 0), (Value.int .i64 (minJ (l.take (k_ + 1)))), (Value.int .i64 (maxJ (l.take (k_ + 1))))] 45)) rfl (by rw [hminJ_, hmaxJ_])
            replace M : Mem _ _ _ [blk b76 (.cells #[(Value.int .i64 x15.sum)] 2), blk b71 (.cells #[(Value.int .i64 x15.count)] 2), own 2 1 v73 ((cntJ (l.take (k_ + 1))).length) ((cntJ (l.take (k_ + 1))).flatMap intE), own 2 1 v78 ((sumJ (l.take (k_ + 1))).length) ((sumJ (l.take (k_ + 1))).flatMap intE), blk b5 (.cells #[(Value.int .i64 0), (Value.int .i64 0), (Value.int .i64 (minJ (l.take (k_ + 1)))), (Value.int .i64 (maxJ (l.take (k_ + 1))))] 45), blk b3 (.cells #[(Value.int .i64 0), (Value.int .i64 0), (Value.int .i64 0), (Value.int .i64 0)] 45)] [SlAt 4 v l.length (l.flatMap aggE)] _ := M
            replace M := M.sel (L' := [own 2 1 v73 ((cntJ (l.take (k_ + 1))).length) ((cntJ (l.take (k_ + 1))).flatMap intE), own 2 1 v78 ((sumJ (l.take (k_ + 1))).length) ((sumJ (l.take (k_ + 1))).flatMap intE), blk b5 (.cells #[(Value.int .i64 0), (Value.int .i64 0), (Value.int .i64 (minJ (l.take (k_ + 1)))), (Value.int .i64 (maxJ (l.take (k_ + 1))))] 45), blk b3 (.cells #[(Value.int .i64 0), (Value.int .i64 0), (Value.int .i64 0), (Value.int .i64 0)] 45)]) [2, 3, 4, 5] rfl (by decide)
            exact ⟨_, (by omega), k_ + 1, _, _, ⟨(by omega), rfl⟩, ⟨rfl, rfl, rfl, rfl, rfl, rfl, rfl, rfl, rfl⟩, M⟩
  ·
    have h12p := of_decide_eq_false h12
    refine W.exit ?_
    refine thn_exit ?_
    refine thn_exit ?_
    refine inBlk_hit ?_
    refine W.seq' ?_
    refine W.region rfl ?_
    refine WL.step (v := c_) rfl (Step.move rfl) ?_
    refine WL.callX rfl (w_sum c_ (cntJ (l.take k_)) (by first | omega | assumption | decide | (simp only [List.length_nil, List.length_cons, List.length_take, List.length_drop]; omega)) (by first | assumption | decide) (M.enterW0 ⟨((M.wideC0 0 rfl).imp fun _ h => own_slAt h), trivial⟩)) (CallsF.func Try.en135 rfl) ?_
    rintro _ w81 ⟨rfl, m⟩
    replace M := M.leaveW0 m
    clear m
    replace M : Mem _ _ _ [own 2 1 c_ ((cntJ (l.take k_)).length) ((cntJ (l.take k_)).flatMap intE), own 2 1 s_ ((sumJ (l.take k_)).length) ((sumJ (l.take k_)).flatMap intE), blk b5 (.cells #[(Value.int .i64 0), (Value.int .i64 0), (Value.int .i64 (minJ (l.take k_))), (Value.int .i64 (maxJ (l.take k_)))] 45), blk b3 (.cells #[(Value.int .i64 0), (Value.int .i64 0), (Value.int .i64 0), (Value.int .i64 0)] 45)] [SlAt 4 v l.length (l.flatMap aggE)] _ := M
    refine WL.step (v := (Value.tuple #[(Value.int .i64 ((sumV (cntJ (l.take k_))).1)), (Value.int .i64 ((sumV (cntJ (l.take k_))).2))])) rfl (Step.move rfl) ?_
    refine WL.step (v := (Value.int .i64 ((sumV (cntJ (l.take k_))).1))) rfl (Step.pure (by kernel_rfl)) ?_
    refine WL.step (v := (Value.int .i64 ((sumV (cntJ (l.take k_))).2))) rfl (Step.pure (by kernel_rfl)) ?_
    refine WL.step (v := (Value.int .i64 ((sumV (cntJ (l.take k_))).1))) rfl (Step.assign rfl) ?_
    refine WL.step (v := (Value.int .i64 ((sumV (cntJ (l.take k_))).2))) rfl (Step.assign rfl) ?_
    refine WL.nil ?_
    refine W.seq' ?_
    refine W.region rfl ?_
    refine WL.step (v := s_) rfl (Step.move rfl) ?_
    refine WL.callX rfl (w_sum s_ (sumJ (l.take k_)) (by first | omega | assumption | decide | (simp only [List.length_nil, List.length_cons, List.length_take, List.length_drop]; omega)) (by first | assumption | decide) (M.enterW0 ⟨((M.wideC0 1 rfl).imp fun _ h => own_slAt h), trivial⟩)) (CallsF.func Try.en135 rfl) ?_
    rintro _ w82 ⟨rfl, m⟩
    replace M := M.leaveW0 m
    clear m
    replace M : Mem _ _ _ [own 2 1 c_ ((cntJ (l.take k_)).length) ((cntJ (l.take k_)).flatMap intE), own 2 1 s_ ((sumJ (l.take k_)).length) ((sumJ (l.take k_)).flatMap intE), blk b5 (.cells #[(Value.int .i64 0), (Value.int .i64 0), (Value.int .i64 (minJ (l.take k_))), (Value.int .i64 (maxJ (l.take k_)))] 45), blk b3 (.cells #[(Value.int .i64 0), (Value.int .i64 0), (Value.int .i64 0), (Value.int .i64 0)] 45)] [SlAt 4 v l.length (l.flatMap aggE)] _ := M
    refine WL.step (v := (Value.tuple #[(Value.int .i64 ((sumV (sumJ (l.take k_))).1)), (Value.int .i64 ((sumV (sumJ (l.take k_))).2))])) rfl (Step.move rfl) ?_
    refine WL.step (v := (Value.int .i64 ((sumV (sumJ (l.take k_))).1))) rfl (Step.pure (by kernel_rfl)) ?_
    refine WL.step (v := (Value.int .i64 ((sumV (sumJ (l.take k_))).2))) rfl (Step.pure (by kernel_rfl)) ?_
    refine WL.step (v := (Value.int .i64 ((sumV (sumJ (l.take k_))).1))) rfl (Step.assign rfl) ?_
    refine WL.step (v := (Value.int .i64 ((sumV (sumJ (l.take k_))).2))) rfl (Step.assign rfl) ?_
    refine WL.nil ?_
    refine W.seq' ?_
    refine W.seq' ?_
    refine W.region rfl ?_
    refine WL.step (v := (Value.int .i64 ((sumV (cntJ (l.take k_))).2))) rfl (Step.move rfl) ?_
    refine WL.step (v := (Value.bool (((sumV (cntJ (l.take k_))).2 : Int) != (0 : Int)))) rfl (Step.pure (by kernel_rfl)) ?_
    refine WL.step (v := (Value.bool (((sumV (cntJ (l.take k_))).2 : Int) != (0 : Int)))) rfl (Step.move rfl) ?_
    rcases Bool.eq_false_or_eq_true (((sumV (cntJ (l.take k_))).2 : Int) != (0 : Int)) with h83 | h83
    ·
      have h83p : ¬ ((sumV (cntJ (l.take k_))).2 : Int) = (0 : Int) := by simpa using h83
      rw [h83]
      refine WL.pass rfl ?_
      refine WL.pass rfl ?_
      refine WL.step (v := (Value.bool true)) rfl (Step.pick (t := true) rfl rfl) ?_
      refine WL.nil ?_
      refine W.cond (t := true) rfl (fun _ => ?_) (fun h => by cases h)
      refine W.seq' ?_
      refine W.region rfl ?_
      refine WL.step (v := (Value.agg #[(Value.int .i64 0), (Value.int .i64 0), (Value.int .i64 0), (Value.int .i64 0)])) rfl (Step.pure (by kernel_rfl)) ?_
      refine WL.store (v := (Value.agg #[(Value.int .i64 0), (Value.int .i64 0), (Value.int .i64 0), (Value.int .i64 0)])) (cs := [(Value.int .i64 0), (Value.int .i64 0), (Value.int .i64 0), (Value.int .i64 0)]) (c' := #[(Value.int .i64 0), (Value.int .i64 0), (Value.int .i64 0), (Value.int .i64 0)]) M 3 rfl rfl Try.el45.sized rfl rfl rfl rfl (Nat.le_of_ble_eq_true rfl) (cel_cons rfl (cel_cons rfl (cel_cons rfl (cel_cons rfl cel_nil)))) rfl rfl (fun w84 M => ?_)
      refine WL.step (v := (Value.int .i64 30)) rfl (Step.assign rfl) ?_
      refine WL.nil ?_
      refine W.ret ?_
      refine ⟨.inl rfl, (Value.tuple #[(Value.agg #[(Value.int .i64 0), (Value.int .i64 0), (Value.int .i64 0), (Value.int .i64 0)]), (Value.int .i64 30)]), ?_, ?_⟩
      · exact ⟨rfl, (Res.r2 (RV.cellN Try.ag45 rfl (M.blk 3 rfl) rfl) (show RV _ _ _ (.tmp 3) (Value.int .i64 30) from by exact rfl))⟩
      refine ⟨?_, M.close [] rfl (by decide) trivial⟩
      have hkk : k_ = l.length := by omega
      subst hkk
      simp only [List.take_length] at *
      cases hf1 : fits (sumI (cntJ l)) <;> cases hf2 : fits (sumI (sumJ l)) <;> simp_all [joinL, sumV, aggZ]
    ·
      have h83p : ((sumV (cntJ (l.take k_))).2 : Int) = (0 : Int) := by simpa using h83
      rw [h83]
      refine WL.step (v := (Value.int .i64 ((sumV (sumJ (l.take k_))).2))) rfl (Step.move rfl) ?_
      refine WL.step (v := (Value.bool (((sumV (sumJ (l.take k_))).2 : Int) != (0 : Int)))) rfl (Step.pure (by kernel_rfl)) ?_
      refine WL.step (v := (Value.bool (((sumV (sumJ (l.take k_))).2 : Int) != (0 : Int)))) rfl (Step.pick (t := false) rfl rfl) ?_
      refine WL.nil ?_
      refine W.cond (t := ((sumV (sumJ (l.take k_))).2 : Int) != (0 : Int)) rfl (fun h85 => ?_) (fun h85 => ?_)
      ·
        have h85p : ¬ ((sumV (sumJ (l.take k_))).2 : Int) = (0 : Int) := by simpa using h85
        refine W.seq' ?_
        refine W.region rfl ?_
        refine WL.step (v := (Value.agg #[(Value.int .i64 0), (Value.int .i64 0), (Value.int .i64 0), (Value.int .i64 0)])) rfl (Step.pure (by kernel_rfl)) ?_
        refine WL.store (v := (Value.agg #[(Value.int .i64 0), (Value.int .i64 0), (Value.int .i64 0), (Value.int .i64 0)])) (cs := [(Value.int .i64 0), (Value.int .i64 0), (Value.int .i64 0), (Value.int .i64 0)]) (c' := #[(Value.int .i64 0), (Value.int .i64 0), (Value.int .i64 0), (Value.int .i64 0)]) M 3 rfl rfl Try.el45.sized rfl rfl rfl rfl (Nat.le_of_ble_eq_true rfl) (cel_cons rfl (cel_cons rfl (cel_cons rfl (cel_cons rfl cel_nil)))) rfl rfl (fun w86 M => ?_)
        refine WL.step (v := (Value.int .i64 30)) rfl (Step.assign rfl) ?_
        refine WL.nil ?_
        refine W.ret ?_
        refine ⟨.inl rfl, (Value.tuple #[(Value.agg #[(Value.int .i64 0), (Value.int .i64 0), (Value.int .i64 0), (Value.int .i64 0)]), (Value.int .i64 30)]), ?_, ?_⟩
        · exact ⟨rfl, (Res.r2 (RV.cellN Try.ag45 rfl (M.blk 3 rfl) rfl) (show RV _ _ _ (.tmp 3) (Value.int .i64 30) from by exact rfl))⟩
        refine ⟨?_, M.close [] rfl (by decide) trivial⟩
        have hkk : k_ = l.length := by omega
        subst hkk
        simp only [List.take_length] at *
        cases hf1 : fits (sumI (cntJ l)) <;> cases hf2 : fits (sumI (sumJ l)) <;> simp_all [joinL, sumV, aggZ]
      ·
        have h85p : ((sumV (sumJ (l.take k_))).2 : Int) = (0 : Int) := by simpa using h85
        refine W.skip ?_
        refine W.seq' ?_
        refine W.region rfl ?_
        refine WL.step (v := (Value.int .i64 ((sumV (cntJ (l.take k_))).1))) rfl (Step.move rfl) ?_
        refine WL.step (v := (Value.pointer (some ⟨b5, 0, none⟩))) rfl (Step.pure (by kernel_rfl)) ?_
        refine WL.store (v := (Value.int .i64 ((sumV (cntJ (l.take k_))).1))) (cs := [(Value.int .i64 ((sumV (cntJ (l.take k_))).1))]) (c' := #[(Value.int .i64 ((sumV (cntJ (l.take k_))).1)), (Value.int .i64 0), (Value.int .i64 (minJ (l.take k_))), (Value.int .i64 (maxJ (l.take k_)))]) M 2 rfl rfl Try.el2.sized rfl rfl rfl rfl (Nat.le_of_ble_eq_true rfl) (cel_cons rfl cel_nil) rfl rfl (fun w87 M => ?_)
        refine WL.nil ?_
        refine W.seq' ?_
        refine W.region rfl ?_
        refine WL.step (v := (Value.int .i64 ((sumV (sumJ (l.take k_))).1))) rfl (Step.move rfl) ?_
        refine WL.step (v := (Value.pointer (some ⟨b5, 1, none⟩))) rfl (Step.pure (by kernel_rfl)) ?_
        refine WL.store (v := (Value.int .i64 ((sumV (sumJ (l.take k_))).1))) (cs := [(Value.int .i64 ((sumV (sumJ (l.take k_))).1))]) (c' := #[(Value.int .i64 ((sumV (cntJ (l.take k_))).1)), (Value.int .i64 ((sumV (sumJ (l.take k_))).1)), (Value.int .i64 (minJ (l.take k_))), (Value.int .i64 (maxJ (l.take k_)))]) M 2 rfl rfl Try.el2.sized rfl rfl rfl rfl (Nat.le_of_ble_eq_true rfl) (cel_cons rfl cel_nil) rfl rfl (fun w88 M => ?_)
        refine WL.nil ?_
        refine W.seq' ?_
        refine W.region rfl ?_
        refine WL.step (v := (Value.agg #[(Value.int .i64 ((sumV (cntJ (l.take k_))).1)), (Value.int .i64 ((sumV (sumJ (l.take k_))).1)), (Value.int .i64 (minJ (l.take k_))), (Value.int .i64 (maxJ (l.take k_)))])) rfl (Step.loadN Try.ag45 rfl (M.blk 2 rfl) (Nat.le_of_ble_eq_true rfl) rfl) ?_
        refine WL.store (v := (Value.agg #[(Value.int .i64 ((sumV (cntJ (l.take k_))).1)), (Value.int .i64 ((sumV (sumJ (l.take k_))).1)), (Value.int .i64 (minJ (l.take k_))), (Value.int .i64 (maxJ (l.take k_)))])) (cs := [(Value.int .i64 ((sumV (cntJ (l.take k_))).1)), (Value.int .i64 ((sumV (sumJ (l.take k_))).1)), (Value.int .i64 (minJ (l.take k_))), (Value.int .i64 (maxJ (l.take k_)))]) (c' := #[(Value.int .i64 ((sumV (cntJ (l.take k_))).1)), (Value.int .i64 ((sumV (sumJ (l.take k_))).1)), (Value.int .i64 (minJ (l.take k_))), (Value.int .i64 (maxJ (l.take k_)))]) M 3 rfl rfl Try.el45.sized rfl rfl rfl rfl (Nat.le_of_ble_eq_true rfl) (cel_cons rfl (cel_cons rfl (cel_cons rfl (cel_cons rfl cel_nil)))) rfl rfl (fun w89 M => ?_)
        refine WL.step (v := (Value.int .i64 0)) rfl (Step.assign rfl) ?_
        refine WL.nil ?_
        refine W.ret ?_
        refine ⟨.inl rfl, (Value.tuple #[(Value.agg #[(Value.int .i64 ((sumV (cntJ (l.take k_))).1)), (Value.int .i64 ((sumV (sumJ (l.take k_))).1)), (Value.int .i64 (minJ (l.take k_))), (Value.int .i64 (maxJ (l.take k_)))]), (Value.int .i64 0)]), ?_, ?_⟩
        · exact ⟨rfl, (Res.r2 (RV.cellN Try.ag45 rfl (M.blk 3 rfl) rfl) (show RV _ _ _ (.tmp 3) (Value.int .i64 0) from by exact rfl))⟩
        refine ⟨?_, M.close [] rfl (by decide) trivial⟩
        have hkk : k_ = l.length := by omega
        subst hkk
        simp only [List.take_length] at *
        cases hf1 : fits (sumI (cntJ l)) <;> cases hf2 : fits (sumI (sumJ l)) <;> simp_all [joinL, sumV, aggZ]

theorem ref5_put {G : Nat → Prop} {w : World} (a : Agg5) (v : Int)  (hpi : inJ [a, ⟨1, v, v, v⟩]) (M : Mem G (fun _ => False) w [] [] w) : Rets Try.prog 120 #[(Value.agg #[(Value.int .i64 a.count), (Value.int .i64 a.sum), (Value.int .i64 a.min), (Value.int .i64 a.max)]), (Value.int .i64 v)] w fun r w' => r = (Value.tuple #[(Value.agg #[(Value.int .i64 (((putA a v).1).count)), (Value.int .i64 (((putA a v).1).sum)), (Value.int .i64 (((putA a v).1).min)), (Value.int .i64 (((putA a v).1).max))]), (Value.int .i64 ((putA a v).2))]) ∧ Mem G (fun _ => False) w [] [] w' := by
  refine Rets.enter 23 _ Try.func120 rfl Try.ntmps120 Try.results120 (by simp) ?_
  refine W.seq' ?_
  refine W.region rfl ?_
  refine WL.box (v := (Value.agg #[(Value.int .i64 a.count), (Value.int .i64 a.sum), (Value.int .i64 a.min), (Value.int .i64 a.max)])) (c := #[(Value.int .i64 a.count), (Value.int .i64 a.sum), (Value.int .i64 a.min), (Value.int .i64 a.max)]) M rfl rfl rfl (fun b1 w2 hb1 M => ?_)
  refine WL.alloc (c := #[(Value.int .i64 0), (Value.int .i64 0), (Value.int .i64 0), (Value.int .i64 0)]) M rfl Try.el45.zero rfl (fun b3 w4 hb3 M => ?_)
  refine WL.step (v := (Value.int .i64 0)) rfl (Step.assign rfl) ?_
  refine WL.nil ?_
  refine W.seq' ?_
  refine W.region rfl ?_
  refine WL.step (v := (Value.agg #[(Value.int .i64 a.count), (Value.int .i64 a.sum), (Value.int .i64 a.min), (Value.int .i64 a.max)])) rfl (Step.loadN Try.ag45 rfl (M.blk 1 rfl) (Nat.le_of_ble_eq_true rfl) rfl) ?_
  refine WL.step (v := (Value.int .i64 v)) rfl (Step.move rfl) ?_
  refine WL.step (v := (Value.int .i64 v)) rfl (Step.move rfl) ?_
  refine WL.step (v := (Value.int .i64 v)) rfl (Step.move rfl) ?_
  refine WL.step (v := (Value.agg #[(Value.int .i64 1), (Value.int .i64 v), (Value.int .i64 v), (Value.int .i64 v)])) rfl (Step.pure (by kernel_rfl)) ?_
  refine WL.new (obj := .cells #[(Value.int .i64 a.count), (Value.int .i64 a.sum), (Value.int .i64 a.min), (Value.int .i64 a.max), (Value.int .i64 1), (Value.int .i64 v), (Value.int .i64 v), (Value.int .i64 v)] 45) (fun b => .slice (some ⟨b, 0, none⟩) 2 2) M rfl (fun w => Step.make (by kernel_rfl)) (fun b5 w6 hb5 M => ?_)
  refine WL.callX rfl (ref5_join (Value.slice (some ⟨b5, 0, none⟩) 2 2) ([a, (⟨1, v, v, v⟩ : Agg5)] : List Agg5) (by first | omega | assumption | decide | (simp only [List.length_nil, List.length_cons, List.length_take, List.length_drop]; omega)) (by first | assumption | decide) (M.enterW0 ⟨((M.wideC0 0 rfl).imp fun _ h => SlAt.of_blk (n := 2) (size := 4) h rfl (by decide)), trivial⟩)) (CallsF.func Try.en123 rfl) ?_
  rintro _ w7 ⟨rfl, m⟩
  replace M := M.leaveW0 m
  clear m
  replace M : Mem _ _ _ [blk b5 (.cells #[(Value.int .i64 a.count), (Value.int .i64 a.sum), (Value.int .i64 a.min), (Value.int .i64 a.max), (Value.int .i64 1), (Value.int .i64 v), (Value.int .i64 v), (Value.int .i64 v)] 45), blk b3 (.cells #[(Value.int .i64 0), (Value.int .i64 0), (Value.int .i64 0), (Value.int .i64 0)] 45), blk b1 (.cells #[(Value.int .i64 a.count), (Value.int .i64 a.sum), (Value.int .i64 a.min), (Value.int .i64 a.max)] 45)] [] _ := M
  refine WL.step (v := (Value.tuple #[(Value.agg #[(Value.int .i64 (((joinL ([a, (⟨1, v, v, v⟩ : Agg5)] : List Agg5)).1).count)), (Value.int .i64 (((joinL ([a, (⟨1, v, v, v⟩ : Agg5)] : List Agg5)).1).sum)), (Value.int .i64 (((joinL ([a, (⟨1, v, v, v⟩ : Agg5)] : List Agg5)).1).min)), (Value.int .i64 (((joinL ([a, (⟨1, v, v, v⟩ : Agg5)] : List Agg5)).1).max))]), (Value.int .i64 ((joinL ([a, (⟨1, v, v, v⟩ : Agg5)] : List Agg5)).2))])) rfl (Step.move rfl) ?_
  refine WL.step (v := (Value.agg #[(Value.int .i64 (((joinL ([a, (⟨1, v, v, v⟩ : Agg5)] : List Agg5)).1).count)), (Value.int .i64 (((joinL ([a, (⟨1, v, v, v⟩ : Agg5)] : List Agg5)).1).sum)), (Value.int .i64 (((joinL ([a, (⟨1, v, v, v⟩ : Agg5)] : List Agg5)).1).min)), (Value.int .i64 (((joinL ([a, (⟨1, v, v, v⟩ : Agg5)] : List Agg5)).1).max))])) rfl (Step.pure (by kernel_rfl)) ?_
  refine WL.step (v := (Value.int .i64 ((joinL ([a, (⟨1, v, v, v⟩ : Agg5)] : List Agg5)).2))) rfl (Step.pure (by kernel_rfl)) ?_
  refine WL.alloc (c := #[(Value.int .i64 0), (Value.int .i64 0), (Value.int .i64 0), (Value.int .i64 0)]) M rfl Try.el45.zero rfl (fun b8 w9 hb8 M => ?_)
  refine WL.store (v := (Value.agg #[(Value.int .i64 (((joinL ([a, (⟨1, v, v, v⟩ : Agg5)] : List Agg5)).1).count)), (Value.int .i64 (((joinL ([a, (⟨1, v, v, v⟩ : Agg5)] : List Agg5)).1).sum)), (Value.int .i64 (((joinL ([a, (⟨1, v, v, v⟩ : Agg5)] : List Agg5)).1).min)), (Value.int .i64 (((joinL ([a, (⟨1, v, v, v⟩ : Agg5)] : List Agg5)).1).max))])) (cs := [(Value.int .i64 (((joinL ([a, (⟨1, v, v, v⟩ : Agg5)] : List Agg5)).1).count)), (Value.int .i64 (((joinL ([a, (⟨1, v, v, v⟩ : Agg5)] : List Agg5)).1).sum)), (Value.int .i64 (((joinL ([a, (⟨1, v, v, v⟩ : Agg5)] : List Agg5)).1).min)), (Value.int .i64 (((joinL ([a, (⟨1, v, v, v⟩ : Agg5)] : List Agg5)).1).max))]) (c' := #[(Value.int .i64 (((joinL ([a, (⟨1, v, v, v⟩ : Agg5)] : List Agg5)).1).count)), (Value.int .i64 (((joinL ([a, (⟨1, v, v, v⟩ : Agg5)] : List Agg5)).1).sum)), (Value.int .i64 (((joinL ([a, (⟨1, v, v, v⟩ : Agg5)] : List Agg5)).1).min)), (Value.int .i64 (((joinL ([a, (⟨1, v, v, v⟩ : Agg5)] : List Agg5)).1).max))]) M 0 rfl rfl Try.el45.sized rfl rfl rfl rfl (Nat.le_of_ble_eq_true rfl) (cel_cons rfl (cel_cons rfl (cel_cons rfl (cel_cons rfl cel_nil)))) rfl rfl (fun w10 M => ?_)
  refine WL.step (v := (Value.int .i64 ((joinL ([a, (⟨1, v, v, v⟩ : Agg5)] : List Agg5)).2))) rfl (Step.assign rfl) ?_
  refine WL.nil ?_
  refine W.seq' ?_
  refine W.seq' ?_
  refine W.region rfl ?_
  refine WL.step (v := (Value.int .i64 ((joinL ([a, (⟨1, v, v, v⟩ : Agg5)] : List Agg5)).2))) rfl (Step.move rfl) ?_
  refine WL.step (v := (Value.bool (((joinL ([a, (⟨1, v, v, v⟩ : Agg5)] : List Agg5)).2 : Int) != (0 : Int)))) rfl (Step.pure (by kernel_rfl)) ?_
  refine WL.nil ?_
  refine W.cond (t := ((joinL ([a, (⟨1, v, v, v⟩ : Agg5)] : List Agg5)).2 : Int) != (0 : Int)) rfl (fun h11 => ?_) (fun h11 => ?_)
  ·
    have h11p : ¬ ((joinL ([a, (⟨1, v, v, v⟩ : Agg5)] : List Agg5)).2 : Int) = (0 : Int) := by simpa using h11
    refine W.seq' ?_
    refine W.region rfl ?_
    refine WL.step (v := (Value.agg #[(Value.int .i64 a.count), (Value.int .i64 a.sum), (Value.int .i64 a.min), (Value.int .i64 a.max)])) rfl (Step.loadN Try.ag45 rfl (M.blk 3 rfl) (Nat.le_of_ble_eq_true rfl) rfl) ?_
    refine WL.step (v := (Value.int .i64 ((joinL ([a, (⟨1, v, v, v⟩ : Agg5)] : List Agg5)).2))) rfl (Step.move rfl) ?_
    refine WL.store (v := (Value.agg #[(Value.int .i64 a.count), (Value.int .i64 a.sum), (Value.int .i64 a.min), (Value.int .i64 a.max)])) (cs := [(Value.int .i64 a.count), (Value.int .i64 a.sum), (Value.int .i64 a.min), (Value.int .i64 a.max)]) (c' := #[(Value.int .i64 a.count), (Value.int .i64 a.sum), (Value.int .i64 a.min), (Value.int .i64 a.max)]) M 2 rfl rfl Try.el45.sized rfl rfl rfl rfl (Nat.le_of_ble_eq_true rfl) (cel_cons rfl (cel_cons rfl (cel_cons rfl (cel_cons rfl cel_nil)))) rfl rfl (fun w12 M => ?_)
    refine WL.step (v := (Value.int .i64 ((joinL ([a, (⟨1, v, v, v⟩ : Agg5)] : List Agg5)).2))) rfl (Step.assign rfl) ?_
    refine WL.nil ?_
    refine W.ret ?_
    refine ⟨.inl rfl, (Value.tuple #[(Value.agg #[(Value.int .i64 a.count), (Value.int .i64 a.sum), (Value.int .i64 a.min), (Value.int .i64 a.max)]), (Value.int .i64 ((joinL ([a, (⟨1, v, v, v⟩ : Agg5)] : List Agg5)).2))]), ?_, ?_⟩
    · exact ⟨rfl, (Res.r2 (RV.cellN Try.ag45 rfl (M.blk 2 rfl) rfl) (show RV _ _ _ (.tmp 5) (Value.int .i64 ((joinL ([a, (⟨1, v, v, v⟩ : Agg5)] : List Agg5)).2)) from by exact rfl))⟩
    refine ⟨?_, M.close [] rfl (by decide) trivial⟩
    simp only [putA]
    rw [if_neg h11p]; simp [joinL_err h11p]
  ·
    have h11p : ((joinL ([a, (⟨1, v, v, v⟩ : Agg5)] : List Agg5)).2 : Int) = (0 : Int) := by simpa using h11
    refine W.skip ?_
    refine W.seq' ?_
    refine W.region rfl ?_
    refine WL.step (v := (Value.agg #[(Value.int .i64 (((joinL ([a, (⟨1, v, v, v⟩ : Agg5)] : List Agg5)).1).count)), (Value.int .i64 (((joinL ([a, (⟨1, v, v, v⟩ : Agg5)] : List Agg5)).1).sum)), (Value.int .i64 (((joinL ([a, (⟨1, v, v, v⟩ : Agg5)] : List Agg5)).1).min)), (Value.int .i64 (((joinL ([a, (⟨1, v, v, v⟩ : Agg5)] : List Agg5)).1).max))])) rfl (Step.loadN Try.ag45 rfl (M.blk 0 rfl) (Nat.le_of_ble_eq_true rfl) rfl) ?_
    refine WL.store (v := (Value.agg #[(Value.int .i64 (((joinL ([a, (⟨1, v, v, v⟩ : Agg5)] : List Agg5)).1).count)), (Value.int .i64 (((joinL ([a, (⟨1, v, v, v⟩ : Agg5)] : List Agg5)).1).sum)), (Value.int .i64 (((joinL ([a, (⟨1, v, v, v⟩ : Agg5)] : List Agg5)).1).min)), (Value.int .i64 (((joinL ([a, (⟨1, v, v, v⟩ : Agg5)] : List Agg5)).1).max))])) (cs := [(Value.int .i64 (((joinL ([a, (⟨1, v, v, v⟩ : Agg5)] : List Agg5)).1).count)), (Value.int .i64 (((joinL ([a, (⟨1, v, v, v⟩ : Agg5)] : List Agg5)).1).sum)), (Value.int .i64 (((joinL ([a, (⟨1, v, v, v⟩ : Agg5)] : List Agg5)).1).min)), (Value.int .i64 (((joinL ([a, (⟨1, v, v, v⟩ : Agg5)] : List Agg5)).1).max))]) (c' := #[(Value.int .i64 (((joinL ([a, (⟨1, v, v, v⟩ : Agg5)] : List Agg5)).1).count)), (Value.int .i64 (((joinL ([a, (⟨1, v, v, v⟩ : Agg5)] : List Agg5)).1).sum)), (Value.int .i64 (((joinL ([a, (⟨1, v, v, v⟩ : Agg5)] : List Agg5)).1).min)), (Value.int .i64 (((joinL ([a, (⟨1, v, v, v⟩ : Agg5)] : List Agg5)).1).max))]) M 2 rfl rfl Try.el45.sized rfl rfl rfl rfl (Nat.le_of_ble_eq_true rfl) (cel_cons rfl (cel_cons rfl (cel_cons rfl (cel_cons rfl cel_nil)))) rfl rfl (fun w13 M => ?_)
    refine WL.step (v := (Value.int .i64 0)) rfl (Step.assign rfl) ?_
    refine WL.nil ?_
    refine W.ret ?_
    refine ⟨.inl rfl, (Value.tuple #[(Value.agg #[(Value.int .i64 (((joinL ([a, (⟨1, v, v, v⟩ : Agg5)] : List Agg5)).1).count)), (Value.int .i64 (((joinL ([a, (⟨1, v, v, v⟩ : Agg5)] : List Agg5)).1).sum)), (Value.int .i64 (((joinL ([a, (⟨1, v, v, v⟩ : Agg5)] : List Agg5)).1).min)), (Value.int .i64 (((joinL ([a, (⟨1, v, v, v⟩ : Agg5)] : List Agg5)).1).max))]), (Value.int .i64 0)]), ?_, ?_⟩
    · exact ⟨rfl, (Res.r2 (RV.cellN Try.ag45 rfl (M.blk 2 rfl) rfl) (show RV _ _ _ (.tmp 5) (Value.int .i64 0) from by exact rfl))⟩
    refine ⟨?_, M.close [] rfl (by decide) trivial⟩
    simp only [putA]
    rw [if_pos h11p]; simp [h11p]

theorem ref5_order {G : Nat → Prop} {w : World} (less : Bool) (more : Bool)   (M : Mem G (fun _ => False) w [] [] w) : Rets Try.prog 114 #[(Value.bool less), (Value.bool more)] w fun r w' => r = (Value.int .i64 (orderI less more)) ∧ Mem G (fun _ => False) w [] [] w' := by
  refine Rets.enter 7 _ Try.func114 rfl Try.ntmps114 Try.results114 (by simp) ?_
  refine W.seq' ?_
  refine W.region rfl ?_
  refine WL.step (v := (Value.int .i64 0)) rfl (Step.assign rfl) ?_
  refine WL.nil ?_
  refine W.seq' ?_
  refine W.seq' ?_
  refine W.region rfl ?_
  refine WL.step (v := (Value.bool less)) rfl (Step.move rfl) ?_
  refine WL.nil ?_
  refine W.cond (t := less) rfl (fun h1 => ?_) (fun h1 => ?_)
  ·
    refine W.seq' ?_
    refine W.region rfl ?_
    refine WL.step (v := (Value.int .i64 (-1))) rfl (Step.assign rfl) ?_
    refine WL.nil ?_
    refine W.ret ?_
    refine ⟨.inl rfl, (Value.int .i64 (-1)), ?_, ?_⟩
    · exact ⟨rfl, (Res.r1 (show RV _ _ _ (.tmp 4) (Value.int .i64 (-1)) from by exact rfl))⟩
    refine ⟨?_, M.close [] rfl (by decide) trivial⟩
    simp [orderI, h1]
  ·
    refine W.skip ?_
    refine W.seq' ?_
    refine W.seq' ?_
    refine W.region rfl ?_
    refine WL.step (v := (Value.bool more)) rfl (Step.move rfl) ?_
    refine WL.nil ?_
    refine W.cond (t := more) rfl (fun h2 => ?_) (fun h2 => ?_)
    ·
      refine W.seq' ?_
      refine W.region rfl ?_
      refine WL.step (v := (Value.int .i64 1)) rfl (Step.assign rfl) ?_
      refine WL.nil ?_
      refine W.ret ?_
      refine ⟨.inl rfl, (Value.int .i64 1), ?_, ?_⟩
      · exact ⟨rfl, (Res.r1 (show RV _ _ _ (.tmp 4) (Value.int .i64 1) from by exact rfl))⟩
      refine ⟨?_, M.close [] rfl (by decide) trivial⟩
      simp [orderI, h1, h2]
    ·
      refine W.skip ?_
      refine W.seq' ?_
      refine W.region rfl ?_
      refine WL.step (v := (Value.int .i64 0)) rfl (Step.assign rfl) ?_
      refine WL.nil ?_
      refine W.ret ?_
      refine ⟨.inl rfl, (Value.int .i64 0), ?_, ?_⟩
      · exact ⟨rfl, (Res.r1 (show RV _ _ _ (.tmp 4) (Value.int .i64 0) from by exact rfl))⟩
      refine ⟨?_, M.close [] rfl (by decide) trivial⟩
      simp [orderI, h1, h2]

theorem ref5_prim {G : Nat → Prop} {w : World} (a : Pane5) (b : Pane5)   (M : Mem G (fun _ => False) w [] [] w) : Rets Try.prog 65 #[(Value.agg #[(Value.string a.key), (Value.int .i64 a.start), (Value.int .i64 a.fin)]), (Value.agg #[(Value.string b.key), (Value.int .i64 b.start), (Value.int .i64 b.fin)])] w fun r w' => r = (Value.int .i64 (primV a b)) ∧ Mem G (fun _ => False) w [] [] w' := by
  refine Rets.enter 38 _ Try.func65 rfl Try.ntmps65 Try.results65 (by simp) ?_
  refine W.seq' ?_
  refine W.region rfl ?_
  refine WL.box (v := (Value.agg #[(Value.string a.key), (Value.int .i64 a.start), (Value.int .i64 a.fin)])) (c := #[(Value.string a.key), (Value.int .i64 a.start), (Value.int .i64 a.fin)]) M rfl rfl rfl (fun b1 w2 hb1 M => ?_)
  refine WL.box (v := (Value.agg #[(Value.string b.key), (Value.int .i64 b.start), (Value.int .i64 b.fin)])) (c := #[(Value.string b.key), (Value.int .i64 b.start), (Value.int .i64 b.fin)]) M rfl rfl rfl (fun b3 w4 hb3 M => ?_)
  refine WL.step (v := (Value.int .i64 0)) rfl (Step.assign rfl) ?_
  refine WL.nil ?_
  refine W.seq' ?_
  refine W.seq' ?_
  refine W.region rfl ?_
  refine WL.step (v := (Value.pointer (some ⟨b1, 0, none⟩))) rfl (Step.pure (by kernel_rfl)) ?_
  refine WL.step (v := (Value.string a.key)) rfl (Step.load1 Try.sc9 rfl ((M.cell 1 rfl 0).trans rfl)) ?_
  refine WL.step (v := (Value.pointer (some ⟨b3, 0, none⟩))) rfl (Step.pure (by kernel_rfl)) ?_
  refine WL.step (v := (Value.string b.key)) rfl (Step.load1 Try.sc9 rfl ((M.cell 0 rfl 0).trans rfl)) ?_
  refine WL.step (v := (Value.bool (!(a.key.toList == b.key.toList)))) rfl (Step.pure (by kernel_rfl)) ?_
  refine WL.nil ?_
  refine W.cond (t := !(a.key.toList == b.key.toList)) rfl (fun h5 => ?_) (fun h5 => ?_)
  ·
    refine W.seq' ?_
    refine W.region rfl ?_
    refine WL.step (v := (Value.pointer (some ⟨b1, 0, none⟩))) rfl (Step.pure (by kernel_rfl)) ?_
    refine WL.step (v := (Value.string a.key)) rfl (Step.load1 Try.sc9 rfl ((M.cell 1 rfl 0).trans rfl)) ?_
    refine WL.step (v := (Value.pointer (some ⟨b3, 0, none⟩))) rfl (Step.pure (by kernel_rfl)) ?_
    refine WL.step (v := (Value.string b.key)) rfl (Step.load1 Try.sc9 rfl ((M.cell 0 rfl 0).trans rfl)) ?_
    refine WL.step (v := (Value.bool (sLt a.key b.key))) rfl (Step.pure (by kernel_rfl)) ?_
    refine WL.callX rfl (ref5_order (sLt a.key b.key) true (M.enterW0 trivial)) (CallsF.func Try.en114 rfl) ?_
    rintro _ w6 ⟨rfl, m⟩
    replace M := M.leaveW0 m
    clear m
    replace M : Mem _ _ _ [blk b3 (.cells #[(Value.string b.key), (Value.int .i64 b.start), (Value.int .i64 b.fin)] 118), blk b1 (.cells #[(Value.string a.key), (Value.int .i64 a.start), (Value.int .i64 a.fin)] 118)] [] _ := M
    refine WL.step (v := (Value.int .i64 (orderI (sLt a.key b.key) true))) rfl (Step.assign rfl) ?_
    refine WL.nil ?_
    refine W.ret ?_
    refine ⟨.inl rfl, (Value.int .i64 (orderI (sLt a.key b.key) true)), ?_, ?_⟩
    · exact ⟨rfl, (Res.r1 (show RV _ _ _ (.tmp 4) (Value.int .i64 (orderI (sLt a.key b.key) true)) from by exact rfl))⟩
    refine ⟨?_, M.close [] rfl (by decide) trivial⟩
    refine congrArg (Value.int .i64) ?_
    exact primV_key h5
  ·
    refine W.skip ?_
    refine W.seq' ?_
    refine W.seq' ?_
    refine W.region rfl ?_
    refine WL.step (v := (Value.pointer (some ⟨b1, 2, none⟩))) rfl (Step.pure (by kernel_rfl)) ?_
    refine WL.step (v := (Value.int .i64 a.fin)) rfl (Step.load1 Try.sc2 rfl ((M.cell 1 rfl 2).trans rfl)) ?_
    refine WL.step (v := (Value.pointer (some ⟨b3, 2, none⟩))) rfl (Step.pure (by kernel_rfl)) ?_
    refine WL.step (v := (Value.int .i64 b.fin)) rfl (Step.load1 Try.sc2 rfl ((M.cell 0 rfl 2).trans rfl)) ?_
    refine WL.step (v := (Value.bool ((a.fin : Int) != (b.fin : Int)))) rfl (Step.pure (by kernel_rfl)) ?_
    refine WL.nil ?_
    refine W.cond (t := (a.fin : Int) != (b.fin : Int)) rfl (fun h7 => ?_) (fun h7 => ?_)
    ·
      have h7p : ¬ (a.fin : Int) = (b.fin : Int) := by simpa using h7
      refine W.seq' ?_
      refine W.region rfl ?_
      refine WL.step (v := (Value.pointer (some ⟨b1, 2, none⟩))) rfl (Step.pure (by kernel_rfl)) ?_
      refine WL.step (v := (Value.int .i64 a.fin)) rfl (Step.load1 Try.sc2 rfl ((M.cell 1 rfl 2).trans rfl)) ?_
      refine WL.step (v := (Value.pointer (some ⟨b3, 2, none⟩))) rfl (Step.pure (by kernel_rfl)) ?_
      refine WL.step (v := (Value.int .i64 b.fin)) rfl (Step.load1 Try.sc2 rfl ((M.cell 0 rfl 2).trans rfl)) ?_
      refine WL.step (v := (Value.bool (decide ((a.fin : Int) < (b.fin : Int))))) rfl (Step.pure (by kernel_rfl)) ?_
      refine WL.callX rfl (ref5_order (decide ((a.fin : Int) < (b.fin : Int))) true (M.enterW0 trivial)) (CallsF.func Try.en114 rfl) ?_
      rintro _ w8 ⟨rfl, m⟩
      replace M := M.leaveW0 m
      clear m
      replace M : Mem _ _ _ [blk b3 (.cells #[(Value.string b.key), (Value.int .i64 b.start), (Value.int .i64 b.fin)] 118), blk b1 (.cells #[(Value.string a.key), (Value.int .i64 a.start), (Value.int .i64 a.fin)] 118)] [] _ := M
      refine WL.step (v := (Value.int .i64 (orderI (decide ((a.fin : Int) < (b.fin : Int))) true))) rfl (Step.assign rfl) ?_
      refine WL.nil ?_
      refine W.ret ?_
      refine ⟨.inl rfl, (Value.int .i64 (orderI (decide ((a.fin : Int) < (b.fin : Int))) true)), ?_, ?_⟩
      · exact ⟨rfl, (Res.r1 (show RV _ _ _ (.tmp 4) (Value.int .i64 (orderI (decide ((a.fin : Int) < (b.fin : Int))) true)) from by exact rfl))⟩
      refine ⟨?_, M.close [] rfl (by decide) trivial⟩
      refine congrArg (Value.int .i64) ?_
      exact primV_fin h5 h7p
    ·
      have h7p : (a.fin : Int) = (b.fin : Int) := by simpa using h7
      refine W.skip ?_
      refine W.seq' ?_
      refine W.region rfl ?_
      refine WL.step (v := (Value.pointer (some ⟨b1, 1, none⟩))) rfl (Step.pure (by kernel_rfl)) ?_
      refine WL.step (v := (Value.int .i64 a.start)) rfl (Step.load1 Try.sc2 rfl ((M.cell 1 rfl 1).trans rfl)) ?_
      refine WL.step (v := (Value.pointer (some ⟨b3, 1, none⟩))) rfl (Step.pure (by kernel_rfl)) ?_
      refine WL.step (v := (Value.int .i64 b.start)) rfl (Step.load1 Try.sc2 rfl ((M.cell 0 rfl 1).trans rfl)) ?_
      refine WL.step (v := (Value.bool (decide ((a.start : Int) < (b.start : Int))))) rfl (Step.pure (by kernel_rfl)) ?_
      refine WL.step (v := (Value.pointer (some ⟨b1, 1, none⟩))) rfl (Step.pure (by kernel_rfl)) ?_
      refine WL.step (v := (Value.int .i64 a.start)) rfl (Step.load1 Try.sc2 rfl ((M.cell 1 rfl 1).trans rfl)) ?_
      refine WL.step (v := (Value.pointer (some ⟨b3, 1, none⟩))) rfl (Step.pure (by kernel_rfl)) ?_
      refine WL.step (v := (Value.int .i64 b.start)) rfl (Step.load1 Try.sc2 rfl ((M.cell 0 rfl 1).trans rfl)) ?_
      refine WL.step (v := (Value.bool (decide ((a.start : Int) > (b.start : Int))))) rfl (Step.pure (by kernel_rfl)) ?_
      refine WL.callX rfl (ref5_order (decide ((a.start : Int) < (b.start : Int))) (decide ((a.start : Int) > (b.start : Int))) (M.enterW0 trivial)) (CallsF.func Try.en114 rfl) ?_
      rintro _ w9 ⟨rfl, m⟩
      replace M := M.leaveW0 m
      clear m
      replace M : Mem _ _ _ [blk b3 (.cells #[(Value.string b.key), (Value.int .i64 b.start), (Value.int .i64 b.fin)] 118), blk b1 (.cells #[(Value.string a.key), (Value.int .i64 a.start), (Value.int .i64 a.fin)] 118)] [] _ := M
      refine WL.step (v := (Value.int .i64 (orderI (decide ((a.start : Int) < (b.start : Int))) (decide ((a.start : Int) > (b.start : Int)))))) rfl (Step.assign rfl) ?_
      refine WL.nil ?_
      refine W.ret ?_
      refine ⟨.inl rfl, (Value.int .i64 (orderI (decide ((a.start : Int) < (b.start : Int))) (decide ((a.start : Int) > (b.start : Int))))), ?_, ?_⟩
      · exact ⟨rfl, (Res.r1 (show RV _ _ _ (.tmp 4) (Value.int .i64 (orderI (decide ((a.start : Int) < (b.start : Int))) (decide ((a.start : Int) > (b.start : Int))))) from by exact rfl))⟩
      refine ⟨?_, M.close [] rfl (by decide) trivial⟩
      refine congrArg (Value.int .i64) ?_
      exact primV_start h5 h7p

theorem ref5_seco {G : Nat → Prop} {w : World} (a : Pane5) (b : Pane5)   (M : Mem G (fun _ => False) w [] [] w) : Rets Try.prog 68 #[(Value.agg #[(Value.string a.key), (Value.int .i64 a.start), (Value.int .i64 a.fin)]), (Value.agg #[(Value.string b.key), (Value.int .i64 b.start), (Value.int .i64 b.fin)])] w fun r w' => r = (Value.int .i64 (secoV a b)) ∧ Mem G (fun _ => False) w [] [] w' := by
  refine Rets.enter 19 _ Try.func68 rfl Try.ntmps68 Try.results68 (by simp) ?_
  refine W.seq' ?_
  refine W.region rfl ?_
  refine WL.box (v := (Value.agg #[(Value.string a.key), (Value.int .i64 a.start), (Value.int .i64 a.fin)])) (c := #[(Value.string a.key), (Value.int .i64 a.start), (Value.int .i64 a.fin)]) M rfl rfl rfl (fun b1 w2 hb1 M => ?_)
  refine WL.box (v := (Value.agg #[(Value.string b.key), (Value.int .i64 b.start), (Value.int .i64 b.fin)])) (c := #[(Value.string b.key), (Value.int .i64 b.start), (Value.int .i64 b.fin)]) M rfl rfl rfl (fun b3 w4 hb3 M => ?_)
  refine WL.step (v := (Value.int .i64 0)) rfl (Step.assign rfl) ?_
  refine WL.nil ?_
  refine W.seq' ?_
  refine W.seq' ?_
  refine W.region rfl ?_
  refine WL.step (v := (Value.pointer (some ⟨b1, 2, none⟩))) rfl (Step.pure (by kernel_rfl)) ?_
  refine WL.step (v := (Value.int .i64 a.fin)) rfl (Step.load1 Try.sc2 rfl ((M.cell 1 rfl 2).trans rfl)) ?_
  refine WL.step (v := (Value.pointer (some ⟨b3, 2, none⟩))) rfl (Step.pure (by kernel_rfl)) ?_
  refine WL.step (v := (Value.int .i64 b.fin)) rfl (Step.load1 Try.sc2 rfl ((M.cell 0 rfl 2).trans rfl)) ?_
  refine WL.step (v := (Value.bool ((a.fin : Int) != (b.fin : Int)))) rfl (Step.pure (by kernel_rfl)) ?_
  refine WL.nil ?_
  refine W.cond (t := (a.fin : Int) != (b.fin : Int)) rfl (fun h5 => ?_) (fun h5 => ?_)
  ·
    have h5p : ¬ (a.fin : Int) = (b.fin : Int) := by simpa using h5
    refine W.seq' ?_
    refine W.region rfl ?_
    refine WL.step (v := (Value.pointer (some ⟨b1, 2, none⟩))) rfl (Step.pure (by kernel_rfl)) ?_
    refine WL.step (v := (Value.int .i64 a.fin)) rfl (Step.load1 Try.sc2 rfl ((M.cell 1 rfl 2).trans rfl)) ?_
    refine WL.step (v := (Value.pointer (some ⟨b3, 2, none⟩))) rfl (Step.pure (by kernel_rfl)) ?_
    refine WL.step (v := (Value.int .i64 b.fin)) rfl (Step.load1 Try.sc2 rfl ((M.cell 0 rfl 2).trans rfl)) ?_
    refine WL.step (v := (Value.bool (decide ((a.fin : Int) < (b.fin : Int))))) rfl (Step.pure (by kernel_rfl)) ?_
    refine WL.callX rfl (ref5_order (decide ((a.fin : Int) < (b.fin : Int))) true (M.enterW0 trivial)) (CallsF.func Try.en114 rfl) ?_
    rintro _ w6 ⟨rfl, m⟩
    replace M := M.leaveW0 m
    clear m
    replace M : Mem _ _ _ [blk b3 (.cells #[(Value.string b.key), (Value.int .i64 b.start), (Value.int .i64 b.fin)] 118), blk b1 (.cells #[(Value.string a.key), (Value.int .i64 a.start), (Value.int .i64 a.fin)] 118)] [] _ := M
    refine WL.step (v := (Value.int .i64 (orderI (decide ((a.fin : Int) < (b.fin : Int))) true))) rfl (Step.assign rfl) ?_
    refine WL.nil ?_
    refine W.ret ?_
    refine ⟨.inl rfl, (Value.int .i64 (orderI (decide ((a.fin : Int) < (b.fin : Int))) true)), ?_, ?_⟩
    · exact ⟨rfl, (Res.r1 (show RV _ _ _ (.tmp 4) (Value.int .i64 (orderI (decide ((a.fin : Int) < (b.fin : Int))) true)) from by exact rfl))⟩
    refine ⟨?_, M.close [] rfl (by decide) trivial⟩
    exact congrArg (Value.int .i64) (secoV_fin h5p)
  ·
    have h5p : (a.fin : Int) = (b.fin : Int) := by simpa using h5
    refine W.skip ?_
    refine W.seq' ?_
    refine W.region rfl ?_
    refine WL.step (v := (Value.agg #[(Value.string a.key), (Value.int .i64 a.start), (Value.int .i64 a.fin)])) rfl (Step.loadN Try.ag118 rfl (M.blk 1 rfl) (Nat.le_of_ble_eq_true rfl) rfl) ?_
    refine WL.step (v := (Value.agg #[(Value.string b.key), (Value.int .i64 b.start), (Value.int .i64 b.fin)])) rfl (Step.loadN Try.ag118 rfl (M.blk 0 rfl) (Nat.le_of_ble_eq_true rfl) rfl) ?_
    refine WL.callX rfl (ref5_prim a b (M.enterW0 trivial)) (CallsF.func Try.en65 rfl) ?_
    rintro _ w7 ⟨rfl, m⟩
    replace M := M.leaveW0 m
    clear m
    replace M : Mem _ _ _ [blk b3 (.cells #[(Value.string b.key), (Value.int .i64 b.start), (Value.int .i64 b.fin)] 118), blk b1 (.cells #[(Value.string a.key), (Value.int .i64 a.start), (Value.int .i64 a.fin)] 118)] [] _ := M
    refine WL.step (v := (Value.int .i64 (primV a b))) rfl (Step.assign rfl) ?_
    refine WL.nil ?_
    refine W.ret ?_
    refine ⟨.inl rfl, (Value.int .i64 (primV a b)), ?_, ?_⟩
    · exact ⟨rfl, (Res.r1 (show RV _ _ _ (.tmp 4) (Value.int .i64 (primV a b)) from by exact rfl))⟩
    refine ⟨?_, M.close [] rfl (by decide) trivial⟩
    exact congrArg (Value.int .i64) (secoV_eq h5p)

theorem nan_str {G : Nat → Prop} {w : World} (x : ByteArray)   (M : Mem G (fun _ => False) w [] [] w) : Rets Try.prog 132 #[(Value.string x)] w fun r w' => r = (Value.bool false) ∧ Mem G (fun _ => False) w [] [] w' := by
  refine Rets.enter 6 _ Try.func132 rfl Try.ntmps132 Try.results132 (by simp) ?_
  refine W.seq' ?_
  refine W.region rfl ?_
  refine WL.step (v := (Value.bool false)) rfl (Step.assign rfl) ?_
  refine WL.nil ?_
  refine W.seq' ?_
  refine W.region rfl ?_
  refine WL.step (v := (Value.string x)) rfl (Step.move rfl) ?_
  refine WL.step (v := (Value.string x)) rfl (Step.move rfl) ?_
  refine WL.step (v := (Value.bool (!(x.toList == x.toList)))) rfl (Step.pure (by kernel_rfl)) ?_
  refine WL.step (v := (Value.bool (!(x.toList == x.toList)))) rfl (Step.assign rfl) ?_
  refine WL.nil ?_
  refine W.ret ?_
  refine ⟨.inl rfl, (Value.bool (!(x.toList == x.toList))), ?_, ?_⟩
  · exact ⟨rfl, (Res.r1 (show RV _ _ _ (.tmp 2) (Value.bool (!(x.toList == x.toList))) from by exact rfl))⟩
  refine ⟨?_, M.close [] rfl (by decide) trivial⟩
  simp

theorem nan_i64 {G : Nat → Prop} {w : World} (x : Int)   (M : Mem G (fun _ => False) w [] [] w) : Rets Try.prog 133 #[(Value.int .i64 x)] w fun r w' => r = (Value.bool false) ∧ Mem G (fun _ => False) w [] [] w' := by
  refine Rets.enter 6 _ Try.func133 rfl Try.ntmps133 Try.results133 (by simp) ?_
  refine W.seq' ?_
  refine W.region rfl ?_
  refine WL.step (v := (Value.bool false)) rfl (Step.assign rfl) ?_
  refine WL.nil ?_
  refine W.seq' ?_
  refine W.region rfl ?_
  refine WL.step (v := (Value.int .i64 x)) rfl (Step.move rfl) ?_
  refine WL.step (v := (Value.int .i64 x)) rfl (Step.move rfl) ?_
  refine WL.step (v := (Value.bool false)) rfl (Step.cast (congrArg Value.bool (show ((x : Int) != (x : Int)) = false by simp)) (Step.pure (by kernel_rfl))) ?_
  refine WL.step (v := (Value.bool false)) rfl (Step.assign rfl) ?_
  refine WL.nil ?_
  refine W.ret ?_
  refine ⟨.inl rfl, (Value.bool false), ?_, ?_⟩
  · exact ⟨rfl, (Res.r1 (show RV _ _ _ (.tmp 2) (Value.bool false) from by exact rfl))⟩
  refine ⟨?_, M.close [] rfl (by decide) trivial⟩
  rfl

theorem comp_str {G : Nat → Prop} {w : World} (x : ByteArray) (y : ByteArray)   (M : Mem G (fun _ => False) w [] [] w) : Rets Try.prog 112 #[(Value.string x), (Value.string y)] w fun r w' => r = (Value.int .i64 (cmpS x y)) ∧ Mem G (fun _ => False) w [] [] w' := by
  refine Rets.enter 20 _ Try.func112 rfl Try.ntmps112 Try.results112 (by simp) ?_
  refine W.seq' ?_
  refine W.region rfl ?_
  refine WL.step (v := (Value.int .i64 0)) rfl (Step.assign rfl) ?_
  refine WL.nil ?_
  refine W.seq' ?_
  refine W.region rfl ?_
  refine WL.step (v := (Value.string x)) rfl (Step.move rfl) ?_
  refine WL.callX rfl (nan_str x (M.enterW0 trivial)) (CallsF.func Try.en132 rfl) ?_
  rintro _ w1 ⟨rfl, m⟩
  replace M := M.leaveW0 m
  clear m
  replace M : Mem _ _ _ [] [] _ := M
  refine WL.step (v := (Value.bool false)) rfl (Step.assign rfl) ?_
  refine WL.nil ?_
  refine W.seq' ?_
  refine W.region rfl ?_
  refine WL.step (v := (Value.string y)) rfl (Step.move rfl) ?_
  refine WL.callX rfl (nan_str y (M.enterW0 trivial)) (CallsF.func Try.en132 rfl) ?_
  rintro _ w2 ⟨rfl, m⟩
  replace M := M.leaveW0 m
  clear m
  replace M : Mem _ _ _ [] [] _ := M
  refine WL.step (v := (Value.bool false)) rfl (Step.assign rfl) ?_
  refine WL.nil ?_
  refine W.seq' ?_
  refine W.seq' ?_
  refine W.region rfl ?_
  refine WL.step (v := (Value.bool false)) rfl (Step.move rfl) ?_
  refine WL.nil ?_
  refine W.cond (t := false) rfl (fun h => by cases h) (fun _ => ?_)
  refine W.skip ?_
  refine W.seq' ?_
  refine W.seq' ?_
  refine W.region rfl ?_
  refine WL.step (v := (Value.bool false)) rfl (Step.move rfl) ?_
  refine WL.nil ?_
  refine W.cond (t := false) rfl (fun h => by cases h) (fun _ => ?_)
  refine W.skip ?_
  refine W.seq' ?_
  refine W.seq' ?_
  refine W.region rfl ?_
  refine WL.step (v := (Value.string x)) rfl (Step.move rfl) ?_
  refine WL.step (v := (Value.string y)) rfl (Step.move rfl) ?_
  refine WL.step (v := (Value.bool (sLt x y))) rfl (Step.pure (by kernel_rfl)) ?_
  refine WL.nil ?_
  refine W.cond (t := sLt x y) rfl (fun h3 => ?_) (fun h3 => ?_)
  ·
    refine W.seq' ?_
    refine W.region rfl ?_
    refine WL.step (v := (Value.int .i64 (-1))) rfl (Step.assign rfl) ?_
    refine WL.nil ?_
    refine W.ret ?_
    refine ⟨.inl rfl, (Value.int .i64 (-1)), ?_, ?_⟩
    · exact ⟨rfl, (Res.r1 (show RV _ _ _ (.tmp 4) (Value.int .i64 (-1)) from by exact rfl))⟩
    refine ⟨?_, M.close [] rfl (by decide) trivial⟩
    first | (simp [cmpS, h3]; done) | simp_all [cmpS, sEq_dec]
  ·
    refine W.skip ?_
    refine W.seq' ?_
    refine W.seq' ?_
    refine W.region rfl ?_
    refine WL.step (v := (Value.string x)) rfl (Step.move rfl) ?_
    refine WL.step (v := (Value.string y)) rfl (Step.move rfl) ?_
    refine WL.step (v := (Value.bool (!(sLt x y || x.toList == y.toList)))) rfl (Step.pure (by kernel_rfl)) ?_
    refine WL.nil ?_
    refine W.cond (t := !(sLt x y || x.toList == y.toList)) rfl (fun h4 => ?_) (fun h4 => ?_)
    ·
      refine W.seq' ?_
      refine W.region rfl ?_
      refine WL.step (v := (Value.int .i64 1)) rfl (Step.assign rfl) ?_
      refine WL.nil ?_
      refine W.ret ?_
      refine ⟨.inl rfl, (Value.int .i64 1), ?_, ?_⟩
      · exact ⟨rfl, (Res.r1 (show RV _ _ _ (.tmp 4) (Value.int .i64 1) from by exact rfl))⟩
      refine ⟨?_, M.close [] rfl (by decide) trivial⟩
      first | (simp [cmpS, h3, h4]; done) | simp_all [cmpS, sEq_dec]
    ·
      refine W.skip ?_
      refine W.seq' ?_
      refine W.region rfl ?_
      refine WL.step (v := (Value.int .i64 0)) rfl (Step.assign rfl) ?_
      refine WL.nil ?_
      refine W.ret ?_
      refine ⟨.inl rfl, (Value.int .i64 0), ?_, ?_⟩
      · exact ⟨rfl, (Res.r1 (show RV _ _ _ (.tmp 4) (Value.int .i64 0) from by exact rfl))⟩
      refine ⟨?_, M.close [] rfl (by decide) trivial⟩
      first | (simp [cmpS, h3, h4]; done) | simp_all [cmpS, sEq_dec]

theorem comp_i64 {G : Nat → Prop} {w : World} (x : Int) (y : Int)   (M : Mem G (fun _ => False) w [] [] w) : Rets Try.prog 113 #[(Value.int .i64 x), (Value.int .i64 y)] w fun r w' => r = (Value.int .i64 (cmpI x y)) ∧ Mem G (fun _ => False) w [] [] w' := by
  refine Rets.enter 20 _ Try.func113 rfl Try.ntmps113 Try.results113 (by simp) ?_
  refine W.seq' ?_
  refine W.region rfl ?_
  refine WL.step (v := (Value.int .i64 0)) rfl (Step.assign rfl) ?_
  refine WL.nil ?_
  refine W.seq' ?_
  refine W.region rfl ?_
  refine WL.step (v := (Value.int .i64 x)) rfl (Step.move rfl) ?_
  refine WL.callX rfl (nan_i64 x (M.enterW0 trivial)) (CallsF.func Try.en133 rfl) ?_
  rintro _ w1 ⟨rfl, m⟩
  replace M := M.leaveW0 m
  clear m
  replace M : Mem _ _ _ [] [] _ := M
  refine WL.step (v := (Value.bool false)) rfl (Step.assign rfl) ?_
  refine WL.nil ?_
  refine W.seq' ?_
  refine W.region rfl ?_
  refine WL.step (v := (Value.int .i64 y)) rfl (Step.move rfl) ?_
  refine WL.callX rfl (nan_i64 y (M.enterW0 trivial)) (CallsF.func Try.en133 rfl) ?_
  rintro _ w2 ⟨rfl, m⟩
  replace M := M.leaveW0 m
  clear m
  replace M : Mem _ _ _ [] [] _ := M
  refine WL.step (v := (Value.bool false)) rfl (Step.assign rfl) ?_
  refine WL.nil ?_
  refine W.seq' ?_
  refine W.seq' ?_
  refine W.region rfl ?_
  refine WL.step (v := (Value.bool false)) rfl (Step.move rfl) ?_
  refine WL.nil ?_
  refine W.cond (t := false) rfl (fun h => by cases h) (fun _ => ?_)
  refine W.skip ?_
  refine W.seq' ?_
  refine W.seq' ?_
  refine W.region rfl ?_
  refine WL.step (v := (Value.bool false)) rfl (Step.move rfl) ?_
  refine WL.nil ?_
  refine W.cond (t := false) rfl (fun h => by cases h) (fun _ => ?_)
  refine W.skip ?_
  refine W.seq' ?_
  refine W.seq' ?_
  refine W.region rfl ?_
  refine WL.step (v := (Value.int .i64 x)) rfl (Step.move rfl) ?_
  refine WL.step (v := (Value.int .i64 y)) rfl (Step.move rfl) ?_
  refine WL.step (v := (Value.bool (decide ((x : Int) < (y : Int))))) rfl (Step.pure (by kernel_rfl)) ?_
  refine WL.nil ?_
  refine W.cond (t := decide ((x : Int) < (y : Int))) rfl (fun h3 => ?_) (fun h3 => ?_)
  ·
    have h3p := of_decide_eq_true h3
    refine W.seq' ?_
    refine W.region rfl ?_
    refine WL.step (v := (Value.int .i64 (-1))) rfl (Step.assign rfl) ?_
    refine WL.nil ?_
    refine W.ret ?_
    refine ⟨.inl rfl, (Value.int .i64 (-1)), ?_, ?_⟩
    · exact ⟨rfl, (Res.r1 (show RV _ _ _ (.tmp 4) (Value.int .i64 (-1)) from by exact rfl))⟩
    refine ⟨?_, M.close [] rfl (by decide) trivial⟩
    simp [cmpI, h3p]; try omega
  ·
    have h3p := of_decide_eq_false h3
    refine W.skip ?_
    refine W.seq' ?_
    refine W.seq' ?_
    refine W.region rfl ?_
    refine WL.step (v := (Value.int .i64 x)) rfl (Step.move rfl) ?_
    refine WL.step (v := (Value.int .i64 y)) rfl (Step.move rfl) ?_
    refine WL.step (v := (Value.bool (decide ((x : Int) > (y : Int))))) rfl (Step.pure (by kernel_rfl)) ?_
    refine WL.nil ?_
    refine W.cond (t := decide ((x : Int) > (y : Int))) rfl (fun h4 => ?_) (fun h4 => ?_)
    ·
      have h4p := of_decide_eq_true h4
      refine W.seq' ?_
      refine W.region rfl ?_
      refine WL.step (v := (Value.int .i64 1)) rfl (Step.assign rfl) ?_
      refine WL.nil ?_
      refine W.ret ?_
      refine ⟨.inl rfl, (Value.int .i64 1), ?_, ?_⟩
      · exact ⟨rfl, (Res.r1 (show RV _ _ _ (.tmp 4) (Value.int .i64 1) from by exact rfl))⟩
      refine ⟨?_, M.close [] rfl (by decide) trivial⟩
      simp [cmpI, h3p, h4p]; try omega
    ·
      have h4p := of_decide_eq_false h4
      refine W.skip ?_
      refine W.seq' ?_
      refine W.region rfl ?_
      refine WL.step (v := (Value.int .i64 0)) rfl (Step.assign rfl) ?_
      refine WL.nil ?_
      refine W.ret ?_
      refine ⟨.inl rfl, (Value.int .i64 0), ?_, ?_⟩
      · exact ⟨rfl, (Res.r1 (show RV _ _ _ (.tmp 4) (Value.int .i64 0) from by exact rfl))⟩
      refine ⟨?_, M.close [] rfl (by decide) trivial⟩
      simp [cmpI, h3p, h4p]; try omega

theorem or_int {G : Nat → Prop} {w : World} (v : Value) (l : List Int)   (M : Mem G (fun _ => False) w [] [SlAt 1 v l.length (l.flatMap intE)] w) : Rets Try.prog 111 #[v] w fun r w' => r = (Value.int .i64 (orL l)) ∧ Mem G (fun _ => False) w [] [] w' := by
  refine Rets.enter 18 _ Try.func111 rfl Try.ntmps111 Try.results111 (by simp) ?_
  have hle1 := SlAt.le' (M.rep 0 rfl)
  have sl2 : IsSl v := SlAt.isSl (Mem.rep M 0 rfl)
  refine W.seq' ?_
  refine W.region rfl ?_
  refine WL.step (v := (Value.int .i64 0)) rfl (Step.assign rfl) ?_
  refine WL.nil ?_
  refine W.seq' ?_
  refine W.region rfl ?_
  refine WL.step (v := (Value.int .i64 0)) rfl (Step.assign rfl) ?_
  refine WL.nil ?_
  refine W.seq' ?_
  refine W.seq' ?_
  refine W.region rfl ?_
  refine WL.step (v := v) rfl (Step.move rfl) ?_
  refine WL.step (v := (Value.int .i64 ↑l.length)) rfl (Step.lenSl Try.un195 rfl (M.rep 0 rfl)) ?_
  refine WL.step (v := (Value.int .i64 0)) rfl (Step.move rfl) ?_
  refine WL.nil ?_
  refine W.block ?_
  refine W.loop (fun kk ρ w' => ∃ (i_ : Nat), ((i_ ≤ l.length) ∧ (∀ j u, j < i_ → l[j]? = some u → u = 0) ∧ kk = l.length - i_) ∧ ρ.has [(3, (Value.int .i64 0)), (6, v), (7, (Value.int .i64 ↑l.length)), (8, (Value.int .i64 ↑i_))] ∧ Mem G (fun _ => False) w [] [SlAt 1 v l.length (l.flatMap intE)]  w') _ ⟨0, ⟨(Nat.zero_le _), (fun _ _ h => absurd h (Nat.not_lt_zero _)), rfl⟩, ⟨rfl, rfl, rfl, rfl, rfl, rfl⟩, M⟩ ?_
  rintro _ ρ4 w3 ⟨i_, ⟨hi5, hi6, rfl⟩, hρ, M⟩
  obtain ⟨ρ4, rfl⟩ := hρ.know
  clear hρ
  refine W.seq' ?_
  refine W.region rfl ?_
  refine WL.step (v := (Value.bool (decide ((↑i_ : Int) < (↑l.length : Int))))) rfl (Step.pure (by kernel_rfl)) ?_
  refine WL.nil ?_
  refine W.seq' ?_
  refine W.cond (t := decide ((↑i_ : Int) < (↑l.length : Int))) rfl (fun h7 => ?_) (fun h7 => ?_)
  ·
    have h7p := of_decide_eq_true h7
    refine W.skip ?_
    refine W.seq' ?_
    refine W.block ?_
    refine W.seq' ?_
    refine W.region rfl ?_
    obtain ⟨cap9, hb8⟩ := SlAt.base (M.rep 0 rfl) (by omega)
    obtain ⟨x10, hx10⟩ := elem_of_lt (xs := l) (i := i_) (by omega)
    refine WL.step (v := (Value.pointer (some ⟨(sBlk v), sOff v + i_ * 1, none⟩))) rfl (Step.indexAddr (i := i_) (Try.un195).run Try.el3.sized rfl rfl (by omega) hb8 (by omega)) ?_
    refine WL.step (v := (Value.int .i64 x10)) rfl (Step.loadE (k := 0) Try.sc3 (flat_ec (M.rep 0 rfl) hx10 intE_len) (by decide) rfl rfl) ?_
    refine WL.step (v := (Value.int .i64 x10)) rfl (Step.assign rfl) ?_
    refine WL.nil ?_
    refine W.seq' ?_
    refine W.region rfl ?_
    refine WL.step (v := (Value.int .i64 x10)) rfl (Step.move rfl) ?_
    refine WL.step (v := (Value.int .i64 0)) rfl (Step.move rfl) ?_
    refine WL.step (v := (Value.bool ((x10 : Int) != (0 : Int)))) rfl (Step.pure (by kernel_rfl)) ?_
    refine WL.nil ?_
    refine W.cond (t := (x10 : Int) != (0 : Int)) rfl (fun h11 => ?_) (fun h11 => ?_)
    ·
      have h11p : ¬ (x10 : Int) = (0 : Int) := by simpa using h11
      refine W.seq' ?_
      refine W.region rfl ?_
      refine WL.step (v := (Value.int .i64 x10)) rfl (Step.move rfl) ?_
      refine WL.step (v := (Value.int .i64 x10)) rfl (Step.assign rfl) ?_
      refine WL.nil ?_
      refine W.ret ?_
      refine ⟨.inl rfl, (Value.int .i64 x10), ?_, ?_⟩
      · exact ⟨rfl, (Res.r1 (show RV _ _ _ (.tmp 2) (Value.int .i64 x10) from by exact rfl))⟩
      refine ⟨?_, M.close [] rfl (by decide) trivial⟩
      refine congrArg (Value.int .i64) ?_
      exact (orL_hit hx10 h11p hi6).symm
    ·
      have h11p : (x10 : Int) = (0 : Int) := by simpa using h11
      refine W.skip ?_
      refine W.region rfl ?_
      refine WL.step (v := (Value.int .i64 (↑i_ + 1))) rfl (Step.add rfl rfl (wrap_i64 (by omega))) ?_
      refine WL.step (v := (Value.int .i64 (↑i_ + 1))) rfl (Step.move rfl) ?_
      refine WL.nil ?_
      exact ⟨_, (by omega), i_ + 1, ⟨(by omega), (orL_step hi6 hx10 h11p), rfl⟩, ⟨rfl, rfl, rfl, rfl, rfl, rfl⟩, M⟩
  ·
    have h7p := of_decide_eq_false h7
    refine W.exit ?_
    refine thn_exit ?_
    refine thn_exit ?_
    refine inBlk_hit ?_
    refine W.seq' ?_
    refine W.region rfl ?_
    refine WL.step (v := (Value.int .i64 0)) rfl (Step.move rfl) ?_
    refine WL.step (v := (Value.int .i64 0)) rfl (Step.assign rfl) ?_
    refine WL.nil ?_
    refine W.ret ?_
    refine ⟨.inl rfl, (Value.int .i64 0), ?_, ?_⟩
    · exact ⟨rfl, (Res.r1 (show RV _ _ _ (.tmp 2) (Value.int .i64 0) from by exact rfl))⟩
    refine ⟨?_, M.close [] rfl (by decide) trivial⟩
    refine congrArg (Value.int .i64) ?_
    exact (orL_none hi6 (by omega)).symm

theorem agg_prim {G : Nat → Prop} {w : World} (a : Pane5) (b : Pane5)   (M : Mem G (fun _ => False) w [] [] w) : Rets Try.prog 64 #[(Value.agg #[(Value.string a.key), (Value.int .i64 a.start), (Value.int .i64 a.fin)]), (Value.agg #[(Value.string b.key), (Value.int .i64 b.start), (Value.int .i64 b.fin)])] w fun r w' => r = (Value.int .i64 (primV a b)) ∧ Mem G (fun _ => False) w [] [] w' := by
  refine Rets.enter 22 _ Try.func64 rfl Try.ntmps64 Try.results64 (by simp) ?_
  refine W.seq' ?_
  refine W.region rfl ?_
  refine WL.box (v := (Value.agg #[(Value.string a.key), (Value.int .i64 a.start), (Value.int .i64 a.fin)])) (c := #[(Value.string a.key), (Value.int .i64 a.start), (Value.int .i64 a.fin)]) M rfl rfl rfl (fun b1 w2 hb1 M => ?_)
  refine WL.box (v := (Value.agg #[(Value.string b.key), (Value.int .i64 b.start), (Value.int .i64 b.fin)])) (c := #[(Value.string b.key), (Value.int .i64 b.start), (Value.int .i64 b.fin)]) M rfl rfl rfl (fun b3 w4 hb3 M => ?_)
  refine WL.step (v := (Value.int .i64 0)) rfl (Step.assign rfl) ?_
  refine WL.nil ?_
  refine W.seq' ?_
  refine W.drawn M [0, 1, 2, 3, 4, 5, 6, 7, 8, 9, 10, 11, 12, 13, 14, 15, 16, 17] [4, 9, 14, 16] [15] [blk b3 (.cells #[(Value.string b.key), (Value.int .i64 b.start), (Value.int .i64 b.fin)] 113), blk b1 (.cells #[(Value.string a.key), (Value.int .i64 a.start), (Value.int .i64 a.fin)] 113)] [] (List.Sublist.cons_cons _ (List.Sublist.cons_cons _ List.Sublist.slnil)) (fun _ h => h) Try.mixed (by kernel_rfl) ?_
  refine TW.pure (v := (Value.pointer (some ⟨b1, 0, none⟩))) rfl (by decide) (by decide) rfl (fun w => (Step.pure (by kernel_rfl))) ?_
  refine TW.read (v := (Value.string a.key)) rfl (by decide) (by decide) rfl (fun A w M => (Step.load1 Try.sc9 rfl ((M.cell 2 rfl 0).trans rfl))) ?_
  refine TW.pure (v := (Value.pointer (some ⟨b3, 0, none⟩))) rfl (by decide) (by decide) rfl (fun w => (Step.pure (by kernel_rfl))) ?_
  refine TW.read (v := (Value.string b.key)) rfl (by decide) (by decide) rfl (fun A w M => (Step.load1 Try.sc9 rfl ((M.cell 1 rfl 0).trans rfl))) ?_
  refine TW.callX (ι := Unit) (fun jx v_ => v_ = (Value.int .i64 (cmpS a.key b.key))) (fun jx => [blk b3 (.cells #[(Value.string b.key), (Value.int .i64 b.start), (Value.int .i64 b.fin)] 113), blk b1 (.cells #[(Value.string a.key), (Value.int .i64 a.start), (Value.int .i64 a.fin)] 113)]) (fun jx => []) rfl (by decide) rfl (fun jx => (List.Sublist.cons_cons _ (List.Sublist.cons_cons _ List.Sublist.slnil))) (fun jx r h => h) (fun A w M => Rets.mono (comp_str a.key b.key (M.enterW0 trivial)) (fun v_ w_ ⟨e_, m⟩ => ⟨(), e_, (M.leaveW0 m).sel (L' := [fl A, blk b3 (.cells #[(Value.string b.key), (Value.int .i64 b.start), (Value.int .i64 b.fin)] 113), blk b1 (.cells #[(Value.string a.key), (Value.int .i64 a.start), (Value.int .i64 a.fin)] 113)]) [0, 1, 2] rfl (by decide), fun b hb => M.keptW0 m (fl A) (List.mem_cons_self ..) b hb⟩)) (fun w => CallsF.func Try.en112 rfl) (fun jx v hp hin => ?_)
  replace hp := hp.symm; subst hp
  clear hin
  change TW _ _ _ _ _ _ _ _ (MemA _ _ _ [blk b3 (.cells #[(Value.string b.key), (Value.int .i64 b.start), (Value.int .i64 b.fin)] 113), blk b1 (.cells #[(Value.string a.key), (Value.int .i64 a.start), (Value.int .i64 a.fin)] 113)] [])
  refine TW.pure (v := (Value.pointer (some ⟨b1, 2, none⟩))) rfl (by decide) (by decide) rfl (fun w => (Step.pure (by kernel_rfl))) ?_
  refine TW.read (v := (Value.int .i64 a.fin)) rfl (by decide) (by decide) rfl (fun A w M => (Step.load1 Try.sc2 rfl ((M.cell 2 rfl 2).trans rfl))) ?_
  refine TW.pure (v := (Value.pointer (some ⟨b3, 2, none⟩))) rfl (by decide) (by decide) rfl (fun w => (Step.pure (by kernel_rfl))) ?_
  refine TW.read (v := (Value.int .i64 b.fin)) rfl (by decide) (by decide) rfl (fun A w M => (Step.load1 Try.sc2 rfl ((M.cell 1 rfl 2).trans rfl))) ?_
  refine TW.callX (ι := Unit) (fun jx v_ => v_ = (Value.int .i64 (cmpI a.fin b.fin))) (fun jx => [blk b3 (.cells #[(Value.string b.key), (Value.int .i64 b.start), (Value.int .i64 b.fin)] 113), blk b1 (.cells #[(Value.string a.key), (Value.int .i64 a.start), (Value.int .i64 a.fin)] 113)]) (fun jx => []) rfl (by decide) rfl (fun jx => (List.Sublist.cons_cons _ (List.Sublist.cons_cons _ List.Sublist.slnil))) (fun jx r h => h) (fun A w M => Rets.mono (comp_i64 a.fin b.fin (M.enterW0 trivial)) (fun v_ w_ ⟨e_, m⟩ => ⟨(), e_, (M.leaveW0 m).sel (L' := [fl A, blk b3 (.cells #[(Value.string b.key), (Value.int .i64 b.start), (Value.int .i64 b.fin)] 113), blk b1 (.cells #[(Value.string a.key), (Value.int .i64 a.start), (Value.int .i64 a.fin)] 113)]) [0, 1, 2] rfl (by decide), fun b hb => M.keptW0 m (fl A) (List.mem_cons_self ..) b hb⟩)) (fun w => CallsF.func Try.en113 rfl) (fun jx v hp hin => ?_)
  replace hp := hp.symm; subst hp
  clear hin
  change TW _ _ _ _ _ _ _ _ (MemA _ _ _ [blk b3 (.cells #[(Value.string b.key), (Value.int .i64 b.start), (Value.int .i64 b.fin)] 113), blk b1 (.cells #[(Value.string a.key), (Value.int .i64 a.start), (Value.int .i64 a.fin)] 113)] [])
  refine TW.pure (v := (Value.pointer (some ⟨b1, 1, none⟩))) rfl (by decide) (by decide) rfl (fun w => (Step.pure (by kernel_rfl))) ?_
  refine TW.read (v := (Value.int .i64 a.start)) rfl (by decide) (by decide) rfl (fun A w M => (Step.load1 Try.sc2 rfl ((M.cell 2 rfl 1).trans rfl))) ?_
  refine TW.pure (v := (Value.pointer (some ⟨b3, 1, none⟩))) rfl (by decide) (by decide) rfl (fun w => (Step.pure (by kernel_rfl))) ?_
  refine TW.read (v := (Value.int .i64 b.start)) rfl (by decide) (by decide) rfl (fun A w M => (Step.load1 Try.sc2 rfl ((M.cell 1 rfl 1).trans rfl))) ?_
  refine TW.callX (ι := Unit) (fun jx v_ => v_ = (Value.int .i64 (cmpI a.start b.start))) (fun jx => [blk b3 (.cells #[(Value.string b.key), (Value.int .i64 b.start), (Value.int .i64 b.fin)] 113), blk b1 (.cells #[(Value.string a.key), (Value.int .i64 a.start), (Value.int .i64 a.fin)] 113)]) (fun jx => []) rfl (by decide) rfl (fun jx => (List.Sublist.cons_cons _ (List.Sublist.cons_cons _ List.Sublist.slnil))) (fun jx r h => h) (fun A w M => Rets.mono (comp_i64 a.start b.start (M.enterW0 trivial)) (fun v_ w_ ⟨e_, m⟩ => ⟨(), e_, (M.leaveW0 m).sel (L' := [fl A, blk b3 (.cells #[(Value.string b.key), (Value.int .i64 b.start), (Value.int .i64 b.fin)] 113), blk b1 (.cells #[(Value.string a.key), (Value.int .i64 a.start), (Value.int .i64 a.fin)] 113)]) [0, 1, 2] rfl (by decide), fun b hb => M.keptW0 m (fl A) (List.mem_cons_self ..) b hb⟩)) (fun w => CallsF.func Try.en113 rfl) (fun jx v hp hin => ?_)
  replace hp := hp.symm; subst hp
  clear hin
  change TW _ _ _ _ _ _ _ _ (MemA _ _ _ [blk b3 (.cells #[(Value.string b.key), (Value.int .i64 b.start), (Value.int .i64 b.fin)] 113), blk b1 (.cells #[(Value.string a.key), (Value.int .i64 a.start), (Value.int .i64 a.fin)] 113)] [])
  refine TW.new (obj := .cells #[(Value.int .i64 (cmpS a.key b.key)), (Value.int .i64 (cmpI a.fin b.fin)), (Value.int .i64 (cmpI a.start b.start))] 3) (fun b => .slice (some ⟨b, 0, none⟩) 3 3) rfl (by decide) (by decide) rfl (fun w => Step.make (by kernel_rfl)) (fun b9 => ?_)
  refine TW.callX (ι := Unit) (fun jx v_ => v_ = (Value.int .i64 (orL ([(cmpS a.key b.key), (cmpI a.fin b.fin), (cmpI a.start b.start)] : List Int)))) (fun jx => [blk b9 (.cells #[(Value.int .i64 (cmpS a.key b.key)), (Value.int .i64 (cmpI a.fin b.fin)), (Value.int .i64 (cmpI a.start b.start))] 3), blk b3 (.cells #[(Value.string b.key), (Value.int .i64 b.start), (Value.int .i64 b.fin)] 113), blk b1 (.cells #[(Value.string a.key), (Value.int .i64 a.start), (Value.int .i64 a.fin)] 113)]) (fun jx => []) rfl (by decide) rfl (fun jx => (List.Sublist.cons _ (List.Sublist.cons_cons _ (List.Sublist.cons_cons _ List.Sublist.slnil)))) (fun jx r h => h) (fun A w M => Rets.mono (or_int (Value.slice (some ⟨b9, 0, none⟩) 3 3) ([(cmpS a.key b.key), (cmpI a.fin b.fin), (cmpI a.start b.start)] : List Int) (M.enterW0 ⟨((M.wideC0 1 rfl).imp fun _ h => SlAt.of_blk (n := 3) (size := 1) h rfl (by decide)), trivial⟩)) (fun v_ w_ ⟨e_, m⟩ => ⟨(), e_, (M.leaveW0 m).sel (L' := [fl A, blk b9 (.cells #[(Value.int .i64 (cmpS a.key b.key)), (Value.int .i64 (cmpI a.fin b.fin)), (Value.int .i64 (cmpI a.start b.start))] 3), blk b3 (.cells #[(Value.string b.key), (Value.int .i64 b.start), (Value.int .i64 b.fin)] 113), blk b1 (.cells #[(Value.string a.key), (Value.int .i64 a.start), (Value.int .i64 a.fin)] 113)]) [0, 1, 2, 3] rfl (by decide), fun b hb => M.keptW0 m (fl A) (List.mem_cons_self ..) b hb⟩)) (fun w => CallsF.func Try.en111 rfl) (fun jx v hp hin => ?_)
  replace hp := hp.symm; subst hp
  clear hin
  change TW _ _ _ _ _ _ _ _ (MemA _ _ _ [blk b9 (.cells #[(Value.int .i64 (cmpS a.key b.key)), (Value.int .i64 (cmpI a.fin b.fin)), (Value.int .i64 (cmpI a.start b.start))] 3), blk b3 (.cells #[(Value.string b.key), (Value.int .i64 b.start), (Value.int .i64 b.fin)] 113), blk b1 (.cells #[(Value.string a.key), (Value.int .i64 a.start), (Value.int .i64 a.fin)] 113)] [])
  refine TW.pure (v := (Value.int .i64 (orL ([(cmpS a.key b.key), (cmpI a.fin b.fin), (cmpI a.start b.start)] : List Int)))) rfl (by decide) (by decide) rfl (fun w => (Step.assign rfl)) ?_
  refine TW.done (fun w10 M => ?_)
  refine W.ret ?_
  refine ⟨.inl rfl, (Value.int .i64 (orL ([(cmpS a.key b.key), (cmpI a.fin b.fin), (cmpI a.start b.start)] : List Int))), ?_, ?_⟩
  · exact ⟨rfl, (Res.r1 (show RV _ _ _ (.tmp 4) (Value.int .i64 (orL ([(cmpS a.key b.key), (cmpI a.fin b.fin), (cmpI a.start b.start)] : List Int))) from by exact rfl))⟩
  refine ⟨?_, M.close [] rfl (by decide) trivial⟩
  rfl

theorem agg_seco {G : Nat → Prop} {w : World} (a : Pane5) (b : Pane5)   (M : Mem G (fun _ => False) w [] [] w) : Rets Try.prog 67 #[(Value.agg #[(Value.string a.key), (Value.int .i64 a.start), (Value.int .i64 a.fin)]), (Value.agg #[(Value.string b.key), (Value.int .i64 b.start), (Value.int .i64 b.fin)])] w fun r w' => r = (Value.int .i64 (secoV a b)) ∧ Mem G (fun _ => False) w [] [] w' := by
  refine Rets.enter 22 _ Try.func67 rfl Try.ntmps67 Try.results67 (by simp) ?_
  refine W.seq' ?_
  refine W.region rfl ?_
  refine WL.box (v := (Value.agg #[(Value.string a.key), (Value.int .i64 a.start), (Value.int .i64 a.fin)])) (c := #[(Value.string a.key), (Value.int .i64 a.start), (Value.int .i64 a.fin)]) M rfl rfl rfl (fun b1 w2 hb1 M => ?_)
  refine WL.box (v := (Value.agg #[(Value.string b.key), (Value.int .i64 b.start), (Value.int .i64 b.fin)])) (c := #[(Value.string b.key), (Value.int .i64 b.start), (Value.int .i64 b.fin)]) M rfl rfl rfl (fun b3 w4 hb3 M => ?_)
  refine WL.step (v := (Value.int .i64 0)) rfl (Step.assign rfl) ?_
  refine WL.nil ?_
  refine W.seq' ?_
  refine W.drawn M [0, 1, 2, 3, 4, 5, 6, 7, 8, 9, 10, 11, 12, 13, 14, 15, 16, 17] [4, 9, 14, 16] [15] [blk b3 (.cells #[(Value.string b.key), (Value.int .i64 b.start), (Value.int .i64 b.fin)] 113), blk b1 (.cells #[(Value.string a.key), (Value.int .i64 a.start), (Value.int .i64 a.fin)] 113)] [] (List.Sublist.cons_cons _ (List.Sublist.cons_cons _ List.Sublist.slnil)) (fun _ h => h) Try.mixed (by kernel_rfl) ?_
  refine TW.pure (v := (Value.pointer (some ⟨b1, 2, none⟩))) rfl (by decide) (by decide) rfl (fun w => (Step.pure (by kernel_rfl))) ?_
  refine TW.read (v := (Value.int .i64 a.fin)) rfl (by decide) (by decide) rfl (fun A w M => (Step.load1 Try.sc2 rfl ((M.cell 2 rfl 2).trans rfl))) ?_
  refine TW.pure (v := (Value.pointer (some ⟨b3, 2, none⟩))) rfl (by decide) (by decide) rfl (fun w => (Step.pure (by kernel_rfl))) ?_
  refine TW.read (v := (Value.int .i64 b.fin)) rfl (by decide) (by decide) rfl (fun A w M => (Step.load1 Try.sc2 rfl ((M.cell 1 rfl 2).trans rfl))) ?_
  refine TW.callX (ι := Unit) (fun jx v_ => v_ = (Value.int .i64 (cmpI a.fin b.fin))) (fun jx => [blk b3 (.cells #[(Value.string b.key), (Value.int .i64 b.start), (Value.int .i64 b.fin)] 113), blk b1 (.cells #[(Value.string a.key), (Value.int .i64 a.start), (Value.int .i64 a.fin)] 113)]) (fun jx => []) rfl (by decide) rfl (fun jx => (List.Sublist.cons_cons _ (List.Sublist.cons_cons _ List.Sublist.slnil))) (fun jx r h => h) (fun A w M => Rets.mono (comp_i64 a.fin b.fin (M.enterW0 trivial)) (fun v_ w_ ⟨e_, m⟩ => ⟨(), e_, (M.leaveW0 m).sel (L' := [fl A, blk b3 (.cells #[(Value.string b.key), (Value.int .i64 b.start), (Value.int .i64 b.fin)] 113), blk b1 (.cells #[(Value.string a.key), (Value.int .i64 a.start), (Value.int .i64 a.fin)] 113)]) [0, 1, 2] rfl (by decide), fun b hb => M.keptW0 m (fl A) (List.mem_cons_self ..) b hb⟩)) (fun w => CallsF.func Try.en113 rfl) (fun jx v hp hin => ?_)
  replace hp := hp.symm; subst hp
  clear hin
  change TW _ _ _ _ _ _ _ _ (MemA _ _ _ [blk b3 (.cells #[(Value.string b.key), (Value.int .i64 b.start), (Value.int .i64 b.fin)] 113), blk b1 (.cells #[(Value.string a.key), (Value.int .i64 a.start), (Value.int .i64 a.fin)] 113)] [])
  refine TW.pure (v := (Value.pointer (some ⟨b1, 0, none⟩))) rfl (by decide) (by decide) rfl (fun w => (Step.pure (by kernel_rfl))) ?_
  refine TW.read (v := (Value.string a.key)) rfl (by decide) (by decide) rfl (fun A w M => (Step.load1 Try.sc9 rfl ((M.cell 2 rfl 0).trans rfl))) ?_
  refine TW.pure (v := (Value.pointer (some ⟨b3, 0, none⟩))) rfl (by decide) (by decide) rfl (fun w => (Step.pure (by kernel_rfl))) ?_
  refine TW.read (v := (Value.string b.key)) rfl (by decide) (by decide) rfl (fun A w M => (Step.load1 Try.sc9 rfl ((M.cell 1 rfl 0).trans rfl))) ?_
  refine TW.callX (ι := Unit) (fun jx v_ => v_ = (Value.int .i64 (cmpS a.key b.key))) (fun jx => [blk b3 (.cells #[(Value.string b.key), (Value.int .i64 b.start), (Value.int .i64 b.fin)] 113), blk b1 (.cells #[(Value.string a.key), (Value.int .i64 a.start), (Value.int .i64 a.fin)] 113)]) (fun jx => []) rfl (by decide) rfl (fun jx => (List.Sublist.cons_cons _ (List.Sublist.cons_cons _ List.Sublist.slnil))) (fun jx r h => h) (fun A w M => Rets.mono (comp_str a.key b.key (M.enterW0 trivial)) (fun v_ w_ ⟨e_, m⟩ => ⟨(), e_, (M.leaveW0 m).sel (L' := [fl A, blk b3 (.cells #[(Value.string b.key), (Value.int .i64 b.start), (Value.int .i64 b.fin)] 113), blk b1 (.cells #[(Value.string a.key), (Value.int .i64 a.start), (Value.int .i64 a.fin)] 113)]) [0, 1, 2] rfl (by decide), fun b hb => M.keptW0 m (fl A) (List.mem_cons_self ..) b hb⟩)) (fun w => CallsF.func Try.en112 rfl) (fun jx v hp hin => ?_)
  replace hp := hp.symm; subst hp
  clear hin
  change TW _ _ _ _ _ _ _ _ (MemA _ _ _ [blk b3 (.cells #[(Value.string b.key), (Value.int .i64 b.start), (Value.int .i64 b.fin)] 113), blk b1 (.cells #[(Value.string a.key), (Value.int .i64 a.start), (Value.int .i64 a.fin)] 113)] [])
  refine TW.pure (v := (Value.pointer (some ⟨b1, 1, none⟩))) rfl (by decide) (by decide) rfl (fun w => (Step.pure (by kernel_rfl))) ?_
  refine TW.read (v := (Value.int .i64 a.start)) rfl (by decide) (by decide) rfl (fun A w M => (Step.load1 Try.sc2 rfl ((M.cell 2 rfl 1).trans rfl))) ?_
  refine TW.pure (v := (Value.pointer (some ⟨b3, 1, none⟩))) rfl (by decide) (by decide) rfl (fun w => (Step.pure (by kernel_rfl))) ?_
  refine TW.read (v := (Value.int .i64 b.start)) rfl (by decide) (by decide) rfl (fun A w M => (Step.load1 Try.sc2 rfl ((M.cell 1 rfl 1).trans rfl))) ?_
  refine TW.callX (ι := Unit) (fun jx v_ => v_ = (Value.int .i64 (cmpI a.start b.start))) (fun jx => [blk b3 (.cells #[(Value.string b.key), (Value.int .i64 b.start), (Value.int .i64 b.fin)] 113), blk b1 (.cells #[(Value.string a.key), (Value.int .i64 a.start), (Value.int .i64 a.fin)] 113)]) (fun jx => []) rfl (by decide) rfl (fun jx => (List.Sublist.cons_cons _ (List.Sublist.cons_cons _ List.Sublist.slnil))) (fun jx r h => h) (fun A w M => Rets.mono (comp_i64 a.start b.start (M.enterW0 trivial)) (fun v_ w_ ⟨e_, m⟩ => ⟨(), e_, (M.leaveW0 m).sel (L' := [fl A, blk b3 (.cells #[(Value.string b.key), (Value.int .i64 b.start), (Value.int .i64 b.fin)] 113), blk b1 (.cells #[(Value.string a.key), (Value.int .i64 a.start), (Value.int .i64 a.fin)] 113)]) [0, 1, 2] rfl (by decide), fun b hb => M.keptW0 m (fl A) (List.mem_cons_self ..) b hb⟩)) (fun w => CallsF.func Try.en113 rfl) (fun jx v hp hin => ?_)
  replace hp := hp.symm; subst hp
  clear hin
  change TW _ _ _ _ _ _ _ _ (MemA _ _ _ [blk b3 (.cells #[(Value.string b.key), (Value.int .i64 b.start), (Value.int .i64 b.fin)] 113), blk b1 (.cells #[(Value.string a.key), (Value.int .i64 a.start), (Value.int .i64 a.fin)] 113)] [])
  refine TW.new (obj := .cells #[(Value.int .i64 (cmpI a.fin b.fin)), (Value.int .i64 (cmpS a.key b.key)), (Value.int .i64 (cmpI a.start b.start))] 3) (fun b => .slice (some ⟨b, 0, none⟩) 3 3) rfl (by decide) (by decide) rfl (fun w => Step.make (by kernel_rfl)) (fun b9 => ?_)
  refine TW.callX (ι := Unit) (fun jx v_ => v_ = (Value.int .i64 (orL ([(cmpI a.fin b.fin), (cmpS a.key b.key), (cmpI a.start b.start)] : List Int)))) (fun jx => [blk b9 (.cells #[(Value.int .i64 (cmpI a.fin b.fin)), (Value.int .i64 (cmpS a.key b.key)), (Value.int .i64 (cmpI a.start b.start))] 3), blk b3 (.cells #[(Value.string b.key), (Value.int .i64 b.start), (Value.int .i64 b.fin)] 113), blk b1 (.cells #[(Value.string a.key), (Value.int .i64 a.start), (Value.int .i64 a.fin)] 113)]) (fun jx => []) rfl (by decide) rfl (fun jx => (List.Sublist.cons _ (List.Sublist.cons_cons _ (List.Sublist.cons_cons _ List.Sublist.slnil)))) (fun jx r h => h) (fun A w M => Rets.mono (or_int (Value.slice (some ⟨b9, 0, none⟩) 3 3) ([(cmpI a.fin b.fin), (cmpS a.key b.key), (cmpI a.start b.start)] : List Int) (M.enterW0 ⟨((M.wideC0 1 rfl).imp fun _ h => SlAt.of_blk (n := 3) (size := 1) h rfl (by decide)), trivial⟩)) (fun v_ w_ ⟨e_, m⟩ => ⟨(), e_, (M.leaveW0 m).sel (L' := [fl A, blk b9 (.cells #[(Value.int .i64 (cmpI a.fin b.fin)), (Value.int .i64 (cmpS a.key b.key)), (Value.int .i64 (cmpI a.start b.start))] 3), blk b3 (.cells #[(Value.string b.key), (Value.int .i64 b.start), (Value.int .i64 b.fin)] 113), blk b1 (.cells #[(Value.string a.key), (Value.int .i64 a.start), (Value.int .i64 a.fin)] 113)]) [0, 1, 2, 3] rfl (by decide), fun b hb => M.keptW0 m (fl A) (List.mem_cons_self ..) b hb⟩)) (fun w => CallsF.func Try.en111 rfl) (fun jx v hp hin => ?_)
  replace hp := hp.symm; subst hp
  clear hin
  change TW _ _ _ _ _ _ _ _ (MemA _ _ _ [blk b9 (.cells #[(Value.int .i64 (cmpI a.fin b.fin)), (Value.int .i64 (cmpS a.key b.key)), (Value.int .i64 (cmpI a.start b.start))] 3), blk b3 (.cells #[(Value.string b.key), (Value.int .i64 b.start), (Value.int .i64 b.fin)] 113), blk b1 (.cells #[(Value.string a.key), (Value.int .i64 a.start), (Value.int .i64 a.fin)] 113)] [])
  refine TW.pure (v := (Value.int .i64 (orL ([(cmpI a.fin b.fin), (cmpS a.key b.key), (cmpI a.start b.start)] : List Int)))) rfl (by decide) (by decide) rfl (fun w => (Step.assign rfl)) ?_
  refine TW.done (fun w10 M => ?_)
  refine W.ret ?_
  refine ⟨.inl rfl, (Value.int .i64 (orL ([(cmpI a.fin b.fin), (cmpS a.key b.key), (cmpI a.start b.start)] : List Int))), ?_, ?_⟩
  · exact ⟨rfl, (Res.r1 (show RV _ _ _ (.tmp 4) (Value.int .i64 (orL ([(cmpI a.fin b.fin), (cmpS a.key b.key), (cmpI a.start b.start)] : List Int))) from by exact rfl))⟩
  refine ⟨?_, M.close [] rfl (by decide) trivial⟩
  rfl

theorem cmp_false {G : Nat → Prop} {w : World} (a : Row5) (b : Row5)   (M : Mem G (fun _ => False) w [] [] w) : Rets Try.prog 110 #[(Value.agg #[(Value.func (.func 64) #[] #[])]), (Value.agg #[(Value.string a.pane.key), (Value.int .i64 a.pane.start), (Value.int .i64 a.pane.fin), (Value.int .i64 a.agg.count), (Value.int .i64 a.agg.sum), (Value.int .i64 a.agg.min), (Value.int .i64 a.agg.max)]), (Value.agg #[(Value.string b.pane.key), (Value.int .i64 b.pane.start), (Value.int .i64 b.pane.fin), (Value.int .i64 b.agg.count), (Value.int .i64 b.agg.sum), (Value.int .i64 b.agg.min), (Value.int .i64 b.agg.max)])] w fun r w' => r = (Value.int .i64 (cmpRow false a b)) ∧ Mem G (fun _ => False) w [] [] w' := by
  refine Rets.enter 14 _ Try.func110 rfl Try.ntmps110 Try.results110 (by simp) ?_
  refine W.seq' ?_
  refine W.region rfl ?_
  refine WL.box (v := (Value.agg #[(Value.func (.func 64) #[] #[])])) (c := #[(Value.func (.func 64) #[] #[])]) M rfl rfl rfl (fun b1 w2 hb1 M => ?_)
  refine WL.box (v := (Value.agg #[(Value.string a.pane.key), (Value.int .i64 a.pane.start), (Value.int .i64 a.pane.fin), (Value.int .i64 a.agg.count), (Value.int .i64 a.agg.sum), (Value.int .i64 a.agg.min), (Value.int .i64 a.agg.max)])) (c := #[(Value.string a.pane.key), (Value.int .i64 a.pane.start), (Value.int .i64 a.pane.fin), (Value.int .i64 a.agg.count), (Value.int .i64 a.agg.sum), (Value.int .i64 a.agg.min), (Value.int .i64 a.agg.max)]) M rfl rfl rfl (fun b3 w4 hb3 M => ?_)
  refine WL.box (v := (Value.agg #[(Value.string b.pane.key), (Value.int .i64 b.pane.start), (Value.int .i64 b.pane.fin), (Value.int .i64 b.agg.count), (Value.int .i64 b.agg.sum), (Value.int .i64 b.agg.min), (Value.int .i64 b.agg.max)])) (c := #[(Value.string b.pane.key), (Value.int .i64 b.pane.start), (Value.int .i64 b.pane.fin), (Value.int .i64 b.agg.count), (Value.int .i64 b.agg.sum), (Value.int .i64 b.agg.min), (Value.int .i64 b.agg.max)]) M rfl rfl rfl (fun b5 w6 hb5 M => ?_)
  refine WL.step (v := (Value.int .i64 0)) rfl (Step.assign rfl) ?_
  refine WL.nil ?_
  refine W.seq' ?_
  refine W.region rfl ?_
  refine WL.step (v := (Value.pointer (some ⟨b1, 0, none⟩))) rfl (Step.pure (by kernel_rfl)) ?_
  refine WL.step (v := (Value.func (.func 64) #[] #[])) rfl (Step.load1 Try.sc116 rfl ((M.cell 2 rfl 0).trans rfl)) ?_
  refine WL.step (v := (Value.pointer (some ⟨b3, 0, none⟩))) rfl (Step.pure (by kernel_rfl)) ?_
  refine WL.step (v := (Value.agg #[(Value.string a.pane.key), (Value.int .i64 a.pane.start), (Value.int .i64 a.pane.fin)])) rfl (Step.loadN Try.ag113 rfl (M.blk 1 rfl) (Nat.le_of_ble_eq_true rfl) rfl) ?_
  refine WL.step (v := (Value.pointer (some ⟨b5, 0, none⟩))) rfl (Step.pure (by kernel_rfl)) ?_
  refine WL.step (v := (Value.agg #[(Value.string b.pane.key), (Value.int .i64 b.pane.start), (Value.int .i64 b.pane.fin)])) rfl (Step.loadN Try.ag113 rfl (M.blk 0 rfl) (Nat.le_of_ble_eq_true rfl) rfl) ?_
  refine WL.callX rfl (agg_prim a.pane b.pane (M.enterW0 trivial)) (CallsF.value Try.en64 rfl rfl rfl) ?_
  rintro _ w7 ⟨rfl, m⟩
  replace M := M.leaveW0 m
  clear m
  replace M : Mem _ _ _ [blk b5 (.cells #[(Value.string b.pane.key), (Value.int .i64 b.pane.start), (Value.int .i64 b.pane.fin), (Value.int .i64 b.agg.count), (Value.int .i64 b.agg.sum), (Value.int .i64 b.agg.min), (Value.int .i64 b.agg.max)] 115), blk b3 (.cells #[(Value.string a.pane.key), (Value.int .i64 a.pane.start), (Value.int .i64 a.pane.fin), (Value.int .i64 a.agg.count), (Value.int .i64 a.agg.sum), (Value.int .i64 a.agg.min), (Value.int .i64 a.agg.max)] 115), blk b1 (.cells #[(Value.func (.func 64) #[] #[])] 171)] [] _ := M
  refine WL.step (v := (Value.int .i64 (primV a.pane b.pane))) rfl (Step.assign rfl) ?_
  refine WL.nil ?_
  refine W.ret ?_
  refine ⟨.inl rfl, (Value.int .i64 (primV a.pane b.pane)), ?_, ?_⟩
  · exact ⟨rfl, (Res.r1 (show RV _ _ _ (.tmp 6) (Value.int .i64 (primV a.pane b.pane)) from by exact rfl))⟩
  refine ⟨?_, M.close [] rfl (by decide) trivial⟩
  rfl

theorem cmp_true {G : Nat → Prop} {w : World} (a : Row5) (b : Row5)   (M : Mem G (fun _ => False) w [] [] w) : Rets Try.prog 110 #[(Value.agg #[(Value.func (.func 67) #[] #[])]), (Value.agg #[(Value.string a.pane.key), (Value.int .i64 a.pane.start), (Value.int .i64 a.pane.fin), (Value.int .i64 a.agg.count), (Value.int .i64 a.agg.sum), (Value.int .i64 a.agg.min), (Value.int .i64 a.agg.max)]), (Value.agg #[(Value.string b.pane.key), (Value.int .i64 b.pane.start), (Value.int .i64 b.pane.fin), (Value.int .i64 b.agg.count), (Value.int .i64 b.agg.sum), (Value.int .i64 b.agg.min), (Value.int .i64 b.agg.max)])] w fun r w' => r = (Value.int .i64 (cmpRow true a b)) ∧ Mem G (fun _ => False) w [] [] w' := by
  refine Rets.enter 14 _ Try.func110 rfl Try.ntmps110 Try.results110 (by simp) ?_
  refine W.seq' ?_
  refine W.region rfl ?_
  refine WL.box (v := (Value.agg #[(Value.func (.func 67) #[] #[])])) (c := #[(Value.func (.func 67) #[] #[])]) M rfl rfl rfl (fun b1 w2 hb1 M => ?_)
  refine WL.box (v := (Value.agg #[(Value.string a.pane.key), (Value.int .i64 a.pane.start), (Value.int .i64 a.pane.fin), (Value.int .i64 a.agg.count), (Value.int .i64 a.agg.sum), (Value.int .i64 a.agg.min), (Value.int .i64 a.agg.max)])) (c := #[(Value.string a.pane.key), (Value.int .i64 a.pane.start), (Value.int .i64 a.pane.fin), (Value.int .i64 a.agg.count), (Value.int .i64 a.agg.sum), (Value.int .i64 a.agg.min), (Value.int .i64 a.agg.max)]) M rfl rfl rfl (fun b3 w4 hb3 M => ?_)
  refine WL.box (v := (Value.agg #[(Value.string b.pane.key), (Value.int .i64 b.pane.start), (Value.int .i64 b.pane.fin), (Value.int .i64 b.agg.count), (Value.int .i64 b.agg.sum), (Value.int .i64 b.agg.min), (Value.int .i64 b.agg.max)])) (c := #[(Value.string b.pane.key), (Value.int .i64 b.pane.start), (Value.int .i64 b.pane.fin), (Value.int .i64 b.agg.count), (Value.int .i64 b.agg.sum), (Value.int .i64 b.agg.min), (Value.int .i64 b.agg.max)]) M rfl rfl rfl (fun b5 w6 hb5 M => ?_)
  refine WL.step (v := (Value.int .i64 0)) rfl (Step.assign rfl) ?_
  refine WL.nil ?_
  refine W.seq' ?_
  refine W.region rfl ?_
  refine WL.step (v := (Value.pointer (some ⟨b1, 0, none⟩))) rfl (Step.pure (by kernel_rfl)) ?_
  refine WL.step (v := (Value.func (.func 67) #[] #[])) rfl (Step.load1 Try.sc116 rfl ((M.cell 2 rfl 0).trans rfl)) ?_
  refine WL.step (v := (Value.pointer (some ⟨b3, 0, none⟩))) rfl (Step.pure (by kernel_rfl)) ?_
  refine WL.step (v := (Value.agg #[(Value.string a.pane.key), (Value.int .i64 a.pane.start), (Value.int .i64 a.pane.fin)])) rfl (Step.loadN Try.ag113 rfl (M.blk 1 rfl) (Nat.le_of_ble_eq_true rfl) rfl) ?_
  refine WL.step (v := (Value.pointer (some ⟨b5, 0, none⟩))) rfl (Step.pure (by kernel_rfl)) ?_
  refine WL.step (v := (Value.agg #[(Value.string b.pane.key), (Value.int .i64 b.pane.start), (Value.int .i64 b.pane.fin)])) rfl (Step.loadN Try.ag113 rfl (M.blk 0 rfl) (Nat.le_of_ble_eq_true rfl) rfl) ?_
  refine WL.callX rfl (agg_seco a.pane b.pane (M.enterW0 trivial)) (CallsF.value Try.en67 rfl rfl rfl) ?_
  rintro _ w7 ⟨rfl, m⟩
  replace M := M.leaveW0 m
  clear m
  replace M : Mem _ _ _ [blk b5 (.cells #[(Value.string b.pane.key), (Value.int .i64 b.pane.start), (Value.int .i64 b.pane.fin), (Value.int .i64 b.agg.count), (Value.int .i64 b.agg.sum), (Value.int .i64 b.agg.min), (Value.int .i64 b.agg.max)] 115), blk b3 (.cells #[(Value.string a.pane.key), (Value.int .i64 a.pane.start), (Value.int .i64 a.pane.fin), (Value.int .i64 a.agg.count), (Value.int .i64 a.agg.sum), (Value.int .i64 a.agg.min), (Value.int .i64 a.agg.max)] 115), blk b1 (.cells #[(Value.func (.func 67) #[] #[])] 171)] [] _ := M
  refine WL.step (v := (Value.int .i64 (secoV a.pane b.pane))) rfl (Step.assign rfl) ?_
  refine WL.nil ?_
  refine W.ret ?_
  refine ⟨.inl rfl, (Value.int .i64 (secoV a.pane b.pane)), ?_, ?_⟩
  · exact ⟨rfl, (Res.r1 (show RV _ _ _ (.tmp 6) (Value.int .i64 (secoV a.pane b.pane)) from by exact rfl))⟩
  refine ⟨?_, M.close [] rfl (by decide) trivial⟩
  rfl
end Go.Proofs
