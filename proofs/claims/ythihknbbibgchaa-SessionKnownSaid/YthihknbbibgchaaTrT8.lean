/- Walks. -/
import Derived.Test.YthihknbbibgchaaTrT7
set_option maxRecDepth 100000
set_option linter.all false
namespace Go.Proofs
open Go Tp
theorem Try.en67 : Enters Try.prog 67 := fun _ _ => by kernel_rfl
theorem Try.en68 : Enters Try.prog 68 := fun _ _ => by kernel_rfl

theorem ses_hold {G : Nat → Prop} {w : World} (s : Span) (tb : Nat) (t : Int)   (M : Mem G (fun _ => False) w [] [(fun w => w.heap[tb]? = some (.cells #[(Value.int .i64 t)] 2))] w) : Rets Try.prog 68 #[(Value.agg #[(Value.int .i64 s.start), (Value.int .i64 s.fin)]), (Value.pointer (some ⟨tb, 0, none⟩))] w fun r w' => r = (Value.bool (inS t s)) ∧ Mem G (fun _ => False) w [] [] w' := by
  refine Rets.enter 14 _ Try.func68 rfl Try.ntmps68 Try.results68 (by simp) ?_
  refine W.seq' ?_
  refine W.region rfl ?_
  refine WL.box (v := (Value.agg #[(Value.int .i64 s.start), (Value.int .i64 s.fin)])) (c := #[(Value.int .i64 s.start), (Value.int .i64 s.fin)]) M rfl rfl rfl (fun b1 w2 hb1 M => ?_)
  refine WL.step (v := (Value.bool false)) rfl (Step.assign rfl) ?_
  refine WL.nil ?_
  refine W.seq' ?_
  refine W.region rfl ?_
  refine WL.step (v := (Value.pointer (some ⟨b1, 0, none⟩))) rfl (Step.pure (by kernel_rfl)) ?_
  refine WL.step (v := (Value.int .i64 s.start)) rfl (Step.load1 Try.sc2 rfl ((M.cell 0 rfl 0).trans rfl)) ?_
  refine WL.step (v := (Value.int .i64 t)) rfl (Step.load1 Try.sc2 rfl ((cell_blk (M.rep 0 rfl) 0).trans rfl)) ?_
  refine WL.step (v := (Value.bool (decide ((s.start : Int) ≤ (t : Int))))) rfl (Step.pure (by kernel_rfl)) ?_
  refine WL.step (v := (Value.bool (decide ((s.start : Int) ≤ (t : Int))))) rfl (Step.move rfl) ?_
  rcases Bool.eq_false_or_eq_true (decide ((s.start : Int) ≤ (t : Int))) with h3 | h3
  ·
    have h3p := of_decide_eq_true h3
    rw [h3]
    refine WL.step (v := (Value.int .i64 t)) rfl (Step.load1 Try.sc2 rfl ((cell_blk (M.rep 0 rfl) 0).trans rfl)) ?_
    refine WL.step (v := (Value.pointer (some ⟨b1, 1, none⟩))) rfl (Step.pure (by kernel_rfl)) ?_
    refine WL.step (v := (Value.int .i64 s.fin)) rfl (Step.load1 Try.sc2 rfl ((M.cell 0 rfl 1).trans rfl)) ?_
    refine WL.step (v := (Value.bool (decide ((t : Int) < (s.fin : Int))))) rfl (Step.pure (by kernel_rfl)) ?_
    refine WL.step (v := (Value.bool (decide ((t : Int) < (s.fin : Int))))) rfl (Step.pick (t := true) rfl rfl) ?_
    refine WL.step (v := (Value.bool (decide ((t : Int) < (s.fin : Int))))) rfl (Step.assign rfl) ?_
    refine WL.nil ?_
    refine W.ret ?_
    refine ⟨.inl rfl, (Value.bool (decide ((t : Int) < (s.fin : Int)))), ?_, ?_⟩
    · exact ⟨rfl, (Res.r1 (show RV _ _ _ (.tmp 3) (Value.bool (decide ((t : Int) < (s.fin : Int)))) from by exact rfl))⟩
    refine ⟨?_, M.close [] rfl (by decide) trivial⟩
    refine congrArg Value.bool ?_
    first | rfl | (simp [inS, h3p]; done) | (simp [inS, h3p]; omega) | (rw [Bool.eq_iff_iff]; simp [inS, h3p]; done) | (rw [Bool.eq_iff_iff]; simp [inS, h3p]; omega) | grind [inS]
  ·
    have h3p := of_decide_eq_false h3
    rw [h3]
    refine WL.pass rfl ?_
    refine WL.pass rfl ?_
    refine WL.pass rfl ?_
    refine WL.pass rfl ?_
    refine WL.step (v := (Value.bool false)) rfl (Step.pick (t := false) rfl rfl) ?_
    refine WL.step (v := (Value.bool false)) rfl (Step.assign rfl) ?_
    refine WL.nil ?_
    refine W.ret ?_
    refine ⟨.inl rfl, (Value.bool false), ?_, ?_⟩
    · exact ⟨rfl, (Res.r1 (show RV _ _ _ (.tmp 3) (Value.bool false) from by exact rfl))⟩
    refine ⟨?_, M.close [] rfl (by decide) trivial⟩
    refine congrArg Value.bool ?_
    first | rfl | (simp [inS, h3p]; done) | (simp [inS, h3p]; omega) | (rw [Bool.eq_iff_iff]; simp [inS, h3p]; done) | (rw [Bool.eq_iff_iff]; simp [inS, h3p]; omega) | grind [inS]

theorem ix_ses {G : Nat → Prop} {w : World} (v : Value) (xs : List Span) (tb : Nat) (t : Int)   (M : Mem G (fun _ => False) w [] [SlAt 2 v xs.length (xs.flatMap spanE), (fun w => w.heap[tb]? = some (.cells #[(Value.int .i64 t)] 2))] w) : Rets Try.prog 67 #[v, (Value.func (.func 68) #[] #[(Value.pointer (some ⟨tb, 0, none⟩))])] w fun r w' => r = (Value.int .i64 (ixF (inS t) xs)) ∧ Mem G (fun _ => False) w [] [] w' := by
  refine Rets.enter 19 _ Try.func67 rfl Try.ntmps67 Try.results67 (by simp) ?_
  have hle1 := SlAt.le' (M.rep 0 rfl)
  have sl2 : IsSl v := SlAt.isSl (Mem.rep M 0 rfl)
  refine W.seq' ?_
  refine W.region rfl ?_
  refine WL.step (v := (Value.int .i64 0)) rfl (Step.assign rfl) ?_
  refine WL.nil ?_
  refine W.seq' ?_
  refine W.seq' ?_
  refine W.region rfl ?_
  refine WL.step (v := v) rfl (Step.move rfl) ?_
  refine WL.step (v := (Value.int .i64 ↑xs.length)) rfl (Step.lenSl Try.un58 rfl (M.rep 0 rfl)) ?_
  refine WL.step (v := (Value.int .i64 0)) rfl (Step.move rfl) ?_
  refine WL.nil ?_
  refine W.block ?_
  refine W.loop (fun kk ρ w' => ∃ (i_ : Nat), ((i_ ≤ xs.length) ∧ (∀ j u, j < i_ → xs[j]? = some u → (inS t) u = false) ∧ kk = xs.length - i_) ∧ ρ.has [(0, v), (1, (Value.func (.func 68) #[] #[(Value.pointer (some ⟨tb, 0, none⟩))])), (7, (Value.int .i64 ↑xs.length)), (8, (Value.int .i64 ↑i_))] ∧ Mem G (fun _ => False) w [] [SlAt 2 v xs.length (xs.flatMap spanE), (fun w => w.heap[tb]? = some (.cells #[(Value.int .i64 t)] 2))]  w') _ ⟨0, ⟨(Nat.zero_le _), (fun _ _ h => absurd h (Nat.not_lt_zero _)), rfl⟩, ⟨rfl, rfl, rfl, rfl, rfl, rfl⟩, M⟩ ?_
  rintro _ ρ4 w3 ⟨i_, ⟨hi5, hi6, rfl⟩, hρ, M⟩
  obtain ⟨ρ4, rfl⟩ := hρ.know
  clear hρ
  refine W.seq' ?_
  refine W.region rfl ?_
  refine WL.step (v := (Value.bool (decide ((↑i_ : Int) < (↑xs.length : Int))))) rfl (Step.pure (by kernel_rfl)) ?_
  refine WL.nil ?_
  refine W.seq' ?_
  refine W.cond (t := decide ((↑i_ : Int) < (↑xs.length : Int))) rfl (fun h7 => ?_) (fun h7 => ?_)
  ·
    have h7p := of_decide_eq_true h7
    refine W.skip ?_
    refine W.seq' ?_
    refine W.block ?_
    refine W.seq' ?_
    refine W.region rfl ?_
    refine WL.step (v := (Value.int .i64 ↑i_)) rfl (Step.move rfl) ?_
    refine WL.step (v := (Value.int .i64 ↑i_)) rfl (Step.assign rfl) ?_
    refine WL.nil ?_
    refine W.seq' ?_
    refine W.region rfl ?_
    refine WL.step (v := (Value.func (.func 68) #[] #[(Value.pointer (some ⟨tb, 0, none⟩))])) rfl (Step.move rfl) ?_
    refine WL.step (v := v) rfl (Step.move rfl) ?_
    refine WL.step (v := (Value.int .i64 ↑i_)) rfl (Step.move rfl) ?_
    obtain ⟨cap9, hb8⟩ := SlAt.base (M.rep 0 rfl) (by omega)
    obtain ⟨x10, hx10⟩ := elem_of_lt (xs := xs) (i := i_) (by omega)
    refine WL.step (v := (Value.pointer (some ⟨(sBlk v), sOff v + i_ * 2, none⟩))) rfl (Step.indexAddr (i := i_) (Try.un58).run Try.el65.sized rfl rfl (by omega) hb8 (by omega)) ?_
    refine WL.step (v := (Value.agg #[(Value.int .i64 x10.start), (Value.int .i64 x10.fin)])) rfl (Step.loadEN (k := 0) (cs' := [(Value.int .i64 x10.start), (Value.int .i64 x10.fin)]) Try.ag65 (flat_ec (M.rep 0 rfl) hx10 spanE_len) (by decide) rfl rfl rfl) ?_
    refine WL.callX rfl (ses_hold x10 tb t (M.enterW0 ⟨(M.wideR0 1 rfl), trivial⟩)) (CallsF.value Try.en68 rfl rfl rfl) ?_
    rintro _ w11 ⟨rfl, m⟩
    replace M := M.leaveW0 m
    clear m
    replace M : Mem _ _ _ [] [SlAt 2 v xs.length (xs.flatMap spanE), (fun w => w.heap[tb]? = some (.cells #[(Value.int .i64 t)] 2))] _ := M
    refine WL.nil ?_
    refine W.cond (t := inS t x10) rfl (fun h12 => ?_) (fun h12 => ?_)
    ·
      refine W.seq' ?_
      refine W.region rfl ?_
      refine WL.step (v := (Value.int .i64 ↑i_)) rfl (Step.move rfl) ?_
      refine WL.step (v := (Value.int .i64 ↑i_)) rfl (Step.assign rfl) ?_
      refine WL.nil ?_
      refine W.ret ?_
      refine ⟨.inl rfl, (Value.int .i64 ↑i_), ?_, ?_⟩
      · exact ⟨rfl, (Res.r1 (show RV _ _ _ (.tmp 4) (Value.int .i64 ↑i_) from by exact rfl))⟩
      refine ⟨?_, M.close [] rfl (by decide) trivial⟩
      refine congrArg (Value.int .i64) ?_
      exact (ixF_some (findIdx_hit hx10 h12 hi6)).1.symm
    ·
      refine W.skip ?_
      refine W.region rfl ?_
      refine WL.step (v := (Value.int .i64 (↑i_ + 1))) rfl (Step.add rfl rfl (wrap_i64 (by omega))) ?_
      refine WL.step (v := (Value.int .i64 (↑i_ + 1))) rfl (Step.move rfl) ?_
      refine WL.nil ?_
      exact ⟨_, (by omega), i_ + 1, ⟨(by omega), (below_stepG hi6 hx10 h12), rfl⟩, ⟨rfl, rfl, rfl, rfl, rfl, rfl⟩, M⟩
  ·
    have h7p := of_decide_eq_false h7
    refine W.exit ?_
    refine thn_exit ?_
    refine thn_exit ?_
    refine inBlk_hit ?_
    refine W.seq' ?_
    refine W.region rfl ?_
    refine WL.step (v := (Value.int .i64 (-1))) rfl (Step.assign rfl) ?_
    refine WL.nil ?_
    refine W.ret ?_
    refine ⟨.inl rfl, (Value.int .i64 (-1)), ?_, ?_⟩
    · exact ⟨rfl, (Res.r1 (show RV _ _ _ (.tmp 4) (Value.int .i64 (-1)) from by exact rfl))⟩
    refine ⟨?_, M.close [] rfl (by decide) trivial⟩
    refine congrArg (Value.int .i64) ?_
    exact (ixF_none (findIdx_none hi6 (by omega))).1.symm

theorem ses_find {G : Nat → Prop} {w : World} (t : Int) (v : Value) (xs : List Span)   (M : Mem G (fun _ => False) w [] [SlAt 2 v xs.length (xs.flatMap spanE)] w) : Rets Try.prog 36 #[(Value.int .i64 t), v] w fun r w' => r = (Value.tuple #[(Value.agg #[(Value.int .i64 (((findS t xs).1).start)), (Value.int .i64 (((findS t xs).1).fin))]), (Value.bool ((findS t xs).2))]) ∧ Mem G (fun _ => False) w [] [] w' := by
  refine Rets.enter 17 _ Try.func36 rfl Try.ntmps36 Try.results36 (by simp) ?_
  have hle1 := SlAt.le' (M.rep 0 rfl)
  have sl2 : IsSl v := SlAt.isSl (Mem.rep M 0 rfl)
  refine W.seq' ?_
  refine W.region rfl ?_
  refine WL.box (v := (Value.int .i64 t)) (c := #[(Value.int .i64 t)]) M rfl rfl rfl (fun b3 w4 hb3 M => ?_)
  refine WL.alloc (c := #[(Value.int .i64 0), (Value.int .i64 0)]) M rfl Try.el65.zero rfl (fun b5 w6 hb5 M => ?_)
  refine WL.step (v := (Value.bool false)) rfl (Step.assign rfl) ?_
  refine WL.nil ?_
  refine W.seq' ?_
  refine W.region rfl ?_
  refine WL.step (v := v) rfl (Step.move rfl) ?_
  refine WL.step (v := (Value.func (.func 68) #[] #[(Value.pointer (some ⟨b3, 0, none⟩))])) rfl (Step.pure (by kernel_rfl)) ?_
  refine WL.callX rfl (ix_ses v xs b3 t (M.enterW0 ⟨(M.wideR0 0 rfl), (M.wideC0 1 rfl), trivial⟩)) (CallsF.func Try.en67 rfl) ?_
  rintro _ w7 ⟨rfl, m⟩
  replace M := M.leaveW0 m
  clear m
  replace M : Mem _ _ _ [blk b5 (.cells #[(Value.int .i64 0), (Value.int .i64 0)] 65), blk b3 (.cells #[(Value.int .i64 t)] 2)] [SlAt 2 v xs.length (xs.flatMap spanE)] _ := M
  refine WL.step (v := (Value.int .i64 (ixF (inS t) xs))) rfl (Step.assign rfl) ?_
  refine WL.nil ?_
  refine W.seq' ?_
  refine W.seq' ?_
  refine W.region rfl ?_
  refine WL.step (v := (Value.int .i64 (ixF (inS t) xs))) rfl (Step.move rfl) ?_
  refine WL.step (v := (Value.bool (decide ((ixF (inS t) xs : Int) < (0 : Int))))) rfl (Step.pure (by kernel_rfl)) ?_
  refine WL.nil ?_
  refine W.cond (t := decide ((ixF (inS t) xs : Int) < (0 : Int))) rfl (fun h8 => ?_) (fun h8 => ?_)
  ·
    have h8p := of_decide_eq_true h8
    refine W.seq' ?_
    refine W.region rfl ?_
    refine WL.step (v := (Value.agg #[(Value.int .i64 0), (Value.int .i64 0)])) rfl (Step.pure (by kernel_rfl)) ?_
    refine WL.store (v := (Value.agg #[(Value.int .i64 0), (Value.int .i64 0)])) (cs := [(Value.int .i64 0), (Value.int .i64 0)]) (c' := #[(Value.int .i64 0), (Value.int .i64 0)]) M 0 rfl rfl Try.el65.sized rfl rfl rfl rfl (Nat.le_of_ble_eq_true rfl) (cel_cons rfl (cel_cons rfl cel_nil)) rfl rfl (fun w9 M => ?_)
    refine WL.step (v := (Value.bool false)) rfl (Step.assign rfl) ?_
    refine WL.nil ?_
    refine W.ret ?_
    refine ⟨.inl rfl, (Value.tuple #[(Value.agg #[(Value.int .i64 0), (Value.int .i64 0)]), (Value.bool false)]), ?_, ?_⟩
    · exact ⟨rfl, (Res.r2 (RV.cellN Try.ag65 rfl (M.blk 0 rfl) rfl) (show RV _ _ _ (.tmp 5) (Value.bool false) from by exact rfl))⟩
    refine ⟨?_, M.close [] rfl (by decide) trivial⟩
    rw [findS_no h8p]
  ·
    have h8p := of_decide_eq_false h8
    obtain ⟨n_, hn_⟩ : ∃ n_ : Nat, ixF (inS t) xs = ↑n_ := ⟨(ixF (inS t) xs).toNat, by omega⟩
    obtain ⟨s_, hfs_, hft_⟩ := findS_ix hn_
    have hfl_ := (List.getElem?_eq_some_iff.1 hfs_).1
    refine W.skip ?_
    refine W.seq' ?_
    refine W.region rfl ?_
    refine WL.step (v := v) rfl (Step.move rfl) ?_
    refine WL.step (v := (Value.int .i64 ↑n_)) rfl (Step.cast (congrArg (Value.int .i64) hn_) (Step.move rfl)) ?_
    obtain ⟨cap11, hb10⟩ := SlAt.base (M.rep 0 rfl) (by omega)
    obtain ⟨x12, hx12⟩ := elem_of_lt (xs := xs) (i := n_) (by omega)
    refine WL.step (v := (Value.pointer (some ⟨(sBlk v), sOff v + n_ * 2, none⟩))) rfl (Step.indexAddr (i := n_) (Try.un58).run Try.el65.sized rfl rfl (by omega) hb10 (by omega)) ?_
    refine WL.step (v := (Value.agg #[(Value.int .i64 x12.start), (Value.int .i64 x12.fin)])) rfl (Step.loadEN (k := 0) (cs' := [(Value.int .i64 x12.start), (Value.int .i64 x12.fin)]) Try.ag65 (flat_ec (M.rep 0 rfl) hx12 spanE_len) (by decide) rfl rfl rfl) ?_
    refine WL.store (v := (Value.agg #[(Value.int .i64 x12.start), (Value.int .i64 x12.fin)])) (cs := [(Value.int .i64 x12.start), (Value.int .i64 x12.fin)]) (c' := #[(Value.int .i64 x12.start), (Value.int .i64 x12.fin)]) M 0 rfl rfl Try.el65.sized rfl rfl rfl rfl (Nat.le_of_ble_eq_true rfl) (cel_cons rfl (cel_cons rfl cel_nil)) rfl rfl (fun w13 M => ?_)
    refine WL.step (v := (Value.bool true)) rfl (Step.assign rfl) ?_
    refine WL.nil ?_
    refine W.ret ?_
    refine ⟨.inl rfl, (Value.tuple #[(Value.agg #[(Value.int .i64 x12.start), (Value.int .i64 x12.fin)]), (Value.bool true)]), ?_, ?_⟩
    · exact ⟨rfl, (Res.r2 (RV.cellN Try.ag65 rfl (M.blk 0 rfl) rfl) (show RV _ _ _ (.tmp 5) (Value.bool true) from by exact rfl))⟩
    refine ⟨?_, M.close [] rfl (by decide) trivial⟩
    rw [hx12] at hfs_
    cases hfs_
    rw [hft_]

theorem ref17_find {G : Nat → Prop} {w : World} (t : Int) (v : Value) (xs : List Span)   (M : Mem G (fun _ => False) w [] [SlAt 2 v xs.length (xs.flatMap spanE)] w) : Rets Try.prog 37 #[(Value.int .i64 t), v] w fun r w' => r = (Value.tuple #[(Value.agg #[(Value.int .i64 (((findS t xs).1).start)), (Value.int .i64 (((findS t xs).1).fin))]), (Value.bool ((findS t xs).2))]) ∧ Mem G (fun _ => False) w [] [] w' := by
  refine Rets.enter 34 _ Try.func37 rfl Try.ntmps37 Try.results37 (by simp) ?_
  have hle1 := SlAt.le' (M.rep 0 rfl)
  have sl2 : IsSl v := SlAt.isSl (Mem.rep M 0 rfl)
  refine W.seq' ?_
  refine W.region rfl ?_
  refine WL.alloc (c := #[(Value.int .i64 0), (Value.int .i64 0)]) M rfl Try.el62.zero rfl (fun b3 w4 hb3 M => ?_)
  refine WL.step (v := (Value.bool false)) rfl (Step.assign rfl) ?_
  refine WL.nil ?_
  refine W.seq' ?_
  refine W.seq' ?_
  refine W.region rfl ?_
  refine WL.step (v := (Value.int .i64 0)) rfl (Step.assign rfl) ?_
  refine WL.nil ?_
  refine W.block ?_
  refine W.loop (fun kk ρ w' => ∃ (i_ : Nat), ((i_ ≤ xs.length) ∧ (∀ j u, j < i_ → xs[j]? = some u → (inS t) u = false) ∧ kk = xs.length - i_) ∧ ρ.has [(0, (Value.int .i64 t)), (1, v), (4, (Value.pointer (some ⟨b3, 0, none⟩))), (6, (Value.int .i64 ↑i_))] ∧ Mem G (fun _ => False) w [blk b3 (.cells #[(Value.int .i64 0), (Value.int .i64 0)] 62)] [SlAt 2 v xs.length (xs.flatMap spanE)]  w') _ ⟨0, ⟨(Nat.zero_le _), (fun _ _ h => absurd h (Nat.not_lt_zero _)), rfl⟩, ⟨rfl, rfl, rfl, rfl, rfl, rfl⟩, M⟩ ?_
  rintro _ ρ6 w5 ⟨i_, ⟨hi7, hi8, rfl⟩, hρ, M⟩
  obtain ⟨ρ6, rfl⟩ := hρ.know
  clear hρ
  refine W.seq' ?_
  refine W.seq' ?_
  refine W.region rfl ?_
  refine WL.step (v := (Value.int .i64 ↑i_)) rfl (Step.move rfl) ?_
  refine WL.step (v := v) rfl (Step.move rfl) ?_
  refine WL.step (v := (Value.int .i64 ↑xs.length)) rfl (Step.lenSl Try.un59 rfl (M.rep 0 rfl)) ?_
  refine WL.step (v := (Value.bool (decide ((↑i_ : Int) < (↑xs.length : Int))))) rfl (Step.pure (by kernel_rfl)) ?_
  refine WL.nil ?_
  refine W.cond (t := decide ((↑i_ : Int) < (↑xs.length : Int))) rfl (fun h9 => ?_) (fun h9 => ?_)
  ·
    have h9p := of_decide_eq_true h9
    refine W.skip ?_
    refine W.seq' ?_
    refine W.block ?_
    refine W.seq' ?_
    refine W.region rfl ?_
    refine WL.step (v := v) rfl (Step.move rfl) ?_
    refine WL.step (v := (Value.int .i64 ↑i_)) rfl (Step.move rfl) ?_
    obtain ⟨cap11, hb10⟩ := SlAt.base (M.rep 0 rfl) (by omega)
    obtain ⟨x12, hx12⟩ := elem_of_lt (xs := xs) (i := i_) (by omega)
    refine WL.step (v := (Value.pointer (some ⟨(sBlk v), sOff v + i_ * 2, none⟩))) rfl (Step.indexAddr (i := i_) (Try.un59).run Try.el62.sized rfl rfl (by omega) hb10 (by omega)) ?_
    refine WL.step (v := (Value.pointer (some ⟨(sBlk v), sOff v + i_ * 2, none⟩))) rfl (Step.pure (by kernel_rfl)) ?_
    refine WL.step (v := (Value.int .i64 x12.start)) rfl (Step.loadE (k := 0) Try.sc2 (flat_ec (M.rep 0 rfl) hx12 spanE_len) (by decide) rfl rfl) ?_
    refine WL.step (v := (Value.int .i64 t)) rfl (Step.move rfl) ?_
    refine WL.step (v := (Value.bool (decide ((x12.start : Int) ≤ (t : Int))))) rfl (Step.pure (by kernel_rfl)) ?_
    refine WL.step (v := (Value.bool (decide ((x12.start : Int) ≤ (t : Int))))) rfl (Step.move rfl) ?_
    rcases Bool.eq_false_or_eq_true (decide ((x12.start : Int) ≤ (t : Int))) with h13 | h13
    ·
      have h13p := of_decide_eq_true h13
      rw [h13]
      refine WL.step (v := v) rfl (Step.move rfl) ?_
      refine WL.step (v := (Value.int .i64 ↑i_)) rfl (Step.move rfl) ?_
      refine WL.step (v := (Value.pointer (some ⟨(sBlk v), sOff v + i_ * 2, none⟩))) rfl (Step.indexAddr (i := i_) (Try.un59).run Try.el62.sized rfl rfl (by omega) hb10 (by omega)) ?_
      refine WL.step (v := (Value.pointer (some ⟨(sBlk v), sOff v + i_ * 2 + 1, none⟩))) rfl (Step.pure (by kernel_rfl)) ?_
      refine WL.step (v := (Value.int .i64 x12.fin)) rfl (Step.loadE (k := 1) Try.sc2 (flat_ec (M.rep 0 rfl) hx12 spanE_len) (by decide) rfl rfl) ?_
      refine WL.step (v := (Value.int .i64 t)) rfl (Step.move rfl) ?_
      refine WL.step (v := (Value.bool (decide ((x12.fin : Int) > (t : Int))))) rfl (Step.pure (by kernel_rfl)) ?_
      refine WL.step (v := (Value.bool (decide ((x12.fin : Int) > (t : Int))))) rfl (Step.pick (t := true) rfl rfl) ?_
      refine WL.nil ?_
      refine W.cond (t := decide ((x12.fin : Int) > (t : Int))) rfl (fun h14 => ?_) (fun h14 => ?_)
      ·
        have h14p := of_decide_eq_true h14
        refine W.seq' ?_
        refine W.region rfl ?_
        refine WL.step (v := v) rfl (Step.move rfl) ?_
        refine WL.step (v := (Value.int .i64 ↑i_)) rfl (Step.move rfl) ?_
        refine WL.step (v := (Value.pointer (some ⟨(sBlk v), sOff v + i_ * 2, none⟩))) rfl (Step.indexAddr (i := i_) (Try.un59).run Try.el62.sized rfl rfl (by omega) hb10 (by omega)) ?_
        refine WL.step (v := (Value.agg #[(Value.int .i64 x12.start), (Value.int .i64 x12.fin)])) rfl (Step.loadEN (k := 0) (cs' := [(Value.int .i64 x12.start), (Value.int .i64 x12.fin)]) Try.ag62 (flat_ec (M.rep 0 rfl) hx12 spanE_len) (by decide) rfl rfl rfl) ?_
        refine WL.store (v := (Value.agg #[(Value.int .i64 x12.start), (Value.int .i64 x12.fin)])) (cs := [(Value.int .i64 x12.start), (Value.int .i64 x12.fin)]) (c' := #[(Value.int .i64 x12.start), (Value.int .i64 x12.fin)]) M 0 rfl rfl Try.el62.sized rfl rfl rfl rfl (Nat.le_of_ble_eq_true rfl) (cel_cons rfl (cel_cons rfl cel_nil)) rfl rfl (fun w15 M => ?_)
        refine WL.step (v := (Value.bool true)) rfl (Step.assign rfl) ?_
        refine WL.nil ?_
        refine W.ret ?_
        refine ⟨.inl rfl, (Value.tuple #[(Value.agg #[(Value.int .i64 x12.start), (Value.int .i64 x12.fin)]), (Value.bool true)]), ?_, ?_⟩
        · exact ⟨rfl, (Res.r2 (RV.cellN Try.ag62 rfl (M.blk 0 rfl) rfl) (show RV _ _ _ (.tmp 5) (Value.bool true) from by exact rfl))⟩
        refine ⟨?_, M.close [] rfl (by decide) trivial⟩
        rw [findS_hit hx12 (by simp [inS]; omega) hi8]
      ·
        have h14p := of_decide_eq_false h14
        refine W.skip ?_
        refine W.region rfl ?_
        refine WL.step (v := (Value.int .i64 ↑i_)) rfl (Step.move rfl) ?_
        refine WL.step (v := (Value.int .i64 (↑i_ + 1))) rfl (Step.add rfl rfl (wrap_i64 (by omega))) ?_
        refine WL.step (v := (Value.int .i64 (↑i_ + 1))) rfl (Step.assign rfl) ?_
        refine WL.nil ?_
        exact ⟨_, (by omega), i_ + 1, ⟨(by omega), (below_stepG hi8 hx12 (by simp [inS, h13p, h14p])), rfl⟩, ⟨rfl, rfl, rfl, rfl, rfl, rfl⟩, M⟩
    ·
      have h13p := of_decide_eq_false h13
      rw [h13]
      refine WL.pass rfl ?_
      refine WL.pass rfl ?_
      refine WL.pass rfl ?_
      refine WL.pass rfl ?_
      refine WL.pass rfl ?_
      refine WL.pass rfl ?_
      refine WL.pass rfl ?_
      refine WL.step (v := (Value.bool false)) rfl (Step.pick (t := false) rfl rfl) ?_
      refine WL.nil ?_
      refine W.cond (t := false) rfl (fun h => by cases h) (fun _ => ?_)
      refine W.skip ?_
      refine W.region rfl ?_
      refine WL.step (v := (Value.int .i64 ↑i_)) rfl (Step.move rfl) ?_
      refine WL.step (v := (Value.int .i64 (↑i_ + 1))) rfl (Step.add rfl rfl (wrap_i64 (by omega))) ?_
      refine WL.step (v := (Value.int .i64 (↑i_ + 1))) rfl (Step.assign rfl) ?_
      refine WL.nil ?_
      exact ⟨_, (by omega), i_ + 1, ⟨(by omega), (below_stepG hi8 hx12 (by simp [inS, hx12, h13p])), rfl⟩, ⟨rfl, rfl, rfl, rfl, rfl, rfl⟩, M⟩
  ·
    have h9p := of_decide_eq_false h9
    refine W.exit ?_
    refine thn_exit ?_
    refine thn_exit ?_
    refine inBlk_hit ?_
    refine W.seq' ?_
    refine W.region rfl ?_
    refine WL.step (v := (Value.agg #[(Value.int .i64 0), (Value.int .i64 0)])) rfl (Step.pure (by kernel_rfl)) ?_
    refine WL.store (v := (Value.agg #[(Value.int .i64 0), (Value.int .i64 0)])) (cs := [(Value.int .i64 0), (Value.int .i64 0)]) (c' := #[(Value.int .i64 0), (Value.int .i64 0)]) M 0 rfl rfl Try.el62.sized rfl rfl rfl rfl (Nat.le_of_ble_eq_true rfl) (cel_cons rfl (cel_cons rfl cel_nil)) rfl rfl (fun w16 M => ?_)
    refine WL.step (v := (Value.bool false)) rfl (Step.assign rfl) ?_
    refine WL.nil ?_
    refine W.ret ?_
    refine ⟨.inl rfl, (Value.tuple #[(Value.agg #[(Value.int .i64 0), (Value.int .i64 0)]), (Value.bool false)]), ?_, ?_⟩
    · exact ⟨rfl, (Res.r2 (RV.cellN Try.ag62 rfl (M.blk 0 rfl) rfl) (show RV _ _ _ (.tmp 5) (Value.bool false) from by exact rfl))⟩
    refine ⟨?_, M.close [] rfl (by decide) trivial⟩
    rw [findS_miss (by omega) hi8]
end Go.Proofs
