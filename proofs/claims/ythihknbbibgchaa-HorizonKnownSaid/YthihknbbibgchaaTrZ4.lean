/- Walks. -/
import Derived.Test.YthihknbbibgchaaTrZ3
set_option maxRecDepth 100000
set_option linter.all false
namespace Go.Proofs
open Go Tp
theorem Try.un33 : Und Try.prog 33 (.slice 35) := by unfold Und; kernel_rfl
theorem Try.el35 : Elem Try.prog 35 (Value.agg #[(Value.int .u8 0), (Value.int .u64 0), (Value.int .u64 0)]) 3 24 := Elem.mk (by kernel_rfl)
theorem Try.en55 : Enters Try.prog 55 := fun _ _ => by kernel_rfl
theorem Try.en56 : Enters Try.prog 56 := fun _ _ => by kernel_rfl
theorem Try.en77 : Enters Try.prog 77 := fun _ _ => by kernel_rfl

theorem hz_hold {G : Nat → Prop} {w : World} (q : PinH) (tb : Nat) (x : PinH)   (M : Mem G (fun _ => False) w [] [(fun w => w.heap[tb]? = some (.cells #[(Value.int .u8 x.sort), (Value.int .u64 x.id), (Value.int .u64 x.epoch)] 35))] w) : Rets Try.prog 56 #[(Value.agg #[(Value.int .u8 q.sort), (Value.int .u64 q.id), (Value.int .u64 q.epoch)]), (Value.pointer (some ⟨tb, 0, none⟩))] w fun r w' => r = (Value.bool (isP x.sort x.id q)) ∧ Mem G (fun _ => False) w [] [] w' := by
  refine Rets.enter 9 _ Try.func56 rfl Try.ntmps56 Try.results56 (by simp) ?_
  refine W.seq' ?_
  refine W.region rfl ?_
  refine WL.box (v := (Value.agg #[(Value.int .u8 q.sort), (Value.int .u64 q.id), (Value.int .u64 q.epoch)])) (c := #[(Value.int .u8 q.sort), (Value.int .u64 q.id), (Value.int .u64 q.epoch)]) M rfl rfl rfl (fun b1 w2 hb1 M => ?_)
  refine WL.step (v := (Value.bool false)) rfl (Step.assign rfl) ?_
  refine WL.nil ?_
  refine W.seq' ?_
  refine W.drawn M [0, 1, 2, 3, 4, 5] [1, 3] [] [blk b1 (.cells #[(Value.int .u8 q.sort), (Value.int .u64 q.id), (Value.int .u64 q.epoch)] 35)] [(fun w => w.heap[tb]? = some (.cells #[(Value.int .u8 x.sort), (Value.int .u64 x.id), (Value.int .u64 x.epoch)] 35))] (List.Sublist.cons_cons _ List.Sublist.slnil) (fun _ h => h) Try.mixed (by kernel_rfl) ?_
  refine TW.read (v := (Value.agg #[(Value.int .u8 q.sort), (Value.int .u64 q.id), (Value.int .u64 q.epoch)])) rfl (by decide) (by decide) rfl (fun A w M => (Step.loadN Try.ag35 rfl (M.blk 1 rfl) (Nat.le_of_ble_eq_true rfl) rfl)) ?_
  refine TW.callX (ι := Unit) (fun jx v_ => v_ = (Value.agg #[(Value.int .u8 q.sort), (Value.int .u64 q.id)])) (fun jx => [blk b1 (.cells #[(Value.int .u8 q.sort), (Value.int .u64 q.id), (Value.int .u64 q.epoch)] 35)]) (fun jx => [(fun w => w.heap[tb]? = some (.cells #[(Value.int .u8 x.sort), (Value.int .u64 x.id), (Value.int .u64 x.epoch)] 35))]) rfl (by decide) rfl (fun jx => (List.Sublist.cons_cons _ List.Sublist.slnil)) (fun jx r h => h) (fun A w M => Rets.mono (hz_who q (M.enterW0 trivial)) (fun v_ w_ ⟨e_, m⟩ => ⟨(), e_, (M.leaveW0 m).sel (L' := [fl A, blk b1 (.cells #[(Value.int .u8 q.sort), (Value.int .u64 q.id), (Value.int .u64 q.epoch)] 35)]) [0, 1] rfl (by decide), fun b hb => M.keptW0 m (fl A) (List.mem_cons_self ..) b hb⟩)) (fun w => CallsF.func Try.en54 rfl) (fun jx v hp hin => ?_)
  replace hp := hp.symm; subst hp
  clear hin
  change TW _ _ _ _ _ _ _ _ (MemA _ _ _ [blk b1 (.cells #[(Value.int .u8 q.sort), (Value.int .u64 q.id), (Value.int .u64 q.epoch)] 35)] [(fun w => w.heap[tb]? = some (.cells #[(Value.int .u8 x.sort), (Value.int .u64 x.id), (Value.int .u64 x.epoch)] 35))])
  refine TW.read (v := (Value.agg #[(Value.int .u8 x.sort), (Value.int .u64 x.id), (Value.int .u64 x.epoch)])) rfl (by decide) (by decide) rfl (fun A w M => (Step.loadN Try.ag35 rfl (M.rep 0 rfl) (Nat.le_of_ble_eq_true rfl) rfl)) ?_
  refine TW.callX (ι := Unit) (fun jx v_ => v_ = (Value.agg #[(Value.int .u8 x.sort), (Value.int .u64 x.id)])) (fun jx => [blk b1 (.cells #[(Value.int .u8 q.sort), (Value.int .u64 q.id), (Value.int .u64 q.epoch)] 35)]) (fun jx => [(fun w => w.heap[tb]? = some (.cells #[(Value.int .u8 x.sort), (Value.int .u64 x.id), (Value.int .u64 x.epoch)] 35))]) rfl (by decide) rfl (fun jx => (List.Sublist.cons_cons _ List.Sublist.slnil)) (fun jx r h => h) (fun A w M => Rets.mono (hz_who x (M.enterW0 trivial)) (fun v_ w_ ⟨e_, m⟩ => ⟨(), e_, (M.leaveW0 m).sel (L' := [fl A, blk b1 (.cells #[(Value.int .u8 q.sort), (Value.int .u64 q.id), (Value.int .u64 q.epoch)] 35)]) [0, 1] rfl (by decide), fun b hb => M.keptW0 m (fl A) (List.mem_cons_self ..) b hb⟩)) (fun w => CallsF.func Try.en54 rfl) (fun jx v hp hin => ?_)
  replace hp := hp.symm; subst hp
  clear hin
  change TW _ _ _ _ _ _ _ _ (MemA _ _ _ [blk b1 (.cells #[(Value.int .u8 q.sort), (Value.int .u64 q.id), (Value.int .u64 q.epoch)] 35)] [(fun w => w.heap[tb]? = some (.cells #[(Value.int .u8 x.sort), (Value.int .u64 x.id), (Value.int .u64 x.epoch)] 35))])
  refine TW.pure (v := (Value.bool (((q.sort : Int) == (x.sort : Int)) && (((q.id : Int) == (x.id : Int)) && true)))) rfl (by decide) (by decide) rfl (fun w => (Step.eqAgg Try.eg96 rfl rfl rfl (Try.eq96 9998 (q.sort : Int) (q.id : Int) (x.sort : Int) (x.id : Int)))) ?_
  refine TW.pure (v := (Value.bool (((q.sort : Int) == (x.sort : Int)) && (((q.id : Int) == (x.id : Int)) && true)))) rfl (by decide) (by decide) rfl (fun w => (Step.assign rfl)) ?_
  refine TW.done (fun w3 M => ?_)
  refine W.ret ?_
  refine ⟨.inl rfl, (Value.bool (((q.sort : Int) == (x.sort : Int)) && (((q.id : Int) == (x.id : Int)) && true))), ?_, ?_⟩
  · exact ⟨rfl, (Res.r1 (show RV _ _ _ (.tmp 3) (Value.bool (((q.sort : Int) == (x.sort : Int)) && (((q.id : Int) == (x.id : Int)) && true))) from by exact rfl))⟩
  refine ⟨?_, M.close [] rfl (by decide) trivial⟩
  refine congrArg Value.bool ?_
  rw [Bool.eq_iff_iff]; simp [isP]

theorem ix_pin {G : Nat → Prop} {w : World} (v : Value) (xs : List PinH) (tb : Nat) (x : PinH)   (M : Mem G (fun _ => False) w [] [SlAt 3 v xs.length (xs.flatMap pinE), (fun w => w.heap[tb]? = some (.cells #[(Value.int .u8 x.sort), (Value.int .u64 x.id), (Value.int .u64 x.epoch)] 35))] w) : Rets Try.prog 77 #[v, (Value.func (.func 56) #[] #[(Value.pointer (some ⟨tb, 0, none⟩))])] w fun r w' => r = (Value.int .i64 (ixF (isP x.sort x.id) xs)) ∧ Mem G (fun _ => False) w [] [] w' := by
  refine Rets.enter 19 _ Try.func77 rfl Try.ntmps77 Try.results77 (by simp) ?_
  have hle1 := SlAt.le' (M.rep 0 rfl)
  have sl2 : IsSl v := SlAt.isSl (Mem.rep M 0 rfl)
  refine W.seq' ?_
  refine W.region rfl ?_
  refine WL.step (v := (Value.int .i64 0)) rfl (Step.assign rfl) ?_
  refine WL.nil ?_
  refine W.seq' ?_
  refine W.seq' ?_
  refine W.region rfl ?_
  refine WL.step (v := v) rfl (Step.move rfl) ?_
  refine WL.step (v := (Value.int .i64 ↑xs.length)) rfl (Step.lenSl Try.un33 rfl (M.rep 0 rfl)) ?_
  refine WL.step (v := (Value.int .i64 0)) rfl (Step.move rfl) ?_
  refine WL.nil ?_
  refine W.block ?_
  refine W.loop (fun kk ρ w' => ∃ (i_ : Nat), ((i_ ≤ xs.length) ∧ (∀ j u, j < i_ → xs[j]? = some u → (isP x.sort x.id) u = false) ∧ kk = xs.length - i_) ∧ ρ.has [(0, v), (1, (Value.func (.func 56) #[] #[(Value.pointer (some ⟨tb, 0, none⟩))])), (7, (Value.int .i64 ↑xs.length)), (8, (Value.int .i64 ↑i_))] ∧ Mem G (fun _ => False) w [] [SlAt 3 v xs.length (xs.flatMap pinE), (fun w => w.heap[tb]? = some (.cells #[(Value.int .u8 x.sort), (Value.int .u64 x.id), (Value.int .u64 x.epoch)] 35))]  w') _ ⟨0, ⟨(Nat.zero_le _), (fun _ _ h => absurd h (Nat.not_lt_zero _)), rfl⟩, ⟨rfl, rfl, rfl, rfl, rfl, rfl⟩, M⟩ ?_
  rintro _ ρ4 w3 ⟨i_, ⟨hi5, hi6, rfl⟩, hρ, M⟩
  obtain ⟨ρ4, rfl⟩ := hρ.know
  clear hρ
  refine W.seq' ?_
  refine W.region rfl ?_
  refine WL.step (v := (Value.bool (decide ((↑i_ : Int) < (↑xs.length : Int))))) rfl (Step.pure (by kernel_rfl)) ?_
  refine WL.nil ?_
  refine W.seq' ?_
  refine W.cond (t := decide ((↑i_ : Int) < (↑xs.length : Int))) rfl (fun h7 => ?_) (fun h7 => ?_)
  ·
    have h7p := of_decide_eq_true h7
    refine W.skip ?_
    refine W.seq' ?_
    refine W.block ?_
    refine W.seq' ?_
    refine W.region rfl ?_
    refine WL.step (v := (Value.int .i64 ↑i_)) rfl (Step.move rfl) ?_
    refine WL.step (v := (Value.int .i64 ↑i_)) rfl (Step.assign rfl) ?_
    refine WL.nil ?_
    refine W.seq' ?_
    refine W.region rfl ?_
    refine WL.step (v := (Value.func (.func 56) #[] #[(Value.pointer (some ⟨tb, 0, none⟩))])) rfl (Step.move rfl) ?_
    refine WL.step (v := v) rfl (Step.move rfl) ?_
    refine WL.step (v := (Value.int .i64 ↑i_)) rfl (Step.move rfl) ?_
    obtain ⟨cap9, hb8⟩ := SlAt.base (M.rep 0 rfl) (by omega)
    obtain ⟨x10, hx10⟩ := elem_of_lt (xs := xs) (i := i_) (by omega)
    refine WL.step (v := (Value.pointer (some ⟨(sBlk v), sOff v + i_ * 3, none⟩))) rfl (Step.indexAddr (i := i_) (Try.un33).run Try.el35.sized rfl rfl (by omega) hb8 (by omega)) ?_
    refine WL.step (v := (Value.agg #[(Value.int .u8 x10.sort), (Value.int .u64 x10.id), (Value.int .u64 x10.epoch)])) rfl (Step.loadEN (k := 0) (cs' := [(Value.int .u8 x10.sort), (Value.int .u64 x10.id), (Value.int .u64 x10.epoch)]) Try.ag35 (flat_ec (M.rep 0 rfl) hx10 pinE_len) (by decide) rfl rfl rfl) ?_
    refine WL.callX rfl (hz_hold x10 tb x (M.enterW0 ⟨(M.wideR0 1 rfl), trivial⟩)) (CallsF.value Try.en56 rfl rfl rfl) ?_
    rintro _ w11 ⟨rfl, m⟩
    replace M := M.leaveW0 m
    clear m
    replace M : Mem _ _ _ [] [SlAt 3 v xs.length (xs.flatMap pinE), (fun w => w.heap[tb]? = some (.cells #[(Value.int .u8 x.sort), (Value.int .u64 x.id), (Value.int .u64 x.epoch)] 35))] _ := M
    refine WL.nil ?_
    refine W.cond (t := isP x.sort x.id x10) rfl (fun h12 => ?_) (fun h12 => ?_)
    ·
      refine W.seq' ?_
      refine W.region rfl ?_
      refine WL.step (v := (Value.int .i64 ↑i_)) rfl (Step.move rfl) ?_
      refine WL.step (v := (Value.int .i64 ↑i_)) rfl (Step.assign rfl) ?_
      refine WL.nil ?_
      refine W.ret ?_
      refine ⟨.inl rfl, (Value.int .i64 ↑i_), ?_, ?_⟩
      · exact ⟨rfl, (Res.r1 (show RV _ _ _ (.tmp 4) (Value.int .i64 ↑i_) from by exact rfl))⟩
      refine ⟨?_, M.close [] rfl (by decide) trivial⟩
      refine congrArg (Value.int .i64) ?_
      exact (ixF_some (findIdx_hit hx10 h12 hi6)).1.symm
    ·
      refine W.skip ?_
      refine W.region rfl ?_
      refine WL.step (v := (Value.int .i64 (↑i_ + 1))) rfl (Step.add rfl rfl (wrap_i64 (by omega))) ?_
      refine WL.step (v := (Value.int .i64 (↑i_ + 1))) rfl (Step.move rfl) ?_
      refine WL.nil ?_
      exact ⟨_, (by omega), i_ + 1, ⟨(by omega), (below_stepG hi6 hx10 h12), rfl⟩, ⟨rfl, rfl, rfl, rfl, rfl, rfl⟩, M⟩
  ·
    have h7p := of_decide_eq_false h7
    refine W.exit ?_
    refine thn_exit ?_
    refine thn_exit ?_
    refine inBlk_hit ?_
    refine W.seq' ?_
    refine W.region rfl ?_
    refine WL.step (v := (Value.int .i64 (-1))) rfl (Step.assign rfl) ?_
    refine WL.nil ?_
    refine W.ret ?_
    refine ⟨.inl rfl, (Value.int .i64 (-1)), ?_, ?_⟩
    · exact ⟨rfl, (Res.r1 (show RV _ _ _ (.tmp 4) (Value.int .i64 (-1)) from by exact rfl))⟩
    refine ⟨?_, M.close [] rfl (by decide) trivial⟩
    refine congrArg (Value.int .i64) ?_
    exact (ixF_none (findIdx_none hi6 (by omega))).1.symm

theorem any_pin {G : Nat → Prop} {w : World} (v : Value) (xs : List PinH) (tb : Nat) (x : PinH)   (M : Mem G (fun _ => False) w [] [SlAt 3 v xs.length (xs.flatMap pinE), (fun w => w.heap[tb]? = some (.cells #[(Value.int .u8 x.sort), (Value.int .u64 x.id), (Value.int .u64 x.epoch)] 35))] w) : Rets Try.prog 55 #[v, (Value.func (.func 56) #[] #[(Value.pointer (some ⟨tb, 0, none⟩))])] w fun r w' => r = (Value.bool (heldB x.sort x.id xs)) ∧ Mem G (fun _ => False) w [] [] w' := by
  refine Rets.enter 9 _ Try.func55 rfl Try.ntmps55 Try.results55 (by simp) ?_
  have hle1 := SlAt.le' (M.rep 0 rfl)
  have sl2 : IsSl v := SlAt.isSl (Mem.rep M 0 rfl)
  refine W.seq' ?_
  refine W.region rfl ?_
  refine WL.step (v := (Value.bool false)) rfl (Step.assign rfl) ?_
  refine WL.nil ?_
  refine W.seq' ?_
  refine W.region rfl ?_
  refine WL.step (v := v) rfl (Step.move rfl) ?_
  refine WL.step (v := (Value.func (.func 56) #[] #[(Value.pointer (some ⟨tb, 0, none⟩))])) rfl (Step.move rfl) ?_
  refine WL.callX rfl (ix_pin v xs tb x (M.enterW0 ⟨(M.wideR0 0 rfl), (M.wideR0 1 rfl), trivial⟩)) (CallsF.func Try.en77 rfl) ?_
  rintro _ w3 ⟨rfl, m⟩
  replace M := M.leaveW0 m
  clear m
  replace M : Mem _ _ _ [] [SlAt 3 v xs.length (xs.flatMap pinE), (fun w => w.heap[tb]? = some (.cells #[(Value.int .u8 x.sort), (Value.int .u64 x.id), (Value.int .u64 x.epoch)] 35))] _ := M
  refine WL.step (v := (Value.bool (decide ((ixF (isP x.sort x.id) xs : Int) ≥ (0 : Int))))) rfl (Step.pure (by kernel_rfl)) ?_
  refine WL.step (v := (Value.bool (decide ((ixF (isP x.sort x.id) xs : Int) ≥ (0 : Int))))) rfl (Step.assign rfl) ?_
  refine WL.nil ?_
  refine W.ret ?_
  refine ⟨.inl rfl, (Value.bool (decide ((ixF (isP x.sort x.id) xs : Int) ≥ (0 : Int)))), ?_, ?_⟩
  · exact ⟨rfl, (Res.r1 (show RV _ _ _ (.tmp 4) (Value.bool (decide ((ixF (isP x.sort x.id) xs : Int) ≥ (0 : Int)))) from by exact rfl))⟩
  refine ⟨?_, M.close [] rfl (by decide) trivial⟩
  refine congrArg Value.bool ?_
  exact ixP_held x.sort x.id xs

theorem hz_pin0 {G : Nat → Prop} {w : World} (v : Value) (l : List PinH)   (M : Mem G (fun _ => False) w [] [SlAt 3 v l.length (l.flatMap pinE)] w) : Rets Try.prog 28 #[(Value.pointer none), v] w fun r w' => r = (Value.int .i64 1) ∧ Mem G (fun _ => False) w [] [] w' := by
  refine Rets.enter 70 _ Try.func28 rfl Try.ntmps28 Try.results28 (by simp) ?_
  have hle1 := SlAt.le' (M.rep 0 rfl)
  have sl2 : IsSl v := SlAt.isSl (Mem.rep M 0 rfl)
  refine W.seq' ?_
  refine W.region rfl ?_
  refine WL.step (v := (Value.int .i64 0)) rfl (Step.assign rfl) ?_
  refine WL.nil ?_
  refine W.seq' ?_
  refine W.seq' ?_
  refine W.region rfl ?_
  refine WL.step (v := (Value.pointer none)) rfl (Step.move rfl) ?_
  refine WL.step (v := (Value.bool true)) rfl (Step.pure (by kernel_rfl)) ?_
  refine WL.nil ?_
  refine W.cond (t := true) rfl (fun _ => ?_) (fun h => by cases h)
  refine W.seq' ?_
  refine W.region rfl ?_
  refine WL.step (v := (Value.int .i64 1)) rfl (Step.assign rfl) ?_
  refine WL.nil ?_
  refine W.ret ?_
  refine ⟨.inl rfl, (Value.int .i64 1), ?_, ?_⟩
  · exact ⟨rfl, (Res.r1 (show RV _ _ _ (.tmp 4) (Value.int .i64 1) from by exact rfl))⟩
  refine ⟨?_, M.close [] rfl (by decide) trivial⟩
  rfl

theorem hz_pin {G X : Nat → Prop} {w : World} (zb : Nat) (zm : Nat) (ps : List PinH) (fo : Int) (v : Value) (l : List PinH)   (M : Mem G X w [blk zb (.cells #[(Value.map (some zm)), (Value.int .u64 fo)] 87), mapP zm ps] [SlAt 3 v l.length (l.flatMap pinE)] w) : Rets Try.prog 28 #[(Value.pointer (some ⟨zb, 0, none⟩)), v] w fun r w' => r = (Value.int .i64 (pinC ps fo l)) ∧ Mem G X w [blk zb (.cells #[(Value.map (some zm)), (Value.int .u64 fo)] 87), mapP zm (pinS ps fo l)] [] w' := by
  refine Rets.enter 70 _ Try.func28 rfl Try.ntmps28 Try.results28 (by simp) ?_
  have hle1 := SlAt.le' (M.rep 0 rfl)
  have sl2 : IsSl v := SlAt.isSl (Mem.rep M 0 rfl)
  refine W.seq' ?_
  refine W.region rfl ?_
  refine WL.step (v := (Value.int .i64 0)) rfl (Step.assign rfl) ?_
  refine WL.nil ?_
  refine W.seq' ?_
  refine W.seq' ?_
  refine W.region rfl ?_
  refine WL.step (v := (Value.pointer (some ⟨zb, 0, none⟩))) rfl (Step.move rfl) ?_
  refine WL.step (v := (Value.bool false)) rfl (Step.pure (by kernel_rfl)) ?_
  refine WL.nil ?_
  refine W.cond (t := false) rfl (fun h => by cases h) (fun _ => ?_)
  refine W.skip ?_
  refine W.seq' ?_
  refine W.seq' ?_
  refine W.region rfl ?_
  refine WL.step (v := v) rfl (Step.move rfl) ?_
  refine WL.step (v := (Value.int .i64 ↑l.length)) rfl (Step.lenSl Try.un33 rfl (M.rep 0 rfl)) ?_
  refine WL.step (v := (Value.int .i64 0)) rfl (Step.move rfl) ?_
  refine WL.nil ?_
  refine W.block ?_
  refine W.loop (fun kk ρ w' => ∃ (i_ : Nat), ((i_ ≤ l.length) ∧ (freeN ps l i_ = true) ∧ kk = l.length - i_) ∧ ρ.has [(0, (Value.pointer (some ⟨zb, 0, none⟩))), (1, v), (15, v), (16, (Value.int .i64 ↑l.length)), (17, (Value.int .i64 ↑i_))] ∧ Mem G X w [blk zb (.cells #[(Value.map (some zm)), (Value.int .u64 fo)] 87), mapP zm ps] [SlAt 3 v l.length (l.flatMap pinE)]  w') _ ⟨0, ⟨(Nat.zero_le _), rfl, rfl⟩, ⟨rfl, rfl, rfl, rfl, rfl, rfl, rfl⟩, M⟩ ?_
  rintro _ ρ4 w3 ⟨i_, ⟨hi5, hi6, rfl⟩, hρ, M⟩
  obtain ⟨ρ4, rfl⟩ := hρ.know
  clear hρ
  refine W.seq' ?_
  refine W.region rfl ?_
  refine WL.step (v := (Value.bool (decide ((↑i_ : Int) < (↑l.length : Int))))) rfl (Step.pure (by kernel_rfl)) ?_
  refine WL.nil ?_
  refine W.seq' ?_
  refine W.cond (t := decide ((↑i_ : Int) < (↑l.length : Int))) rfl (fun h7 => ?_) (fun h7 => ?_)
  ·
    have h7p := of_decide_eq_true h7
    refine W.skip ?_
    refine W.seq' ?_
    refine W.block ?_
    refine W.seq' ?_
    refine W.region rfl ?_
    refine WL.step (v := (Value.int .i64 ↑i_)) rfl (Step.move rfl) ?_
    obtain ⟨cap9, hb8⟩ := SlAt.base (M.rep 0 rfl) (by omega)
    obtain ⟨x10, hx10⟩ := elem_of_lt (xs := l) (i := i_) (by omega)
    refine WL.step (v := (Value.pointer (some ⟨(sBlk v), sOff v + i_ * 3, none⟩))) rfl (Step.indexAddr (i := i_) (Try.un33).run Try.el35.sized rfl rfl (by omega) hb8 (by omega)) ?_
    refine WL.step (v := (Value.agg #[(Value.int .u8 x10.sort), (Value.int .u64 x10.id), (Value.int .u64 x10.epoch)])) rfl (Step.loadEN (k := 0) (cs' := [(Value.int .u8 x10.sort), (Value.int .u64 x10.id), (Value.int .u64 x10.epoch)]) Try.ag35 (flat_ec (M.rep 0 rfl) hx10 pinE_len) (by decide) rfl rfl rfl) ?_
    refine WL.alloc (c := #[(Value.int .u8 0), (Value.int .u64 0), (Value.int .u64 0)]) M rfl Try.el35.zero rfl (fun b11 w12 hb11 M => ?_)
    refine WL.step (v := (Value.int .i64 ↑i_)) rfl (Step.assign rfl) ?_
    refine WL.store (v := (Value.agg #[(Value.int .u8 x10.sort), (Value.int .u64 x10.id), (Value.int .u64 x10.epoch)])) (cs := [(Value.int .u8 x10.sort), (Value.int .u64 x10.id), (Value.int .u64 x10.epoch)]) (c' := #[(Value.int .u8 x10.sort), (Value.int .u64 x10.id), (Value.int .u64 x10.epoch)]) M 0 rfl rfl Try.el35.sized rfl rfl rfl rfl (Nat.le_of_ble_eq_true rfl) (cel_cons rfl (cel_cons rfl (cel_cons rfl cel_nil))) rfl rfl (fun w13 M => ?_)
    refine WL.nil ?_
    refine W.seq' ?_
    refine W.drawn M [0, 1, 2, 3, 4, 5, 6, 7, 8, 9, 10, 11] [5] [] [blk b11 (.cells #[(Value.int .u8 x10.sort), (Value.int .u64 x10.id), (Value.int .u64 x10.epoch)] 35), blk zb (.cells #[(Value.map (some zm)), (Value.int .u64 fo)] 87), mapP zm ps] [SlAt 3 v l.length (l.flatMap pinE)] (List.Sublist.cons_cons _ (List.Sublist.cons_cons _ (List.Sublist.cons_cons _ List.Sublist.slnil))) (fun _ h => h) Try.mixed (by kernel_rfl) ?_
    refine TW.pure (v := (Value.pointer (some ⟨zb, 0, none⟩))) rfl (by decide) (by decide) rfl (fun w => (Step.move rfl)) ?_
    refine TW.pure (v := (Value.pointer (some ⟨zb, 0, none⟩))) rfl (by decide) (by decide) rfl (fun w => (Step.pure (by kernel_rfl))) ?_
    refine TW.pure (v := (Value.pointer (some ⟨zb, 0, none⟩))) rfl (by decide) (by decide) rfl (fun w => (Step.pure (by kernel_rfl))) ?_
    refine TW.read (v := (Value.map (some zm))) rfl (by decide) (by decide) rfl (fun A w M => (Step.load1 Try.sc85 rfl ((M.cell 2 rfl 0).trans rfl))) ?_
    refine TW.read (v := (Value.agg #[(Value.int .u8 x10.sort), (Value.int .u64 x10.id), (Value.int .u64 x10.epoch)])) rfl (by decide) (by decide) rfl (fun A w M => (Step.loadN Try.ag35 rfl (M.blk 1 rfl) (Nat.le_of_ble_eq_true rfl) rfl)) ?_
    refine TW.callX (ι := Unit) (fun jx v_ => v_ = (Value.agg #[(Value.int .u8 x10.sort), (Value.int .u64 x10.id)])) (fun jx => [blk b11 (.cells #[(Value.int .u8 x10.sort), (Value.int .u64 x10.id), (Value.int .u64 x10.epoch)] 35), blk zb (.cells #[(Value.map (some zm)), (Value.int .u64 fo)] 87), mapP zm ps]) (fun jx => [SlAt 3 v l.length (l.flatMap pinE)]) rfl (by decide) rfl (fun jx => (List.Sublist.cons_cons _ (List.Sublist.cons_cons _ (List.Sublist.cons_cons _ List.Sublist.slnil)))) (fun jx r h => h) (fun A w M => Rets.mono (hz_who x10 (M.enterW0 trivial)) (fun v_ w_ ⟨e_, m⟩ => ⟨(), e_, (M.leaveW0 m).sel (L' := [fl A, blk b11 (.cells #[(Value.int .u8 x10.sort), (Value.int .u64 x10.id), (Value.int .u64 x10.epoch)] 35), blk zb (.cells #[(Value.map (some zm)), (Value.int .u64 fo)] 87), mapP zm ps]) [0, 1, 2, 3] rfl (by decide), fun b hb => M.keptW0 m (fl A) (List.mem_cons_self ..) b hb⟩)) (fun w => CallsF.func Try.en54 rfl) (fun jx v hp hin => ?_)
    replace hp := hp.symm; subst hp
    clear hin
    change TW _ _ _ _ _ _ _ _ (MemA _ _ _ [blk b11 (.cells #[(Value.int .u8 x10.sort), (Value.int .u64 x10.id), (Value.int .u64 x10.epoch)] 35), blk zb (.cells #[(Value.map (some zm)), (Value.int .u64 fo)] 87), mapP zm ps] [SlAt 3 v l.length (l.flatMap pinE)])
    refine TW.read (v := (Value.tuple #[(Value.int .u64 ((heldV x10.sort x10.id ps).1)), (Value.bool ((heldV x10.sort x10.id ps).2))])) rfl (by decide) (by decide) rfl (fun A w M => (Mem.lookupP M 3 rfl Try.mp85 rfl rfl)) ?_
    refine TW.pure (v := (Value.tuple #[(Value.int .u64 ((heldV x10.sort x10.id ps).1)), (Value.bool ((heldV x10.sort x10.id ps).2))])) rfl (by decide) (by decide) rfl (fun w => (Step.move rfl)) ?_
    refine TW.pure (v := (Value.int .u64 ((heldV x10.sort x10.id ps).1))) rfl (by decide) (by decide) rfl (fun w => (Step.pure (by kernel_rfl))) ?_
    refine TW.pure (v := (Value.bool ((heldV x10.sort x10.id ps).2))) rfl (by decide) (by decide) rfl (fun w => (Step.pure (by kernel_rfl))) ?_
    refine TW.pure (v := (Value.int .u64 ((heldV x10.sort x10.id ps).1))) rfl (by decide) (by decide) rfl (fun w => (Step.assign rfl)) ?_
    refine TW.pure (v := (Value.bool ((heldV x10.sort x10.id ps).2))) rfl (by decide) (by decide) rfl (fun w => (Step.assign rfl)) ?_
    refine TW.done (fun w14 M => ?_)
    refine W.seq' ?_
    refine W.region rfl ?_
    refine WL.step (v := (Value.bool ((heldV x10.sort x10.id ps).2))) rfl (Step.move rfl) ?_
    refine WL.step (v := (Value.bool ((heldV x10.sort x10.id ps).2))) rfl (Step.move rfl) ?_
    rcases Bool.eq_false_or_eq_true ((heldV x10.sort x10.id ps).2) with h15 | h15
    ·
      rw [h15]
      refine WL.pass rfl ?_
      refine WL.pass rfl ?_
      refine WL.pass rfl ?_
      refine WL.pass rfl ?_
      refine WL.pass rfl ?_
      refine WL.step (v := (Value.bool true)) rfl (Step.pick (t := true) rfl rfl) ?_
      refine WL.nil ?_
      refine W.cond (t := true) rfl (fun _ => ?_) (fun h => by cases h)
      refine W.seq' ?_
      refine W.region rfl ?_
      refine WL.step (v := (Value.int .i64 2)) rfl (Step.assign rfl) ?_
      refine WL.nil ?_
      refine W.ret ?_
      refine ⟨.inl rfl, (Value.int .i64 2), ?_, ?_⟩
      · exact ⟨rfl, (Res.r1 (show RV _ _ _ (.tmp 4) (Value.int .i64 2) from by exact rfl))⟩
      have hpc_ : pinC ps fo l = 2 := by unfold pinC; rw [freeN_bad hx10 (.inl (by rw [← heldV_B]; exact h15))]; rfl
      replace M := M.rechunk 2 (c' := mapP zm (pinS ps fo l)) rfl (by unfold pinS; rw [hpc_]; rfl)
      replace M : Mem _ _ _ [blk b11 (.cells #[(Value.int .u8 x10.sort), (Value.int .u64 x10.id), (Value.int .u64 x10.epoch)] 35), blk zb (.cells #[(Value.map (some zm)), (Value.int .u64 fo)] 87), mapP zm (pinS ps fo l)] [SlAt 3 v l.length (l.flatMap pinE)] _ := M
      refine ⟨?_, M.close [1, 2] rfl (by decide) trivial⟩
      rw [hpc_]
    ·
      rw [h15]
      refine WL.step (v := v) rfl (Step.move rfl) ?_
      refine WL.step (v := (Value.int .i64 ↑i_)) rfl (Step.move rfl) ?_
      have hsh16 := SlAt.shp (M.rep 0 rfl)
      have hsh16c := hsh16
      obtain ⟨_, _, hsh16l, hsh16m⟩ := hsh16c
      refine WL.step (v := (vTake i_ v)) rfl (Step.sliceToP (h := i_) Try.un33 Try.el35.sized rfl rfl (by omega) hsh16 (by obtain ⟨_, _, _, _⟩ := hsh16; omega)) ?_
      refine WL.step (v := (Value.func (.func 56) #[] #[(Value.pointer (some ⟨b11, 0, none⟩))])) rfl (Step.pure (by kernel_rfl)) ?_
      refine WL.callX rfl (any_pin (vTake i_ v) (l.take i_) b11 x10 (M.enterW0 ⟨(((M.wideR0 0 rfl)).imp fun _ h => slat_take pinE_len h (by omega)), (M.wideC0 0 rfl), trivial⟩)) (CallsF.func Try.en55 rfl) ?_
      rintro _ w17 ⟨rfl, m⟩
      replace M := M.leaveW0 m
      clear m
      replace M : Mem _ _ _ [blk b11 (.cells #[(Value.int .u8 x10.sort), (Value.int .u64 x10.id), (Value.int .u64 x10.epoch)] 35), blk zb (.cells #[(Value.map (some zm)), (Value.int .u64 fo)] 87), mapP zm ps] [SlAt 3 v l.length (l.flatMap pinE)] _ := M
      refine WL.step (v := (Value.bool (heldB x10.sort x10.id (l.take i_)))) rfl (Step.pick (t := false) rfl rfl) ?_
      refine WL.nil ?_
      refine W.cond (t := heldB x10.sort x10.id (l.take i_)) rfl (fun h18 => ?_) (fun h18 => ?_)
      ·
        refine W.seq' ?_
        refine W.region rfl ?_
        refine WL.step (v := (Value.int .i64 2)) rfl (Step.assign rfl) ?_
        refine WL.nil ?_
        refine W.ret ?_
        refine ⟨.inl rfl, (Value.int .i64 2), ?_, ?_⟩
        · exact ⟨rfl, (Res.r1 (show RV _ _ _ (.tmp 4) (Value.int .i64 2) from by exact rfl))⟩
        have hpc_ : pinC ps fo l = 2 := by unfold pinC; rw [freeN_bad hx10 (.inr h18)]; rfl
        replace M := M.rechunk 2 (c' := mapP zm (pinS ps fo l)) rfl (by unfold pinS; rw [hpc_]; rfl)
        replace M : Mem _ _ _ [blk b11 (.cells #[(Value.int .u8 x10.sort), (Value.int .u64 x10.id), (Value.int .u64 x10.epoch)] 35), blk zb (.cells #[(Value.map (some zm)), (Value.int .u64 fo)] 87), mapP zm (pinS ps fo l)] [SlAt 3 v l.length (l.flatMap pinE)] _ := M
        refine ⟨?_, M.close [1, 2] rfl (by decide) trivial⟩
        rw [hpc_]
      ·
        refine W.skip ?_
        refine W.region rfl ?_
        refine WL.step (v := (Value.int .i64 (↑i_ + 1))) rfl (Step.add rfl rfl (wrap_i64 (by omega))) ?_
        refine WL.step (v := (Value.int .i64 (↑i_ + 1))) rfl (Step.move rfl) ?_
        refine WL.nil ?_
        replace M := M.sel (L' := [blk zb (.cells #[(Value.map (some zm)), (Value.int .u64 fo)] 87), mapP zm ps]) [1, 2] rfl (by decide)
        exact ⟨_, (by omega), i_ + 1, ⟨(by omega), (freeN_step hi6 hx10 (by rw [← heldV_B]; exact h15) h18), rfl⟩, ⟨rfl, rfl, rfl, rfl, rfl, rfl, rfl⟩, M⟩
  ·
    have h7p := of_decide_eq_false h7
    refine W.exit ?_
    refine thn_exit ?_
    refine thn_exit ?_
    refine inBlk_hit ?_
    refine W.seq' ?_
    refine W.seq' ?_
    refine W.region rfl ?_
    refine WL.step (v := v) rfl (Step.move rfl) ?_
    refine WL.step (v := (Value.int .i64 ↑l.length)) rfl (Step.lenSl Try.un33 rfl (M.rep 0 rfl)) ?_
    refine WL.step (v := (Value.int .i64 0)) rfl (Step.move rfl) ?_
    refine WL.nil ?_
    refine W.block ?_
    refine W.loop (fun kk ρ w' => ∃ (j_ : Nat), ((j_ ≤ l.length) ∧ (∀ j u, j < j_ → l[j]? = some u → (fun p => decide (p.epoch < fo)) u = false) ∧ kk = l.length - j_) ∧ ρ.has [(0, (Value.pointer (some ⟨zb, 0, none⟩))), (1, v), (41, v), (42, (Value.int .i64 ↑l.length)), (43, (Value.int .i64 ↑j_))] ∧ Mem G X w [blk zb (.cells #[(Value.map (some zm)), (Value.int .u64 fo)] 87), mapP zm ps] [SlAt 3 v l.length (l.flatMap pinE)]  w') _ ⟨0, ⟨(Nat.zero_le _), (fun _ _ h => absurd h (Nat.not_lt_zero _)), rfl⟩, ⟨rfl, rfl, rfl, rfl, rfl, rfl, rfl⟩, M⟩ ?_
    rintro _ ρ20 w19 ⟨j_, ⟨hi21, hi22, rfl⟩, hρ, M⟩
    obtain ⟨ρ20, rfl⟩ := hρ.know
    clear hρ
    refine W.seq' ?_
    refine W.region rfl ?_
    refine WL.step (v := (Value.bool (decide ((↑j_ : Int) < (↑l.length : Int))))) rfl (Step.pure (by kernel_rfl)) ?_
    refine WL.nil ?_
    refine W.seq' ?_
    refine W.cond (t := decide ((↑j_ : Int) < (↑l.length : Int))) rfl (fun h23 => ?_) (fun h23 => ?_)
    ·
      have h23p := of_decide_eq_true h23
      refine W.skip ?_
      refine W.seq' ?_
      refine W.block ?_
      refine W.seq' ?_
      refine W.region rfl ?_
      obtain ⟨cap25, hb24⟩ := SlAt.base (M.rep 0 rfl) (by omega)
      obtain ⟨x26, hx26⟩ := elem_of_lt (xs := l) (i := j_) (by omega)
      refine WL.step (v := (Value.pointer (some ⟨(sBlk v), sOff v + j_ * 3, none⟩))) rfl (Step.indexAddr (i := j_) (Try.un33).run Try.el35.sized rfl rfl (by omega) hb24 (by omega)) ?_
      refine WL.step (v := (Value.agg #[(Value.int .u8 x26.sort), (Value.int .u64 x26.id), (Value.int .u64 x26.epoch)])) rfl (Step.loadEN (k := 0) (cs' := [(Value.int .u8 x26.sort), (Value.int .u64 x26.id), (Value.int .u64 x26.epoch)]) Try.ag35 (flat_ec (M.rep 0 rfl) hx26 pinE_len) (by decide) rfl rfl rfl) ?_
      refine WL.alloc (c := #[(Value.int .u8 0), (Value.int .u64 0), (Value.int .u64 0)]) M rfl Try.el35.zero rfl (fun b27 w28 hb27 M => ?_)
      refine WL.store (v := (Value.agg #[(Value.int .u8 x26.sort), (Value.int .u64 x26.id), (Value.int .u64 x26.epoch)])) (cs := [(Value.int .u8 x26.sort), (Value.int .u64 x26.id), (Value.int .u64 x26.epoch)]) (c' := #[(Value.int .u8 x26.sort), (Value.int .u64 x26.id), (Value.int .u64 x26.epoch)]) M 0 rfl rfl Try.el35.sized rfl rfl rfl rfl (Nat.le_of_ble_eq_true rfl) (cel_cons rfl (cel_cons rfl (cel_cons rfl cel_nil))) rfl rfl (fun w29 M => ?_)
      refine WL.nil ?_
      refine W.seq' ?_
      refine W.drawn M [0, 1, 2, 3, 4, 5, 6] [] [] [blk b27 (.cells #[(Value.int .u8 x26.sort), (Value.int .u64 x26.id), (Value.int .u64 x26.epoch)] 35), blk zb (.cells #[(Value.map (some zm)), (Value.int .u64 fo)] 87), mapP zm ps] [SlAt 3 v l.length (l.flatMap pinE)] (List.Sublist.cons_cons _ (List.Sublist.cons_cons _ (List.Sublist.cons_cons _ List.Sublist.slnil))) (fun _ h => h) Try.mixed (by kernel_rfl) ?_
      refine TW.pure (v := (Value.pointer (some ⟨b27, 2, none⟩))) rfl (by decide) (by decide) rfl (fun w => (Step.pure (by kernel_rfl))) ?_
      refine TW.read (v := (Value.int .u64 x26.epoch)) rfl (by decide) (by decide) rfl (fun A w M => (Step.load1 Try.sc23 rfl ((M.cell 1 rfl 2).trans rfl))) ?_
      refine TW.pure (v := (Value.pointer (some ⟨zb, 0, none⟩))) rfl (by decide) (by decide) rfl (fun w => (Step.move rfl)) ?_
      refine TW.pure (v := (Value.pointer (some ⟨zb, 0, none⟩))) rfl (by decide) (by decide) rfl (fun w => (Step.pure (by kernel_rfl))) ?_
      refine TW.pure (v := (Value.pointer (some ⟨zb, 1, none⟩))) rfl (by decide) (by decide) rfl (fun w => (Step.pure (by kernel_rfl))) ?_
      refine TW.read (v := (Value.int .u64 fo)) rfl (by decide) (by decide) rfl (fun A w M => (Step.load1 Try.sc23 rfl ((M.cell 2 rfl 1).trans rfl))) ?_
      refine TW.pure (v := (Value.bool (decide ((x26.epoch : Int) < (fo : Int))))) rfl (by decide) (by decide) rfl (fun w => (Step.pure (by kernel_rfl))) ?_
      refine TW.done (fun w30 M => ?_)
      refine W.cond (t := decide ((x26.epoch : Int) < (fo : Int))) rfl (fun h31 => ?_) (fun h31 => ?_)
      ·
        have h31p := of_decide_eq_true h31
        refine W.seq' ?_
        refine W.region rfl ?_
        refine WL.step (v := (Value.int .i64 230)) rfl (Step.assign rfl) ?_
        refine WL.nil ?_
        refine W.ret ?_
        refine ⟨.inl rfl, (Value.int .i64 230), ?_, ?_⟩
        · exact ⟨rfl, (Res.r1 (show RV _ _ _ (.tmp 4) (Value.int .i64 230) from by exact rfl))⟩
        have hpc_ : pinC ps fo l = 230 := by unfold pinC; rw [show l.length = i_ by omega, hi6, List.any_eq_true.2 ⟨_, List.mem_of_getElem? hx26, h31⟩]; rfl
        replace M := M.rechunk 2 (c' := mapP zm (pinS ps fo l)) rfl (by unfold pinS; rw [hpc_]; rfl)
        replace M : Mem _ _ _ [blk b27 (.cells #[(Value.int .u8 x26.sort), (Value.int .u64 x26.id), (Value.int .u64 x26.epoch)] 35), blk zb (.cells #[(Value.map (some zm)), (Value.int .u64 fo)] 87), mapP zm (pinS ps fo l)] [SlAt 3 v l.length (l.flatMap pinE)] _ := M
        refine ⟨?_, M.close [1, 2] rfl (by decide) trivial⟩
        rw [hpc_]
      ·
        have h31p := of_decide_eq_false h31
        refine W.skip ?_
        refine W.region rfl ?_
        refine WL.step (v := (Value.int .i64 (↑j_ + 1))) rfl (Step.add rfl rfl (wrap_i64 (by omega))) ?_
        refine WL.step (v := (Value.int .i64 (↑j_ + 1))) rfl (Step.move rfl) ?_
        refine WL.nil ?_
        replace M := M.sel (L' := [blk zb (.cells #[(Value.map (some zm)), (Value.int .u64 fo)] 87), mapP zm ps]) [1, 2] rfl (by decide)
        exact ⟨_, (by omega), j_ + 1, ⟨(by omega), (below_stepG hi22 hx26 h31), rfl⟩, ⟨rfl, rfl, rfl, rfl, rfl, rfl, rfl⟩, M⟩
    ·
      have h23p := of_decide_eq_false h23
      refine W.exit ?_
      refine thn_exit ?_
      refine thn_exit ?_
      refine inBlk_hit ?_
      refine W.seq' ?_
      refine W.seq' ?_
      refine W.region rfl ?_
      refine WL.step (v := v) rfl (Step.move rfl) ?_
      refine WL.step (v := (Value.int .i64 ↑l.length)) rfl (Step.lenSl Try.un33 rfl (M.rep 0 rfl)) ?_
      refine WL.step (v := (Value.int .i64 0)) rfl (Step.move rfl) ?_
      refine WL.nil ?_
      refine W.block ?_
      replace M := M.rechunk 1 (c' := mapP zm ((l.take 0).foldl (fun (a : List PinH) (p : PinH) => setP p a) ps)) rfl rfl
      replace M : Mem _ _ _ [blk zb (.cells #[(Value.map (some zm)), (Value.int .u64 fo)] 87), mapP zm ((l.take 0).foldl (fun (a : List PinH) (p : PinH) => setP p a) ps)] [SlAt 3 v l.length (l.flatMap pinE)] _ := M
      replace M := M.sel (L' := [mapP zm ((l.take 0).foldl (fun (a : List PinH) (p : PinH) => setP p a) ps), blk zb (.cells #[(Value.map (some zm)), (Value.int .u64 fo)] 87)]) [1, 0] rfl (by decide)
      replace M : Mem _ _ _ [mapP zm ((l.take 0).foldl (fun (a : List PinH) (p : PinH) => setP p a) ps), blk zb (.cells #[(Value.map (some zm)), (Value.int .u64 fo)] 87)] [SlAt 3 v l.length (l.flatMap pinE)] _ := M
      refine W.loop (fun kk ρ w' => ∃ (k_ : Nat), ((k_ ≤ l.length) ∧ kk = l.length - k_) ∧ ρ.has [(0, (Value.pointer (some ⟨zb, 0, none⟩))), (55, v), (56, (Value.int .i64 ↑l.length)), (57, (Value.int .i64 ↑k_))] ∧ Mem G X w [mapP zm ((l.take k_).foldl (fun (a : List PinH) (p : PinH) => setP p a) ps), blk zb (.cells #[(Value.map (some zm)), (Value.int .u64 fo)] 87)] [SlAt 3 v l.length (l.flatMap pinE)]  w') _ ⟨0, ⟨(Nat.zero_le _), rfl⟩, ⟨rfl, rfl, rfl, rfl, rfl, rfl⟩, M⟩ ?_
      rintro _ ρ33 w32 ⟨k_, ⟨hi34, rfl⟩, hρ, M⟩
      obtain ⟨ρ33, rfl⟩ := hρ.know
      clear hρ
      refine W.seq' ?_
      refine W.region rfl ?_
      refine WL.step (v := (Value.bool (decide ((↑k_ : Int) < (↑l.length : Int))))) rfl (Step.pure (by kernel_rfl)) ?_
      refine WL.nil ?_
      refine W.seq' ?_
      refine W.cond (t := decide ((↑k_ : Int) < (↑l.length : Int))) rfl (fun h35 => ?_) (fun h35 => ?_)
      ·
        have h35p := of_decide_eq_true h35
        refine W.skip ?_
        refine W.seq' ?_
        refine W.block ?_
        refine W.seq' ?_
        refine W.region rfl ?_
        obtain ⟨cap37, hb36⟩ := SlAt.base (M.rep 0 rfl) (by omega)
        obtain ⟨x38, hx38⟩ := elem_of_lt (xs := l) (i := k_) (by omega)
        refine WL.step (v := (Value.pointer (some ⟨(sBlk v), sOff v + k_ * 3, none⟩))) rfl (Step.indexAddr (i := k_) (Try.un33).run Try.el35.sized rfl rfl (by omega) hb36 (by omega)) ?_
        refine WL.step (v := (Value.agg #[(Value.int .u8 x38.sort), (Value.int .u64 x38.id), (Value.int .u64 x38.epoch)])) rfl (Step.loadEN (k := 0) (cs' := [(Value.int .u8 x38.sort), (Value.int .u64 x38.id), (Value.int .u64 x38.epoch)]) Try.ag35 (flat_ec (M.rep 0 rfl) hx38 pinE_len) (by decide) rfl rfl rfl) ?_
        refine WL.alloc (c := #[(Value.int .u8 0), (Value.int .u64 0), (Value.int .u64 0)]) M rfl Try.el35.zero rfl (fun b39 w40 hb39 M => ?_)
        refine WL.store (v := (Value.agg #[(Value.int .u8 x38.sort), (Value.int .u64 x38.id), (Value.int .u64 x38.epoch)])) (cs := [(Value.int .u8 x38.sort), (Value.int .u64 x38.id), (Value.int .u64 x38.epoch)]) (c' := #[(Value.int .u8 x38.sort), (Value.int .u64 x38.id), (Value.int .u64 x38.epoch)]) M 0 rfl rfl Try.el35.sized rfl rfl rfl rfl (Nat.le_of_ble_eq_true rfl) (cel_cons rfl (cel_cons rfl (cel_cons rfl cel_nil))) rfl rfl (fun w41 M => ?_)
        refine WL.nil ?_
        refine W.drawn M [0, 1, 2, 3, 4, 5, 6, 7, 8] [5, 8] [] [blk b39 (.cells #[(Value.int .u8 x38.sort), (Value.int .u64 x38.id), (Value.int .u64 x38.epoch)] 35), blk zb (.cells #[(Value.map (some zm)), (Value.int .u64 fo)] 87)] [SlAt 3 v l.length (l.flatMap pinE)] (List.Sublist.cons_cons _ (List.Sublist.cons _ (List.Sublist.cons_cons _ List.Sublist.slnil))) (fun _ h => h) Try.mixed (by kernel_rfl) ?_
        refine TW.pure (v := (Value.pointer (some ⟨zb, 0, none⟩))) rfl (by decide) (by decide) rfl (fun w => (Step.move rfl)) ?_
        refine TW.pure (v := (Value.pointer (some ⟨zb, 0, none⟩))) rfl (by decide) (by decide) rfl (fun w => (Step.pure (by kernel_rfl))) ?_
        refine TW.pure (v := (Value.pointer (some ⟨zb, 0, none⟩))) rfl (by decide) (by decide) rfl (fun w => (Step.pure (by kernel_rfl))) ?_
        refine TW.read (v := (Value.map (some zm))) rfl (by decide) (by decide) rfl (fun A w M => (Step.load1 Try.sc85 rfl ((M.cell 2 rfl 0).trans rfl))) ?_
        refine TW.read (v := (Value.agg #[(Value.int .u8 x38.sort), (Value.int .u64 x38.id), (Value.int .u64 x38.epoch)])) rfl (by decide) (by decide) rfl (fun A w M => (Step.loadN Try.ag35 rfl (M.blk 1 rfl) (Nat.le_of_ble_eq_true rfl) rfl)) ?_
        refine TW.callX (ι := Unit) (fun jx v_ => v_ = (Value.agg #[(Value.int .u8 x38.sort), (Value.int .u64 x38.id)])) (fun jx => [blk b39 (.cells #[(Value.int .u8 x38.sort), (Value.int .u64 x38.id), (Value.int .u64 x38.epoch)] 35), mapP zm ((l.take k_).foldl (fun (a : List PinH) (p : PinH) => setP p a) ps), blk zb (.cells #[(Value.map (some zm)), (Value.int .u64 fo)] 87)]) (fun jx => [SlAt 3 v l.length (l.flatMap pinE)]) rfl (by decide) rfl (fun jx => (List.Sublist.cons_cons _ (List.Sublist.cons _ (List.Sublist.cons_cons _ List.Sublist.slnil)))) (fun jx r h => h) (fun A w M => Rets.mono (hz_who x38 (M.enterW0 trivial)) (fun v_ w_ ⟨e_, m⟩ => ⟨(), e_, (M.leaveW0 m).sel (L' := [fl A, blk b39 (.cells #[(Value.int .u8 x38.sort), (Value.int .u64 x38.id), (Value.int .u64 x38.epoch)] 35), mapP zm ((l.take k_).foldl (fun (a : List PinH) (p : PinH) => setP p a) ps), blk zb (.cells #[(Value.map (some zm)), (Value.int .u64 fo)] 87)]) [0, 1, 2, 3] rfl (by decide), fun b hb => M.keptW0 m (fl A) (List.mem_cons_self ..) b hb⟩)) (fun w => CallsF.func Try.en54 rfl) (fun jx v hp hin => ?_)
        replace hp := hp.symm; subst hp
        clear hin
        change TW _ _ _ _ _ _ _ _ (MemA _ _ _ [blk b39 (.cells #[(Value.int .u8 x38.sort), (Value.int .u64 x38.id), (Value.int .u64 x38.epoch)] 35), mapP zm ((l.take k_).foldl (fun (a : List PinH) (p : PinH) => setP p a) ps), blk zb (.cells #[(Value.map (some zm)), (Value.int .u64 fo)] 87)] [SlAt 3 v l.length (l.flatMap pinE)])
        refine TW.pure (v := (Value.pointer (some ⟨b39, 2, none⟩))) rfl (by decide) (by decide) rfl (fun w => (Step.pure (by kernel_rfl))) ?_
        refine TW.read (v := (Value.int .u64 x38.epoch)) rfl (by decide) (by decide) rfl (fun A w M => (Step.load1 Try.sc23 rfl ((M.cell 1 rfl 2).trans rfl))) ?_
        refine TW.act (c' := mapP zm (setP x38 ((l.take k_).foldl (fun (a : List PinH) (p : PinH) => setP p a) ps))) 1 rfl rfl (by decide) rfl (List.Sublist.cons_cons _ (List.Sublist.cons _ (List.Sublist.cons_cons _ List.Sublist.slnil))) (fun r h => h) (fun A w M => Mem.setP (p := x38) M 2 rfl Try.mp85 rfl rfl rfl) ?_
        refine TW.done (fun w42 M => ?_)
        refine W.region rfl ?_
        refine WL.step (v := (Value.int .i64 (↑k_ + 1))) rfl (Step.add rfl rfl (wrap_i64 (by omega))) ?_
        refine WL.step (v := (Value.int .i64 (↑k_ + 1))) rfl (Step.move rfl) ?_
        refine WL.nil ?_
        replace M := M.rechunk 1 (c' := mapP zm ((l.take (k_ + 1)).foldl (fun (a : List PinH) (p : PinH) => setP p a) ps)) rfl (by rw [← take_snoc hx38, List.foldl_append]; rfl)
        replace M : Mem _ _ _ [blk b39 (.cells #[(Value.int .u8 x38.sort), (Value.int .u64 x38.id), (Value.int .u64 x38.epoch)] 35), mapP zm ((l.take (k_ + 1)).foldl (fun (a : List PinH) (p : PinH) => setP p a) ps), blk zb (.cells #[(Value.map (some zm)), (Value.int .u64 fo)] 87)] [SlAt 3 v l.length (l.flatMap pinE)] _ := M
        replace M := M.sel (L' := [mapP zm ((l.take (k_ + 1)).foldl (fun (a : List PinH) (p : PinH) => setP p a) ps), blk zb (.cells #[(Value.map (some zm)), (Value.int .u64 fo)] 87)]) [1, 2] rfl (by decide)
        exact ⟨_, (by omega), k_ + 1, ⟨(by omega), rfl⟩, ⟨rfl, rfl, rfl, rfl, rfl, rfl⟩, M⟩
      ·
        have h35p := of_decide_eq_false h35
        refine W.exit ?_
        refine thn_exit ?_
        refine thn_exit ?_
        refine inBlk_hit ?_
        refine W.seq' ?_
        refine W.region rfl ?_
        refine WL.step (v := (Value.int .i64 0)) rfl (Step.assign rfl) ?_
        refine WL.nil ?_
        refine W.ret ?_
        refine ⟨.inl rfl, (Value.int .i64 0), ?_, ?_⟩
        · exact ⟨rfl, (Res.r1 (show RV _ _ _ (.tmp 4) (Value.int .i64 0) from by exact rfl))⟩
        have hpc_ : pinC ps fo l = 0 := by unfold pinC; rw [show l.length = i_ by omega, hi6, any_none hi22 (by omega)]; rfl
        replace M := M.rechunk 0 (c' := mapP zm (pinS ps fo l)) rfl (by unfold pinS; rw [hpc_, show k_ = l.length by omega, List.take_length]; rfl)
        replace M : Mem _ _ _ [mapP zm (pinS ps fo l), blk zb (.cells #[(Value.map (some zm)), (Value.int .u64 fo)] 87)] [SlAt 3 v l.length (l.flatMap pinE)] _ := M
        refine ⟨?_, M.close [1, 0] rfl (by decide) trivial⟩
        rw [hpc_]
end Go.Proofs
