/- Walks. -/
import Derived.Test.YtlehkjkpgmkbiaaTrC5
set_option maxRecDepth 100000
set_option linter.all false
namespace Go.Proofs
open Go Tp
theorem Try.en18 : Enters Try.prog 18 := fun _ _ => by kernel_rfl
theorem Try.en84 : Enters Try.prog 84 := fun _ _ => by kernel_rfl
theorem Try.en87 : Enters Try.prog 87 := fun _ _ => by kernel_rfl
theorem Try.en88 : Enters Try.prog 88 := fun _ _ => by kernel_rfl
theorem Try.en89 : Enters Try.prog 89 := fun _ _ => by kernel_rfl

theorem ch_drop1 {G : Nat → Prop} {w : World} (x : Ver) (eb : Nat) (e : Int)   (M : Mem G (fun _ => False) w [] [(fun w => w.heap[eb]? = some (.cells #[(Value.int .u64 e)] 23))] w) : Rets Try.prog 88 #[(Value.agg #[(Value.int .u64 x.epoch), (Value.bool x.dead), (Value.int .i64 x.agg.count), (Value.int .i64 x.agg.sum), (Value.int .i64 x.agg.min), (Value.int .i64 x.agg.max)]), (Value.pointer (some ⟨eb, 0, none⟩))] w fun r w' => r = (Value.bool (x.epoch == e)) ∧ Mem G (fun _ => False) w [] [] w' := by
  refine Rets.enter 8 _ Try.func88 rfl Try.ntmps88 Try.results88 (by simp) ?_
  refine W.seq' ?_
  refine W.region rfl ?_
  refine WL.box (v := (Value.agg #[(Value.int .u64 x.epoch), (Value.bool x.dead), (Value.int .i64 x.agg.count), (Value.int .i64 x.agg.sum), (Value.int .i64 x.agg.min), (Value.int .i64 x.agg.max)])) (c := #[(Value.int .u64 x.epoch), (Value.bool x.dead), (Value.int .i64 x.agg.count), (Value.int .i64 x.agg.sum), (Value.int .i64 x.agg.min), (Value.int .i64 x.agg.max)]) M rfl rfl rfl (fun b1 w2 hb1 M => ?_)
  refine WL.step (v := (Value.bool false)) rfl (Step.assign rfl) ?_
  refine WL.nil ?_
  refine W.seq' ?_
  refine W.region rfl ?_
  refine WL.step (v := (Value.pointer (some ⟨b1, 0, none⟩))) rfl (Step.pure (by kernel_rfl)) ?_
  refine WL.step (v := (Value.int .u64 x.epoch)) rfl (Step.load1 Try.sc23 rfl ((M.cell 0 rfl 0).trans rfl)) ?_
  refine WL.step (v := (Value.int .u64 e)) rfl (Step.load1 Try.sc23 rfl ((cell_blk (M.rep 0 rfl) 0).trans rfl)) ?_
  refine WL.step (v := (Value.bool ((x.epoch : Int) == (e : Int)))) rfl (Step.pure (by kernel_rfl)) ?_
  refine WL.step (v := (Value.bool ((x.epoch : Int) == (e : Int)))) rfl (Step.assign rfl) ?_
  refine WL.nil ?_
  refine W.ret ?_
  refine ⟨.inl rfl, (Value.bool ((x.epoch : Int) == (e : Int))), ?_, ?_⟩
  · exact ⟨rfl, (Res.r1 (show RV _ _ _ (.tmp 3) (Value.bool ((x.epoch : Int) == (e : Int))) from by exact rfl))⟩
  refine ⟨?_, M.close [] rfl (by decide) trivial⟩
  rfl

theorem ch_drop {G X : Nat → Prop} {w : World} (cb : Nat) (v : Value) (xs : List Ver) (e : Int) (f : Int)   (M : Mem G X w [blk cb (.cells #[v] 135), own 34 6 v xs.length (xs.flatMap verE)] [] w) : Rets Try.prog 35 #[(Value.pointer (some ⟨cb, 0, none⟩)), (Value.int .u64 e), (Value.int .u64 f)] w fun r w' => ∃ (v' : Value), r = (Value.bool ((dropV xs e f).2)) ∧ Mem G X w [blk cb (.cells #[v'] 135), own 34 6 v' (((dropV xs e f).1).length) (((dropV xs e f).1).flatMap verE)] [] w' := by
  refine Rets.enter 21 _ Try.func35 rfl Try.ntmps35 Try.results35 (by simp) ?_
  have sl1 : IsSl v := SlAt.isSl (own_slAt (Mem.chunk M 1 rfl).inv)
  have hle2 := SlAt.le' (own_slAt (Mem.chunk M 1 rfl).inv)
  refine W.seq' ?_
  refine W.region rfl ?_
  refine WL.box (v := (Value.int .u64 e)) (c := #[(Value.int .u64 e)]) M rfl rfl rfl (fun b3 w4 hb3 M => ?_)
  refine WL.step (v := (Value.bool false)) rfl (Step.assign rfl) ?_
  refine WL.nil ?_
  refine W.seq' ?_
  refine W.seq' ?_
  refine W.region rfl ?_
  refine WL.step (v := (Value.pointer (some ⟨cb, 0, none⟩))) rfl (Step.move rfl) ?_
  refine WL.step (v := (Value.int .u64 e)) rfl (Step.load1 Try.sc23 rfl ((M.cell 0 rfl 0).trans rfl)) ?_
  refine WL.step (v := (Value.int .u64 f)) rfl (Step.move rfl) ?_
  refine WL.callX rfl (ch_garb cb v xs e f (M.enterW0 ⟨(M.wideC0 1 rfl), ((M.wideC0 2 rfl).imp fun _ h => own_slAt h), trivial⟩)) (CallsF.func Try.en18 rfl) ?_
  rintro _ w5 ⟨rfl, m⟩
  replace M := M.leaveW0 m
  clear m
  replace M : Mem _ _ _ [blk b3 (.cells #[(Value.int .u64 e)] 23), blk cb (.cells #[v] 135), own 34 6 v xs.length (xs.flatMap verE)] [] _ := M
  refine WL.step (v := (Value.bool (!(garb xs e f)))) rfl (Step.pure (by kernel_rfl)) ?_
  refine WL.nil ?_
  refine W.cond (t := !(garb xs e f)) rfl (fun h6 => ?_) (fun h6 => ?_)
  ·
    refine W.seq' ?_
    refine W.region rfl ?_
    refine WL.step (v := (Value.bool false)) rfl (Step.assign rfl) ?_
    refine WL.nil ?_
    refine W.ret ?_
    refine ⟨.inl rfl, (Value.bool false), ?_, ?_⟩
    · exact ⟨rfl, (Res.r1 (show RV _ _ _ (.tmp 6) (Value.bool false) from by exact rfl))⟩
    have e7 : (dropV xs e f).1 = xs := by
      simp [dropV, show garb xs e f = _ by simpa using h6]
    replace M := M.rechunk 2 (c' := own 34 6 v (((dropV xs e f).1).length) (((dropV xs e f).1).flatMap verE)) rfl (congrArg (fun z => own 34 6 v z.length (z.flatMap verE)) e7.symm)
    replace M : Mem _ _ _ [blk b3 (.cells #[(Value.int .u64 e)] 23), blk cb (.cells #[v] 135), own 34 6 v (((dropV xs e f).1).length) (((dropV xs e f).1).flatMap verE)] [] _ := M
    refine ⟨v, ?_, M.close [1, 2] rfl (by decide) trivial⟩
    simp [dropV, show garb xs e f = _ by simpa using h6]
  ·
    refine W.skip ?_
    refine W.seq' ?_
    refine W.region rfl ?_
    refine WL.step (v := (Value.pointer (some ⟨cb, 0, none⟩))) rfl (Step.move rfl) ?_
    refine WL.step (v := (Value.pointer (some ⟨cb, 0, none⟩))) rfl (Step.move rfl) ?_
    refine WL.step (v := (Value.pointer (some ⟨cb, 0, none⟩))) rfl (Step.pure (by kernel_rfl)) ?_
    refine WL.step (v := (Value.pointer (some ⟨cb, 0, none⟩))) rfl (Step.pure (by kernel_rfl)) ?_
    refine WL.step (v := v) rfl (Step.load1 Try.sc22 rfl ((M.cell 1 rfl 0).trans rfl)) ?_
    refine WL.step (v := (Value.func (.func 88) #[] #[(Value.pointer (some ⟨b3, 0, none⟩))])) rfl (Step.pure (by kernel_rfl)) ?_
    have hfc : FnC Try.prog (Value.func (.func 88) #[] #[(Value.pointer (some ⟨b3, 0, none⟩))]) verV xs (fun v => v.epoch == e) (fun (_ : Nat) (_ : Unit) => blk b3 (.cells #[(Value.int .u64 e)] 23)) := FnC.of_fact (fun x w hs => RetsV.of_rets (mid := [verV x]) (args := [verV x, (Value.pointer (some ⟨b3, 0, none⟩))]) Try.en88 rfl (ch_drop1 x b3 e (Mem.law0 ⟨hs, trivial⟩)))
    refine WL.callX rfl (delfunc_ver v xs (Value.func (.func 88) #[] #[(Value.pointer (some ⟨b3, 0, none⟩))]) (fun (_ : Nat) (_ : Unit) => blk b3 (.cells #[(Value.int .u64 e)] 23)) () (fun v => v.epoch == e) hfc (M.enterW (C := [own 34 6 v xs.length (xs.flatMap verE), blk b3 (.cells #[(Value.int .u64 e)] 23)]) (D := [blk cb (.cells #[v] 135)]) [2, 0, 1] rfl (by decide) trivial)) (CallsF.func Try.en87 rfl) ?_
    rintro v9 w8 ⟨_, _, rfl, m⟩
    replace M := M.leaveW (C := [own 34 6 v xs.length (xs.flatMap verE), blk b3 (.cells #[(Value.int .u64 e)] 23)]) (D := [blk cb (.cells #[v] 135)]) [2, 0, 1] rfl (by decide) m
    replace M : Mem _ _ _ [own 34 6 v9 ((xs.filter fun v => !(v.epoch == e)).length) ((xs.filter fun v => !(v.epoch == e)).flatMap verE), blk b3 (.cells #[(Value.int .u64 e)] 23), blk cb (.cells #[v] 135)] [] _ := M
    have sl10 : IsSl v9 := SlAt.isSl (own_slAt (Mem.chunk M 0 rfl).inv)
    have hle11 := SlAt.le' (own_slAt (Mem.chunk M 0 rfl).inv)
    refine WL.step (v := (Value.pointer (some ⟨cb, 0, none⟩))) rfl (Step.pure (by kernel_rfl)) ?_
    refine WL.step (v := (Value.pointer (some ⟨cb, 0, none⟩))) rfl (Step.pure (by kernel_rfl)) ?_
    refine WL.store (v := v9) (cs := [v9]) (c' := #[v9]) M 2 rfl rfl Try.el22.sized rfl rfl (IsSl.list sl10) rfl (Nat.le_of_ble_eq_true rfl) (cel_cons (IsSl.cel sl10) cel_nil) rfl rfl (fun w12 M => ?_)
    refine WL.nil ?_
    refine W.seq' ?_
    refine W.region rfl ?_
    refine WL.step (v := (Value.bool true)) rfl (Step.assign rfl) ?_
    refine WL.nil ?_
    refine W.ret ?_
    refine ⟨.inl rfl, (Value.bool true), ?_, ?_⟩
    · exact ⟨rfl, (Res.r1 (show RV _ _ _ (.tmp 6) (Value.bool true) from by exact rfl))⟩
    have e13 : (dropV xs e f).1 = xs.filter fun v => !(v.epoch == e) := by
      simp [dropV, show garb xs e f = _ by simpa using h6]
    replace M := M.rechunk 0 (c' := own 34 6 v9 (((dropV xs e f).1).length) (((dropV xs e f).1).flatMap verE)) rfl (congrArg (fun z => own 34 6 v9 z.length (z.flatMap verE)) e13.symm)
    replace M : Mem _ _ _ [own 34 6 v9 (((dropV xs e f).1).length) (((dropV xs e f).1).flatMap verE), blk b3 (.cells #[(Value.int .u64 e)] 23), blk cb (.cells #[v9] 135)] [] _ := M
    refine ⟨v9, ?_, M.close [2, 0] rfl (by decide) trivial⟩
    simp [dropV, show garb xs e f = _ by simpa using h6]

theorem ch_trim {G X : Nat → Prop} {w : World} (cb : Nat) (v : Value) (xs : List Ver) (f : Int)  (hb : xs.length ≤ 1000000) (M : Mem G X w [blk cb (.cells #[v] 135), own 34 6 v xs.length (xs.flatMap verE)] [] w) : Rets Try.prog 19 #[(Value.pointer (some ⟨cb, 0, none⟩)), (Value.int .u64 f)] w fun r w' => ∃ (v' : Value), r = (Value.int .i64 (↑(trimV xs f).2)) ∧ Mem G X w [blk cb (.cells #[v'] 135), own 34 6 v' (((trimV xs f).1).length) (((trimV xs f).1).flatMap verE)] [] w' := by
  refine Rets.enter 35 _ Try.func19 rfl Try.ntmps19 Try.results19 (by simp) ?_
  have sl1 : IsSl v := SlAt.isSl (own_slAt (Mem.chunk M 1 rfl).inv)
  have hle2 := SlAt.le' (own_slAt (Mem.chunk M 1 rfl).inv)
  refine W.seq' ?_
  refine W.region rfl ?_
  refine WL.step (v := (Value.int .i64 0)) rfl (Step.assign rfl) ?_
  refine WL.nil ?_
  refine W.seq' ?_
  refine W.seq' ?_
  refine W.region rfl ?_
  refine WL.step (v := (Value.pointer (some ⟨cb, 0, none⟩))) rfl (Step.move rfl) ?_
  refine WL.step (v := (Value.bool false)) rfl (Step.pure (by kernel_rfl)) ?_
  refine WL.nil ?_
  refine W.cond (t := false) rfl (fun h => by cases h) (fun _ => ?_)
  refine W.skip ?_
  refine W.seq' ?_
  refine W.region rfl ?_
  refine WL.step (v := (Value.pointer (some ⟨cb, 0, none⟩))) rfl (Step.move rfl) ?_
  refine WL.step (v := (Value.int .u64 f)) rfl (Step.move rfl) ?_
  refine WL.step (v := (Value.agg #[(Value.pointer (some ⟨cb, 0, none⟩)), (Value.int .u64 f)])) rfl (Step.pure (by kernel_rfl)) ?_
  refine WL.step (v := (Value.func (.func 82) #[(Value.agg #[(Value.pointer (some ⟨cb, 0, none⟩)), (Value.int .u64 f)])] #[])) rfl (Step.pure (by kernel_rfl)) ?_
  refine WL.step (v := (Value.func (.func 82) #[(Value.agg #[(Value.pointer (some ⟨cb, 0, none⟩)), (Value.int .u64 f)])] #[])) rfl (Step.assign rfl) ?_
  refine WL.nil ?_
  refine W.block ?_
  refine W.loop (fun kk ρ w' => ∃ (l_ : List Ver) (v_ : Value) (n_ : Nat), ((trimV xs f = ((trimV l_ f).1, (trimV l_ f).2 + n_)) ∧ (n_ + l_.length = xs.length) ∧ kk = l_.length) ∧ ρ.has [(0, (Value.pointer (some ⟨cb, 0, none⟩))), (4, (Value.int .i64 ↑n_)), (5, (Value.func (.func 82) #[(Value.agg #[(Value.pointer (some ⟨cb, 0, none⟩)), (Value.int .u64 f)])] #[]))] ∧ Mem G X w [blk cb (.cells #[v_] 135), own 34 6 v_ l_.length (l_.flatMap verE)] []  w') _ ⟨xs, _, 0, ⟨rfl, (by omega), rfl⟩, ⟨rfl, rfl, rfl, rfl, rfl⟩, M⟩ ?_
  rintro _ ρ4 w3 ⟨l_, v_, n_, ⟨hi5, hi6, rfl⟩, hρ, M⟩
  obtain ⟨ρ4, rfl⟩ := hρ.know
  clear hρ
  refine W.block ?_
  refine W.seq' ?_
  refine W.region rfl ?_
  refine WL.step (v := (Value.pointer (some ⟨cb, 0, none⟩))) rfl (Step.move rfl) ?_
  refine WL.step (v := (Value.pointer (some ⟨cb, 0, none⟩))) rfl (Step.pure (by kernel_rfl)) ?_
  refine WL.step (v := (Value.pointer (some ⟨cb, 0, none⟩))) rfl (Step.pure (by kernel_rfl)) ?_
  refine WL.step (v := v_) rfl (Step.load1 Try.sc22 rfl ((M.cell 0 rfl 0).trans rfl)) ?_
  refine WL.step (v := (Value.func (.func 82) #[(Value.agg #[(Value.pointer (some ⟨cb, 0, none⟩)), (Value.int .u64 f)])] #[])) rfl (Step.move rfl) ?_
  refine WL.callX rfl (indexb_ver v_ l_ (Value.func (.func 82) #[(Value.agg #[(Value.pointer (some ⟨cb, 0, none⟩)), (Value.int .u64 f)])] #[]) (fun u => garbV l_ u f) (M.enterW0 ⟨((M.wideC0 1 rfl).imp fun _ h => own_slAt h), (((M.wideC0 0 rfl).and (M.wideC0 1 rfl)).self.imp fun w h x hx => (RetsV.of_rets (mid := [verV x]) (args := [(Value.agg #[(Value.pointer (some ⟨cb, 0, none⟩)), (Value.int .u64 f)]), verV x]) Try.en82 rfl (ch_garb1 cb v_ l_ f x (List.length_pos_of_mem hx) (Mem.law0 ⟨h.imp fun _ h => h.1, h.imp fun _ h => own_slAt h.2, trivial⟩))).mono fun r w' ⟨e, m⟩ => ⟨e, m.mod⟩), trivial⟩)) (CallsF.func Try.en83 rfl) ?_
  rintro _ w7 ⟨rfl, m⟩
  replace M := M.leaveW0 m
  rcases hfi : l_.findIdx? (fun u => garbV l_ u f) with _ | i0_
  ·
    rw [(ixF_none hfi).1]
    replace M : Mem _ _ _ [blk cb (.cells #[v_] 135), own 34 6 v_ l_.length (l_.flatMap verE)] [] _ := M
    refine WL.step (v := (Value.int .i64 (-1))) rfl (Step.assign rfl) ?_
    refine WL.nil ?_
    refine W.seq' ?_
    refine W.seq' ?_
    refine W.region rfl ?_
    refine WL.step (v := (Value.int .i64 (-1))) rfl (Step.move rfl) ?_
    refine WL.step (v := (Value.bool true)) rfl (Step.pure (by kernel_rfl)) ?_
    refine WL.nil ?_
    refine W.cond (t := true) rfl (fun _ => ?_) (fun h => by cases h)
    refine W.seq' ?_
    refine W.region rfl ?_
    refine WL.step (v := (Value.int .i64 ↑n_)) rfl (Step.move rfl) ?_
    refine WL.step (v := (Value.int .i64 ↑n_)) rfl (Step.assign rfl) ?_
    refine WL.nil ?_
    refine W.ret ?_
    refine ⟨.inl rfl, (Value.int .i64 ↑n_), ?_, ?_⟩
    · exact ⟨rfl, (Res.r1 (show RV _ _ _ (.tmp 4) (Value.int .i64 ↑n_) from by exact rfl))⟩
    have e8 : (trimV xs f).1 = l_ := by
      rw [hi5, trim_none hfi]
      try simp
    replace M := M.rechunk 1 (c' := own 34 6 v_ (((trimV xs f).1).length) (((trimV xs f).1).flatMap verE)) rfl (congrArg (fun z => own 34 6 v_ z.length (z.flatMap verE)) e8.symm)
    replace M : Mem _ _ _ [blk cb (.cells #[v_] 135), own 34 6 v_ (((trimV xs f).1).length) (((trimV xs f).1).flatMap verE)] [] _ := M
    refine ⟨v_, ?_, M.close [0, 1] rfl (by decide) trivial⟩
    rw [hi5, trim_none hfi]
    try simp
  ·
    rw [(ixF_some hfi).1]
    obtain ⟨hi0, -, -⟩ := findIdx_some_at hfi
    replace M : Mem _ _ _ [blk cb (.cells #[v_] 135), own 34 6 v_ l_.length (l_.flatMap verE)] [] _ := M
    refine WL.step (v := (Value.int .i64 ↑i0_)) rfl (Step.assign rfl) ?_
    refine WL.nil ?_
    refine W.seq' ?_
    refine W.seq' ?_
    refine W.region rfl ?_
    refine WL.step (v := (Value.int .i64 ↑i0_)) rfl (Step.move rfl) ?_
    refine WL.step (v := (Value.bool (decide ((↑i0_ : Int) < (0 : Int))))) rfl (Step.pure (by kernel_rfl)) ?_
    refine WL.nil ?_
    refine W.cond (t := decide ((↑i0_ : Int) < (0 : Int))) rfl (fun h9 => ?_) (fun h9 => ?_)
    ·
      have h9p := of_decide_eq_true h9
      omega
    ·
      have h9p := of_decide_eq_false h9
      refine W.skip ?_
      refine W.seq' ?_
      refine W.region rfl ?_
      refine WL.step (v := (Value.pointer (some ⟨cb, 0, none⟩))) rfl (Step.move rfl) ?_
      refine WL.step (v := (Value.pointer (some ⟨cb, 0, none⟩))) rfl (Step.move rfl) ?_
      refine WL.step (v := (Value.pointer (some ⟨cb, 0, none⟩))) rfl (Step.pure (by kernel_rfl)) ?_
      refine WL.step (v := (Value.pointer (some ⟨cb, 0, none⟩))) rfl (Step.pure (by kernel_rfl)) ?_
      refine WL.step (v := v_) rfl (Step.load1 Try.sc22 rfl ((M.cell 0 rfl 0).trans rfl)) ?_
      refine WL.step (v := (Value.int .i64 ↑i0_)) rfl (Step.move rfl) ?_
      refine WL.step (v := (Value.int .i64 ↑i0_)) rfl (Step.move rfl) ?_
      refine WL.step (v := (Value.int .i64 (↑i0_ + 1))) rfl (Step.add rfl rfl (wrap_i64 (by omega))) ?_
      refine WL.callX rfl (delete_ver v_ l_ ↑i0_ (↑i0_ + 1) (by omega) (M.enterW (C := [own 34 6 v_ l_.length (l_.flatMap verE)]) (D := [blk cb (.cells #[v_] 135)]) [1, 0] rfl (by decide) trivial)) (CallsF.func Try.en84 rfl) ?_
      rintro v10 w11 ⟨_, rfl, m⟩
      replace M := M.leaveW (C := [own 34 6 v_ l_.length (l_.flatMap verE)]) (D := [blk cb (.cells #[v_] 135)]) [1, 0] rfl (by decide) m
      clear m
      replace M : Mem _ _ _ [own 34 6 v10 ((l_.take (Int.toNat ↑i0_) ++ l_.drop (Int.toNat (↑i0_ + 1))).length) ((l_.take (Int.toNat ↑i0_) ++ l_.drop (Int.toNat (↑i0_ + 1))).flatMap verE), blk cb (.cells #[v_] 135)] [] _ := M
      have sl12 : IsSl v10 := SlAt.isSl (own_slAt (Mem.chunk M 0 rfl).inv)
      have hle13 := SlAt.le' (own_slAt (Mem.chunk M 0 rfl).inv)
      refine WL.step (v := (Value.pointer (some ⟨cb, 0, none⟩))) rfl (Step.pure (by kernel_rfl)) ?_
      refine WL.step (v := (Value.pointer (some ⟨cb, 0, none⟩))) rfl (Step.pure (by kernel_rfl)) ?_
      refine WL.store (v := v10) (cs := [v10]) (c' := #[v10]) M 1 rfl rfl Try.el22.sized rfl rfl (IsSl.list sl12) rfl (Nat.le_of_ble_eq_true rfl) (cel_cons (IsSl.cel sl12) cel_nil) rfl rfl (fun w14 M => ?_)
      refine WL.nil ?_
      refine W.region rfl ?_
      refine WL.step (v := (Value.int .i64 ↑n_)) rfl (Step.move rfl) ?_
      refine WL.step (v := (Value.int .i64 (↑n_ + 1))) rfl (Step.add rfl rfl (wrap_i64 (by omega))) ?_
      refine WL.step (v := (Value.int .i64 (↑n_ + 1))) rfl (Step.assign rfl) ?_
      refine WL.nil ?_
      replace M := M.rechunk 0 (c' := own 34 6 v10 ((l_.eraseIdx i0_).length) ((l_.eraseIdx i0_).flatMap verE)) rfl (by rw [erase_take_drop])
      replace M : Mem _ _ _ [own 34 6 v10 ((l_.eraseIdx i0_).length) ((l_.eraseIdx i0_).flatMap verE), blk cb (.cells #[v10] 135)] [] _ := M
      have hel : (l_.eraseIdx i0_).length = l_.length - 1 := List.length_eraseIdx_of_lt hi0
      replace M := M.sel (L' := [blk cb (.cells #[v10] 135), own 34 6 v10 ((l_.eraseIdx i0_).length) ((l_.eraseIdx i0_).flatMap verE)]) [1, 0] rfl (by decide)
      exact ⟨_, (by omega), l_.eraseIdx i0_, _, n_ + 1, ⟨(trim_next hi5 hfi), (by omega), rfl⟩, ⟨rfl, rfl, rfl, rfl, rfl⟩, M⟩

theorem ch_add {G X : Nat → Prop} {w : World} (cb : Nat) (v : Value) (xs : List Ver) (x : Ver)  (hb : xs.length ≤ 1000000) (M : Mem G X w [blk cb (.cells #[v] 135), own 34 6 v xs.length (xs.flatMap verE)] [] w) : Rets Try.prog 38 #[(Value.pointer (some ⟨cb, 0, none⟩)), (Value.agg #[(Value.int .u64 x.epoch), (Value.bool x.dead), (Value.int .i64 x.agg.count), (Value.int .i64 x.agg.sum), (Value.int .i64 x.agg.min), (Value.int .i64 x.agg.max)])] w fun r w' => ∃ (v' : Value), r = (Value.int .i64 ((addV xs x).2)) ∧ Mem G X w [blk cb (.cells #[v'] 135), own 34 6 v' (((addV xs x).1).length) (((addV xs x).1).flatMap verE)] [] w' := by
  refine Rets.enter 33 _ Try.func38 rfl Try.ntmps38 Try.results38 (by simp) ?_
  have sl1 : IsSl v := SlAt.isSl (own_slAt (Mem.chunk M 1 rfl).inv)
  have hle2 := SlAt.le' (own_slAt (Mem.chunk M 1 rfl).inv)
  refine W.seq' ?_
  refine W.region rfl ?_
  refine WL.box (v := (Value.agg #[(Value.int .u64 x.epoch), (Value.bool x.dead), (Value.int .i64 x.agg.count), (Value.int .i64 x.agg.sum), (Value.int .i64 x.agg.min), (Value.int .i64 x.agg.max)])) (c := #[(Value.int .u64 x.epoch), (Value.bool x.dead), (Value.int .i64 x.agg.count), (Value.int .i64 x.agg.sum), (Value.int .i64 x.agg.min), (Value.int .i64 x.agg.max)]) M rfl rfl rfl (fun b3 w4 hb3 M => ?_)
  refine WL.step (v := (Value.int .i64 0)) rfl (Step.assign rfl) ?_
  refine WL.nil ?_
  refine W.seq' ?_
  refine W.block ?_
  refine W.seq' ?_
  refine W.region rfl ?_
  refine WL.step (v := (Value.pointer (some ⟨cb, 0, none⟩))) rfl (Step.move rfl) ?_
  refine WL.step (v := (Value.bool false)) rfl (Step.pure (by kernel_rfl)) ?_
  refine WL.step (v := (Value.bool false)) rfl (Step.assign rfl) ?_
  refine WL.nil ?_
  refine W.cond (t := false) rfl (fun h => by cases h) (fun _ => ?_)
  refine W.seq' ?_
  refine W.region rfl ?_
  refine WL.step (v := (Value.agg #[(Value.int .u64 x.epoch), (Value.bool x.dead), (Value.int .i64 x.agg.count), (Value.int .i64 x.agg.sum), (Value.int .i64 x.agg.min), (Value.int .i64 x.agg.max)])) rfl (Step.loadN Try.ag34 rfl (M.blk 0 rfl) (Nat.le_of_ble_eq_true rfl) rfl) ?_
  refine WL.callX rfl (ver_right x (M.enterW0 trivial)) (CallsF.func Try.en78 rfl) ?_
  rintro _ w5 ⟨rfl, m⟩
  replace M := M.leaveW0 m
  clear m
  replace M : Mem _ _ _ [blk b3 (.cells #[(Value.int .u64 x.epoch), (Value.bool x.dead), (Value.int .i64 x.agg.count), (Value.int .i64 x.agg.sum), (Value.int .i64 x.agg.min), (Value.int .i64 x.agg.max)] 34), blk cb (.cells #[v] 135), own 34 6 v xs.length (xs.flatMap verE)] [] _ := M
  refine WL.step (v := (Value.bool (!(rightV x)))) rfl (Step.pure (by kernel_rfl)) ?_
  refine WL.step (v := (Value.bool (!(rightV x)))) rfl (Step.assign rfl) ?_
  refine WL.nil ?_
  refine W.cond (t := !(rightV x)) rfl (fun h6 => ?_) (fun h6 => ?_)
  ·
    refine W.seq' ?_
    refine W.region rfl ?_
    refine WL.step (v := (Value.int .i64 2)) rfl (Step.assign rfl) ?_
    refine WL.nil ?_
    refine W.ret ?_
    refine ⟨.inl rfl, (Value.int .i64 2), ?_, ?_⟩
    · exact ⟨rfl, (Res.r1 (show RV _ _ _ (.tmp 4) (Value.int .i64 2) from by exact rfl))⟩
    have e7 : (addV xs x).1 = xs := by
      simp [addV, show rightV x = _ by simpa using h6]
    replace M := M.rechunk 2 (c' := own 34 6 v (((addV xs x).1).length) (((addV xs x).1).flatMap verE)) rfl (congrArg (fun z => own 34 6 v z.length (z.flatMap verE)) e7.symm)
    replace M : Mem _ _ _ [blk b3 (.cells #[(Value.int .u64 x.epoch), (Value.bool x.dead), (Value.int .i64 x.agg.count), (Value.int .i64 x.agg.sum), (Value.int .i64 x.agg.min), (Value.int .i64 x.agg.max)] 34), blk cb (.cells #[v] 135), own 34 6 v (((addV xs x).1).length) (((addV xs x).1).flatMap verE)] [] _ := M
    refine ⟨v, ?_, M.close [1, 2] rfl (by decide) trivial⟩
    simp [addV, show rightV x = _ by simpa using h6]
  ·
    refine W.seq' ?_
    refine W.drawn M [0, 1, 2, 3, 4, 5, 6, 7, 8, 9, 10] [4, 7, 8] [6] [blk b3 (.cells #[(Value.int .u64 x.epoch), (Value.bool x.dead), (Value.int .i64 x.agg.count), (Value.int .i64 x.agg.sum), (Value.int .i64 x.agg.min), (Value.int .i64 x.agg.max)] 34), blk cb (.cells #[v] 135), own 34 6 v xs.length (xs.flatMap verE)] [] (List.Sublist.cons_cons _ (List.Sublist.cons_cons _ (List.Sublist.cons_cons _ List.Sublist.slnil))) (fun _ h => h) Try.mixed (by kernel_rfl) ?_
    refine TW.pure (v := (Value.pointer (some ⟨cb, 0, none⟩))) rfl (by decide) (by decide) rfl (fun w => (Step.move rfl)) ?_
    refine TW.pure (v := (Value.pointer (some ⟨cb, 0, none⟩))) rfl (by decide) (by decide) rfl (fun w => (Step.pure (by kernel_rfl))) ?_
    refine TW.pure (v := (Value.pointer (some ⟨cb, 0, none⟩))) rfl (by decide) (by decide) rfl (fun w => (Step.pure (by kernel_rfl))) ?_
    refine TW.read (v := v) rfl (by decide) (by decide) rfl (fun A w M => (Step.load1 Try.sc22 rfl ((M.cell 2 rfl 0).trans rfl))) ?_
    refine TW.callX (ι := Unit) (fun jx v_ => v_ = (vClip v)) (fun jx => [blk b3 (.cells #[(Value.int .u64 x.epoch), (Value.bool x.dead), (Value.int .i64 x.agg.count), (Value.int .i64 x.agg.sum), (Value.int .i64 x.agg.min), (Value.int .i64 x.agg.max)] 34), blk cb (.cells #[v] 135), own 34 6 v xs.length (xs.flatMap verE)]) (fun jx => []) rfl (by decide) rfl (fun jx => (List.Sublist.cons_cons _ (List.Sublist.cons_cons _ (List.Sublist.cons_cons _ List.Sublist.slnil)))) (fun jx r h => h) (fun A w M => Rets.mono (clip_ver v xs (M.enterW0 ⟨((M.wideC0 3 rfl).imp fun _ h => own_slAt h), trivial⟩)) (fun v_ w_ ⟨e_, m⟩ => ⟨(), e_, (M.leaveW0 m).sel (L' := [fl A, blk b3 (.cells #[(Value.int .u64 x.epoch), (Value.bool x.dead), (Value.int .i64 x.agg.count), (Value.int .i64 x.agg.sum), (Value.int .i64 x.agg.min), (Value.int .i64 x.agg.max)] 34), blk cb (.cells #[v] 135), own 34 6 v xs.length (xs.flatMap verE)]) [0, 1, 2, 3] rfl (by decide), fun b hb => M.keptW0 m (fl A) (List.mem_cons_self ..) b hb⟩)) (fun w => CallsF.func Try.en89 rfl) (fun jx v hp hin => ?_)
    replace hp := hp.symm; subst hp
    clear hin
    change TW _ _ _ _ _ _ _ _ (MemA _ _ _ [blk b3 (.cells #[(Value.int .u64 x.epoch), (Value.bool x.dead), (Value.int .i64 x.agg.count), (Value.int .i64 x.agg.sum), (Value.int .i64 x.agg.min), (Value.int .i64 x.agg.max)] 34), blk cb (.cells #[v] 135), own 34 6 v xs.length (xs.flatMap verE)] [])
    refine TW.read (v := (Value.agg #[(Value.int .u64 x.epoch), (Value.bool x.dead), (Value.int .i64 x.agg.count), (Value.int .i64 x.agg.sum), (Value.int .i64 x.agg.min), (Value.int .i64 x.agg.max)])) rfl (by decide) (by decide) rfl (fun A w M => (Step.loadN Try.ag34 rfl (M.blk 1 rfl) (Nat.le_of_ble_eq_true rfl) rfl)) ?_
    refine TW.new (obj := .cells #[(Value.int .u64 x.epoch), (Value.bool x.dead), (Value.int .i64 x.agg.count), (Value.int .i64 x.agg.sum), (Value.int .i64 x.agg.min), (Value.int .i64 x.agg.max)] 34) (fun b => .slice (some ⟨b, 0, none⟩) 1 1) rfl (by decide) (by decide) rfl (fun w => Step.make (by kernel_rfl)) (fun b14 => ?_)
    refine TW.doesO (fun v_ => own 34 6 v_ (xs.length + 1) ((xs.flatMap verE) ++ [(Value.int .u64 x.epoch), (Value.bool x.dead), (Value.int .i64 x.agg.count), (Value.int .i64 x.agg.sum), (Value.int .i64 x.agg.min), (Value.int .i64 x.agg.max)])) rfl (by decide) rfl (List.Sublist.cons _ (List.Sublist.cons_cons _ (List.Sublist.cons_cons _ (List.Sublist.cons_cons _ List.Sublist.slnil)))) (fun r h => h) (fun A w M => M.appendClip (sv := (Value.slice (some ⟨b14, 0, none⟩) 1 1)) (news := [(Value.int .u64 x.epoch), (Value.bool x.dead), (Value.int .i64 x.agg.count), (Value.int .i64 x.agg.sum), (Value.int .i64 x.agg.min), (Value.int .i64 x.agg.max)]) Try.un22 Try.el34 rfl rfl rfl (own_slAt (M.chunk 4 rfl).inv) (SlAt.of_blk (M.blk 1 rfl) rfl (by decide)) (by decide) (by have := hb; simp only [maxLen]; omega) (by have := hb; omega)) (fun v15 hin => ?_)
    obtain ⟨_, _, hin⟩ := hin
    have sl16 : IsSl v15 := SlAt.isSl (own_slAt (Mem.chunk hin 1 rfl).inv)
    clear hin
    have hcv : own 34 6 v15 (xs.length + 1) ((xs.flatMap verE) ++ [(Value.int .u64 x.epoch), (Value.bool x.dead), (Value.int .i64 x.agg.count), (Value.int .i64 x.agg.sum), (Value.int .i64 x.agg.min), (Value.int .i64 x.agg.max)]) = own 34 6 v15 ((xs ++ ([x] : List Ver)).length) ((xs ++ ([x] : List Ver)).flatMap verE) := by rw [List.length_append, List.flatMap_append]; rfl
    rw [hcv]
    clear hcv
    change TW _ _ _ _ _ _ _ _ (MemA _ _ _ [own 34 6 v15 ((xs ++ ([x] : List Ver)).length) ((xs ++ ([x] : List Ver)).flatMap verE), blk b14 (.cells #[(Value.int .u64 x.epoch), (Value.bool x.dead), (Value.int .i64 x.agg.count), (Value.int .i64 x.agg.sum), (Value.int .i64 x.agg.min), (Value.int .i64 x.agg.max)] 34), blk b3 (.cells #[(Value.int .u64 x.epoch), (Value.bool x.dead), (Value.int .i64 x.agg.count), (Value.int .i64 x.agg.sum), (Value.int .i64 x.agg.min), (Value.int .i64 x.agg.max)] 34), blk cb (.cells #[v] 135), own 34 6 v xs.length (xs.flatMap verE)] [])
    refine TW.callX (ι := Unit) (fun jx v_ => v_ = (Value.bool (chainB (xs ++ ([x] : List Ver))))) (fun jx => [own 34 6 v15 ((xs ++ ([x] : List Ver)).length) ((xs ++ ([x] : List Ver)).flatMap verE), blk b14 (.cells #[(Value.int .u64 x.epoch), (Value.bool x.dead), (Value.int .i64 x.agg.count), (Value.int .i64 x.agg.sum), (Value.int .i64 x.agg.min), (Value.int .i64 x.agg.max)] 34), blk b3 (.cells #[(Value.int .u64 x.epoch), (Value.bool x.dead), (Value.int .i64 x.agg.count), (Value.int .i64 x.agg.sum), (Value.int .i64 x.agg.min), (Value.int .i64 x.agg.max)] 34), blk cb (.cells #[v] 135), own 34 6 v xs.length (xs.flatMap verE)]) (fun jx => []) rfl (by decide) rfl (fun jx => (List.Sublist.cons _ (List.Sublist.cons _ (List.Sublist.cons_cons _ (List.Sublist.cons_cons _ (List.Sublist.cons_cons _ List.Sublist.slnil)))))) (fun jx r h => h) (fun A w M => Rets.mono (ch_right v15 (xs ++ ([x] : List Ver)) (M.enterW0 ⟨((M.wideC0 1 rfl).imp fun _ h => own_slAt h), trivial⟩)) (fun v_ w_ ⟨e_, m⟩ => ⟨(), e_, (M.leaveW0 m).sel (L' := [fl A, own 34 6 v15 ((xs ++ ([x] : List Ver)).length) ((xs ++ ([x] : List Ver)).flatMap verE), blk b14 (.cells #[(Value.int .u64 x.epoch), (Value.bool x.dead), (Value.int .i64 x.agg.count), (Value.int .i64 x.agg.sum), (Value.int .i64 x.agg.min), (Value.int .i64 x.agg.max)] 34), blk b3 (.cells #[(Value.int .u64 x.epoch), (Value.bool x.dead), (Value.int .i64 x.agg.count), (Value.int .i64 x.agg.sum), (Value.int .i64 x.agg.min), (Value.int .i64 x.agg.max)] 34), blk cb (.cells #[v] 135), own 34 6 v xs.length (xs.flatMap verE)]) [0, 1, 2, 3, 4, 5] rfl (by decide), fun b hb => M.keptW0 m (fl A) (List.mem_cons_self ..) b hb⟩)) (fun w => CallsF.func Try.en15 rfl) (fun jx v hp hin => ?_)
    replace hp := hp.symm; subst hp
    clear hin
    change TW _ _ _ _ _ _ _ _ (MemA _ _ _ [own 34 6 v15 ((xs ++ ([x] : List Ver)).length) ((xs ++ ([x] : List Ver)).flatMap verE), blk b14 (.cells #[(Value.int .u64 x.epoch), (Value.bool x.dead), (Value.int .i64 x.agg.count), (Value.int .i64 x.agg.sum), (Value.int .i64 x.agg.min), (Value.int .i64 x.agg.max)] 34), blk b3 (.cells #[(Value.int .u64 x.epoch), (Value.bool x.dead), (Value.int .i64 x.agg.count), (Value.int .i64 x.agg.sum), (Value.int .i64 x.agg.min), (Value.int .i64 x.agg.max)] 34), blk cb (.cells #[v] 135), own 34 6 v xs.length (xs.flatMap verE)] [])
    refine TW.pure (v := (Value.bool (!(chainB (xs ++ ([x] : List Ver)))))) rfl (by decide) (by decide) rfl (fun w => (Step.pure (by kernel_rfl))) ?_
    refine TW.pure (v := (Value.bool (!(chainB (xs ++ ([x] : List Ver)))))) rfl (by decide) (by decide) rfl (fun w => (Step.assign rfl)) ?_
    refine TW.done (fun w17 M => ?_)
    refine W.cond (t := !(chainB (xs ++ ([x] : List Ver)))) rfl (fun h18 => ?_) (fun h18 => ?_)
    ·
      refine W.seq' ?_
      refine W.region rfl ?_
      refine WL.step (v := (Value.int .i64 150)) rfl (Step.assign rfl) ?_
      refine WL.nil ?_
      refine W.ret ?_
      refine ⟨.inl rfl, (Value.int .i64 150), ?_, ?_⟩
      · exact ⟨rfl, (Res.r1 (show RV _ _ _ (.tmp 4) (Value.int .i64 150) from by exact rfl))⟩
      have e19 : (addV xs x).1 = xs := by
        simp [addV, show rightV x = _ by simpa using h6, show chainB (xs ++ [x]) = _ by simpa using h18]
      replace M := M.rechunk 4 (c' := own 34 6 v (((addV xs x).1).length) (((addV xs x).1).flatMap verE)) rfl (congrArg (fun z => own 34 6 v z.length (z.flatMap verE)) e19.symm)
      replace M : Mem _ _ _ [own 34 6 v15 ((xs ++ ([x] : List Ver)).length) ((xs ++ ([x] : List Ver)).flatMap verE), blk b14 (.cells #[(Value.int .u64 x.epoch), (Value.bool x.dead), (Value.int .i64 x.agg.count), (Value.int .i64 x.agg.sum), (Value.int .i64 x.agg.min), (Value.int .i64 x.agg.max)] 34), blk b3 (.cells #[(Value.int .u64 x.epoch), (Value.bool x.dead), (Value.int .i64 x.agg.count), (Value.int .i64 x.agg.sum), (Value.int .i64 x.agg.min), (Value.int .i64 x.agg.max)] 34), blk cb (.cells #[v] 135), own 34 6 v (((addV xs x).1).length) (((addV xs x).1).flatMap verE)] [] _ := M
      refine ⟨v, ?_, M.close [3, 4] rfl (by decide) trivial⟩
      simp [addV, show rightV x = _ by simpa using h6, show chainB (xs ++ [x]) = _ by simpa using h18]
    ·
      refine W.skip ?_
      refine W.seq' ?_
      refine W.drawn M [0, 1, 2, 3, 4, 5, 6, 7, 8, 9, 10] [4, 7, 10] [6] [own 34 6 v15 ((xs ++ ([x] : List Ver)).length) ((xs ++ ([x] : List Ver)).flatMap verE), blk b14 (.cells #[(Value.int .u64 x.epoch), (Value.bool x.dead), (Value.int .i64 x.agg.count), (Value.int .i64 x.agg.sum), (Value.int .i64 x.agg.min), (Value.int .i64 x.agg.max)] 34), blk b3 (.cells #[(Value.int .u64 x.epoch), (Value.bool x.dead), (Value.int .i64 x.agg.count), (Value.int .i64 x.agg.sum), (Value.int .i64 x.agg.min), (Value.int .i64 x.agg.max)] 34)] [] (List.Sublist.cons_cons _ (List.Sublist.cons_cons _ (List.Sublist.cons_cons _ (List.Sublist.cons _ (List.Sublist.cons _ List.Sublist.slnil))))) (fun _ h => h) Try.mixed (by kernel_rfl) ?_
      refine TW.pure (v := (Value.pointer (some ⟨cb, 0, none⟩))) rfl (by decide) (by decide) rfl (fun w => (Step.move rfl)) ?_
      refine TW.pure (v := (Value.pointer (some ⟨cb, 0, none⟩))) rfl (by decide) (by decide) rfl (fun w => (Step.move rfl)) ?_
      refine TW.pure (v := (Value.pointer (some ⟨cb, 0, none⟩))) rfl (by decide) (by decide) rfl (fun w => (Step.pure (by kernel_rfl))) ?_
      refine TW.pure (v := (Value.pointer (some ⟨cb, 0, none⟩))) rfl (by decide) (by decide) rfl (fun w => (Step.pure (by kernel_rfl))) ?_
      refine TW.readL (v := v) rfl (by decide) rfl (List.Sublist.cons_cons _ (List.Sublist.cons_cons _ (List.Sublist.cons_cons _ (List.Sublist.cons _ (List.Sublist.cons _ List.Sublist.slnil))))) (fun r h => h) (fun A w M => (Step.load1 Try.sc22 rfl ((M.cell 4 rfl 0).trans rfl))) ?_
      refine TW.read (v := (Value.agg #[(Value.int .u64 x.epoch), (Value.bool x.dead), (Value.int .i64 x.agg.count), (Value.int .i64 x.agg.sum), (Value.int .i64 x.agg.min), (Value.int .i64 x.agg.max)])) rfl (by decide) (by decide) rfl (fun A w M => (Step.loadN Try.ag34 rfl (M.blk 3 rfl) (Nat.le_of_ble_eq_true rfl) rfl)) ?_
      refine TW.new (obj := .cells #[(Value.int .u64 x.epoch), (Value.bool x.dead), (Value.int .i64 x.agg.count), (Value.int .i64 x.agg.sum), (Value.int .i64 x.agg.min), (Value.int .i64 x.agg.max)] 34) (fun b => .slice (some ⟨b, 0, none⟩) 1 1) rfl (by decide) (by decide) rfl (fun w => Step.make (by kernel_rfl)) (fun b30 => ?_)
      refine TW.doesM (fun v_ => own 34 6 v_ ((xs ++ ([x] : List Ver)).length) ((xs ++ ([x] : List Ver)).flatMap verE)) 5 rfl rfl (by decide) rfl (fun v_ => (List.Sublist.cons _ (List.Sublist.cons_cons _ (List.Sublist.cons_cons _ (List.Sublist.cons_cons _ (List.Sublist.cons _ (List.Sublist.cons _ List.Sublist.slnil))))))) (fun r h => h) (fun A w M => M.appendF' xs ([x] : List Ver) (sv := (Value.slice (some ⟨b30, 0, none⟩) 1 1)) 6 Try.un22 Try.el34 rfl (by decide) rfl rfl rfl (SlAt.of_blk (M.blk 1 rfl) rfl (by decide)) verE_cel (by have := hb; simp only [maxLen, List.length_nil, List.length_cons, List.length_append]; omega) (by have := hb; (try simp only [List.length_nil, List.length_cons, List.length_append]); omega)) (fun v31 hin => ?_)
      obtain ⟨_, _, hin⟩ := hin
      have sl33 : IsSl v31 := SlAt.isSl (own_slAt (Mem.chunk hin 6 rfl).inv)
      clear hin
      change TW _ _ _ _ _ _ _ _ (MemA _ _ _ [blk b30 (.cells #[(Value.int .u64 x.epoch), (Value.bool x.dead), (Value.int .i64 x.agg.count), (Value.int .i64 x.agg.sum), (Value.int .i64 x.agg.min), (Value.int .i64 x.agg.max)] 34), own 34 6 v15 ((xs ++ ([x] : List Ver)).length) ((xs ++ ([x] : List Ver)).flatMap verE), blk b14 (.cells #[(Value.int .u64 x.epoch), (Value.bool x.dead), (Value.int .i64 x.agg.count), (Value.int .i64 x.agg.sum), (Value.int .i64 x.agg.min), (Value.int .i64 x.agg.max)] 34), blk b3 (.cells #[(Value.int .u64 x.epoch), (Value.bool x.dead), (Value.int .i64 x.agg.count), (Value.int .i64 x.agg.sum), (Value.int .i64 x.agg.min), (Value.int .i64 x.agg.max)] 34), blk cb (.cells #[v] 135), own 34 6 v31 ((xs ++ ([x] : List Ver)).length) ((xs ++ ([x] : List Ver)).flatMap verE)] [])
      refine TW.pure (v := (Value.pointer (some ⟨cb, 0, none⟩))) rfl (by decide) (by decide) rfl (fun w => (Step.pure (by kernel_rfl))) ?_
      refine TW.pure (v := (Value.pointer (some ⟨cb, 0, none⟩))) rfl (by decide) (by decide) rfl (fun w => (Step.pure (by kernel_rfl))) ?_
      refine TW.store (v := v31) (cs := [v31]) (c' := #[v31]) 4 rfl rfl (by decide) rfl Try.el22.sized rfl rfl (IsSl.list sl33) rfl (Nat.le_of_ble_eq_true rfl) (cel_cons (IsSl.cel sl33) cel_nil) rfl rfl (List.Sublist.cons _ (List.Sublist.cons_cons _ (List.Sublist.cons_cons _ (List.Sublist.cons_cons _ (List.Sublist.cons _ (List.Sublist.cons _ List.Sublist.slnil)))))) (fun r h => h) ?_
      refine TW.done (fun w34 M => ?_)
      refine W.seq' ?_
      refine W.region rfl ?_
      refine WL.step (v := (Value.int .i64 0)) rfl (Step.assign rfl) ?_
      refine WL.nil ?_
      refine W.ret ?_
      refine ⟨.inl rfl, (Value.int .i64 0), ?_, ?_⟩
      · exact ⟨rfl, (Res.r1 (show RV _ _ _ (.tmp 4) (Value.int .i64 0) from by exact rfl))⟩
      have e35 : (addV xs x).1 = xs ++ ([x] : List Ver) := by
        simp [addV, show rightV x = _ by simpa using h6, show chainB (xs ++ [x]) = _ by simpa using h18]
      replace M := M.rechunk 5 (c' := own 34 6 v31 (((addV xs x).1).length) (((addV xs x).1).flatMap verE)) rfl (congrArg (fun z => own 34 6 v31 z.length (z.flatMap verE)) e35.symm)
      replace M : Mem _ _ _ [blk b30 (.cells #[(Value.int .u64 x.epoch), (Value.bool x.dead), (Value.int .i64 x.agg.count), (Value.int .i64 x.agg.sum), (Value.int .i64 x.agg.min), (Value.int .i64 x.agg.max)] 34), own 34 6 v15 ((xs ++ ([x] : List Ver)).length) ((xs ++ ([x] : List Ver)).flatMap verE), blk b14 (.cells #[(Value.int .u64 x.epoch), (Value.bool x.dead), (Value.int .i64 x.agg.count), (Value.int .i64 x.agg.sum), (Value.int .i64 x.agg.min), (Value.int .i64 x.agg.max)] 34), blk b3 (.cells #[(Value.int .u64 x.epoch), (Value.bool x.dead), (Value.int .i64 x.agg.count), (Value.int .i64 x.agg.sum), (Value.int .i64 x.agg.min), (Value.int .i64 x.agg.max)] 34), blk cb (.cells #[v31] 135), own 34 6 v31 (((addV xs x).1).length) (((addV xs x).1).flatMap verE)] [] _ := M
      refine ⟨v31, ?_, M.close [4, 5] rfl (by decide) trivial⟩
      simp [addV, show rightV x = _ by simpa using h6, show chainB (xs ++ [x]) = _ by simpa using h18]
end Go.Proofs
