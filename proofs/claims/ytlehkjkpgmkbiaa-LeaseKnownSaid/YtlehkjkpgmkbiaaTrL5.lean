/- Walks. -/
import Derived.Test.YtlehkjkpgmkbiaaTrL4
set_option maxRecDepth 100000
set_option linter.all false
namespace Go.Proofs
open Go Tp
theorem Try.en103 : Enters Try.prog 103 := fun _ _ => by kernel_rfl
theorem Try.en104 : Enters Try.prog 104 := fun _ _ => by kernel_rfl
theorem Try.en105 : Enters Try.prog 105 := fun _ _ => by kernel_rfl
theorem Try.en129 : Enters Try.prog 129 := fun _ _ => by kernel_rfl
theorem Try.en130 : Enters Try.prog 130 := fun _ _ => by kernel_rfl
theorem Try.sc165 : Scal Try.prog 165 := fun _ => by kernel_rfl

theorem le_holdE {G : Nat → Prop} {w : World} (x : Lease) (tb : Nat) (n : Int)   (M : Mem G (fun _ => False) w [] [(fun w => w.heap[tb]? = some (.cells #[(Value.int .u64 n)] 23))] w) : Rets Try.prog 104 #[(Value.agg #[(Value.int .u64 x.id), (Value.int .i64 x.owner), (Value.int .u64 x.epoch), (Value.int .u64 x.till), (Value.bool x.cursor)]), (Value.pointer (some ⟨tb, 0, none⟩))] w fun r w' => r = (Value.bool (tillP n x)) ∧ Mem G (fun _ => False) w [] [] w' := by
  refine Rets.enter 8 _ Try.func104 rfl Try.ntmps104 Try.results104 (by simp) ?_
  refine W.seq' ?_
  refine W.region rfl ?_
  refine WL.box (v := (Value.agg #[(Value.int .u64 x.id), (Value.int .i64 x.owner), (Value.int .u64 x.epoch), (Value.int .u64 x.till), (Value.bool x.cursor)])) (c := #[(Value.int .u64 x.id), (Value.int .i64 x.owner), (Value.int .u64 x.epoch), (Value.int .u64 x.till), (Value.bool x.cursor)]) M rfl rfl rfl (fun b1 w2 hb1 M => ?_)
  refine WL.step (v := (Value.bool false)) rfl (Step.assign rfl) ?_
  refine WL.nil ?_
  refine W.seq' ?_
  refine W.region rfl ?_
  refine WL.step (v := (Value.int .u64 n)) rfl (Step.load1 Try.sc23 rfl ((cell_blk (M.rep 0 rfl) 0).trans rfl)) ?_
  refine WL.step (v := (Value.pointer (some ⟨b1, 3, none⟩))) rfl (Step.pure (by kernel_rfl)) ?_
  refine WL.step (v := (Value.int .u64 x.till)) rfl (Step.load1 Try.sc23 rfl ((M.cell 0 rfl 3).trans rfl)) ?_
  refine WL.step (v := (Value.bool (decide ((n : Int) ≥ (x.till : Int))))) rfl (Step.pure (by kernel_rfl)) ?_
  refine WL.step (v := (Value.bool (decide ((n : Int) ≥ (x.till : Int))))) rfl (Step.assign rfl) ?_
  refine WL.nil ?_
  refine W.ret ?_
  refine ⟨.inl rfl, (Value.bool (decide ((n : Int) ≥ (x.till : Int)))), ?_, ?_⟩
  · exact ⟨rfl, (Res.r1 (show RV _ _ _ (.tmp 3) (Value.bool (decide ((n : Int) ≥ (x.till : Int)))) from by exact rfl))⟩
  refine ⟨?_, M.close [] rfl (by decide) trivial⟩
  rfl

theorem le_part1E {G X : Nat → Prop} {w : World} (x : Lease) (ph : Nat) (tb : Nat) (n : Int) (gb : Nat) (gv : Value) (gs : List Lease)  (hb : gs.length ≤ 1000000) (M : Mem G X w [blk gb (.cells #[gv] 100), own 85 5 gv gs.length (gs.flatMap leaseE)] [(fun w => w.heap[ph]? = some (.cells #[(Value.func (.func 104) #[] #[(Value.pointer (some ⟨tb, 0, none⟩))])] 165)), (fun w => w.heap[tb]? = some (.cells #[(Value.int .u64 n)] 23))] w) : Rets Try.prog 130 #[(Value.agg #[(Value.int .u64 x.id), (Value.int .i64 x.owner), (Value.int .u64 x.epoch), (Value.int .u64 x.till), (Value.bool x.cursor)]), (Value.pointer (some ⟨ph, 0, none⟩)), (Value.pointer (some ⟨gb, 0, none⟩))] w fun r w' => ∃ (g' : Value), r = (Value.bool (tillP n x)) ∧ Mem G X w [blk gb (.cells #[g'] 100), own 85 5 g' ((goneV (tillP n) gs x).length) ((goneV (tillP n) gs x).flatMap leaseE)] [] w' := by
  refine Rets.enter 13 _ Try.func130 rfl Try.ntmps130 Try.results130 (by simp) ?_
  have sl1 : IsSl gv := SlAt.isSl (own_slAt (Mem.chunk M 1 rfl).inv)
  have hle2 := SlAt.le' (own_slAt (Mem.chunk M 1 rfl).inv)
  refine W.seq' ?_
  refine W.region rfl ?_
  refine WL.box (v := (Value.agg #[(Value.int .u64 x.id), (Value.int .i64 x.owner), (Value.int .u64 x.epoch), (Value.int .u64 x.till), (Value.bool x.cursor)])) (c := #[(Value.int .u64 x.id), (Value.int .i64 x.owner), (Value.int .u64 x.epoch), (Value.int .u64 x.till), (Value.bool x.cursor)]) M rfl rfl rfl (fun b3 w4 hb3 M => ?_)
  refine WL.step (v := (Value.bool false)) rfl (Step.assign rfl) ?_
  refine WL.nil ?_
  refine W.seq' ?_
  refine W.seq' ?_
  refine W.region rfl ?_
  refine WL.step (v := (Value.func (.func 104) #[] #[(Value.pointer (some ⟨tb, 0, none⟩))])) rfl (Step.load1 Try.sc165 rfl ((cell_blk (M.rep 0 rfl) 0).trans rfl)) ?_
  refine WL.step (v := (Value.agg #[(Value.int .u64 x.id), (Value.int .i64 x.owner), (Value.int .u64 x.epoch), (Value.int .u64 x.till), (Value.bool x.cursor)])) rfl (Step.loadN Try.ag85 rfl (M.blk 0 rfl) (Nat.le_of_ble_eq_true rfl) rfl) ?_
  refine WL.callX rfl (le_holdE x tb n (M.enterW0 ⟨(M.wideR0 1 rfl), trivial⟩)) (CallsF.value Try.en104 rfl rfl rfl) ?_
  rintro _ w5 ⟨rfl, m⟩
  replace M := M.leaveW0 m
  clear m
  replace M : Mem _ _ _ [blk b3 (.cells #[(Value.int .u64 x.id), (Value.int .i64 x.owner), (Value.int .u64 x.epoch), (Value.int .u64 x.till), (Value.bool x.cursor)] 85), blk gb (.cells #[gv] 100), own 85 5 gv gs.length (gs.flatMap leaseE)] [(fun w => w.heap[ph]? = some (.cells #[(Value.func (.func 104) #[] #[(Value.pointer (some ⟨tb, 0, none⟩))])] 165)), (fun w => w.heap[tb]? = some (.cells #[(Value.int .u64 n)] 23))] _ := M
  refine WL.step (v := (Value.bool (!(tillP n x)))) rfl (Step.pure (by kernel_rfl)) ?_
  refine WL.nil ?_
  refine W.cond (t := !(tillP n x)) rfl (fun h6 => ?_) (fun h6 => ?_)
  ·
    refine W.seq' ?_
    refine W.region rfl ?_
    refine WL.step (v := (Value.bool false)) rfl (Step.assign rfl) ?_
    refine WL.nil ?_
    refine W.ret ?_
    refine ⟨.inl rfl, (Value.bool false), ?_, ?_⟩
    · exact ⟨rfl, (Res.r1 (show RV _ _ _ (.tmp 4) (Value.bool false) from by exact rfl))⟩
    have e7 : goneV (tillP n) gs x = gs := by
      simp [goneV, show tillP n x = false by simpa using h6]
    replace M := M.rechunk 2 (c' := own 85 5 gv ((goneV (tillP n) gs x).length) ((goneV (tillP n) gs x).flatMap leaseE)) rfl (congrArg (fun z => own 85 5 gv z.length (z.flatMap leaseE)) e7.symm)
    replace M : Mem _ _ _ [blk b3 (.cells #[(Value.int .u64 x.id), (Value.int .i64 x.owner), (Value.int .u64 x.epoch), (Value.int .u64 x.till), (Value.bool x.cursor)] 85), blk gb (.cells #[gv] 100), own 85 5 gv ((goneV (tillP n) gs x).length) ((goneV (tillP n) gs x).flatMap leaseE)] [(fun w => w.heap[ph]? = some (.cells #[(Value.func (.func 104) #[] #[(Value.pointer (some ⟨tb, 0, none⟩))])] 165)), (fun w => w.heap[tb]? = some (.cells #[(Value.int .u64 n)] 23))] _ := M
    refine ⟨gv, ?_, M.close [1, 2] rfl (by decide) trivial⟩
    simp [goneV, show tillP n x = false by simpa using h6]
  ·
    refine W.skip ?_
    refine W.seq' ?_
    refine W.region rfl ?_
    refine WL.step (v := gv) rfl (Step.load1 Try.sc100 rfl ((M.cell 1 rfl 0).trans rfl)) ?_
    refine WL.step (v := (Value.agg #[(Value.int .u64 x.id), (Value.int .i64 x.owner), (Value.int .u64 x.epoch), (Value.int .u64 x.till), (Value.bool x.cursor)])) rfl (Step.loadN Try.ag85 rfl (M.blk 0 rfl) (Nat.le_of_ble_eq_true rfl) rfl) ?_
    refine WL.new (obj := .cells #[(Value.int .u64 x.id), (Value.int .i64 x.owner), (Value.int .u64 x.epoch), (Value.int .u64 x.till), (Value.bool x.cursor)] 85) (fun b => .slice (some ⟨b, 0, none⟩) 1 1) M rfl (fun w => Step.make (by kernel_rfl)) (fun b8 w9 hb8 M => ?_)
    refine WL.does rfl (M.appendF gs ([x] : List Lease) (sv := (Value.slice (some ⟨b8, 0, none⟩) 1 1)) 3 Try.un100 Try.el85 rfl (by decide) rfl rfl rfl (SlAt.of_blk (M.blk 0 rfl) rfl (by decide)) leaseE_cel (by have := hb; simp only [maxLen, List.length_nil, List.length_cons, List.length_append]; omega) (by have := hb; (try simp only [List.length_nil, List.length_cons, List.length_append]); omega)) ?_
    rintro v10 w11 M
    replace M : Mem _ _ _ [blk b8 (.cells #[(Value.int .u64 x.id), (Value.int .i64 x.owner), (Value.int .u64 x.epoch), (Value.int .u64 x.till), (Value.bool x.cursor)] 85), blk b3 (.cells #[(Value.int .u64 x.id), (Value.int .i64 x.owner), (Value.int .u64 x.epoch), (Value.int .u64 x.till), (Value.bool x.cursor)] 85), blk gb (.cells #[gv] 100), own 85 5 v10 ((gs ++ ([x] : List Lease)).length) ((gs ++ ([x] : List Lease)).flatMap leaseE)] [(fun w => w.heap[ph]? = some (.cells #[(Value.func (.func 104) #[] #[(Value.pointer (some ⟨tb, 0, none⟩))])] 165)), (fun w => w.heap[tb]? = some (.cells #[(Value.int .u64 n)] 23))] _ := M
    have sl12 : IsSl v10 := SlAt.isSl (own_slAt (M.chunk 3 rfl).inv)
    refine WL.store (v := v10) (cs := [v10]) (c' := #[v10]) M 2 rfl rfl Try.el100.sized rfl rfl (IsSl.list sl12) rfl (Nat.le_of_ble_eq_true rfl) (cel_cons (IsSl.cel sl12) cel_nil) rfl rfl (fun w13 M => ?_)
    refine WL.nil ?_
    refine W.seq' ?_
    refine W.region rfl ?_
    refine WL.step (v := (Value.bool true)) rfl (Step.assign rfl) ?_
    refine WL.nil ?_
    refine W.ret ?_
    refine ⟨.inl rfl, (Value.bool true), ?_, ?_⟩
    · exact ⟨rfl, (Res.r1 (show RV _ _ _ (.tmp 4) (Value.bool true) from by exact rfl))⟩
    have e14 : goneV (tillP n) gs x = gs ++ ([x] : List Lease) := by
      simp [goneV, show tillP n x = true by simpa using h6]
    replace M := M.rechunk 3 (c' := own 85 5 v10 ((goneV (tillP n) gs x).length) ((goneV (tillP n) gs x).flatMap leaseE)) rfl (congrArg (fun z => own 85 5 v10 z.length (z.flatMap leaseE)) e14.symm)
    replace M : Mem _ _ _ [blk b8 (.cells #[(Value.int .u64 x.id), (Value.int .i64 x.owner), (Value.int .u64 x.epoch), (Value.int .u64 x.till), (Value.bool x.cursor)] 85), blk b3 (.cells #[(Value.int .u64 x.id), (Value.int .i64 x.owner), (Value.int .u64 x.epoch), (Value.int .u64 x.till), (Value.bool x.cursor)] 85), blk gb (.cells #[v10] 100), own 85 5 v10 ((goneV (tillP n) gs x).length) ((goneV (tillP n) gs x).flatMap leaseE)] [(fun w => w.heap[ph]? = some (.cells #[(Value.func (.func 104) #[] #[(Value.pointer (some ⟨tb, 0, none⟩))])] 165)), (fun w => w.heap[tb]? = some (.cells #[(Value.int .u64 n)] 23))] _ := M
    refine ⟨v10, ?_, M.close [2, 3] rfl (by decide) trivial⟩
    simp [goneV, show tillP n x = true by simpa using h6]

theorem le_partE {G X : Nat → Prop} {w : World} (lb : Nat) (v : Value) (xs : List Lease) (most : Int) (last : Int) (tb : Nat) (n : Int)  (hb : xs.length ≤ 1000000) (M : Mem G X w [blk lb (.cells #[v, (Value.int .i64 most), (Value.int .u64 last)] 147), own 85 5 v xs.length (xs.flatMap leaseE), blk tb (.cells #[(Value.int .u64 n)] 23)] [] w) : Rets Try.prog 103 #[(Value.pointer (some ⟨lb, 0, none⟩)), (Value.func (.func 104) #[] #[(Value.pointer (some ⟨tb, 0, none⟩))])] w fun r w' => ∃ (g' : Value) (v' : Value), r = g' ∧ Mem G X w [blk lb (.cells #[v', (Value.int .i64 most), (Value.int .u64 last)] 147), own 85 5 v' ((xs.filter fun (x : Lease) => !(tillP n x)).length) ((xs.filter fun (x : Lease) => !(tillP n x)).flatMap leaseE), blk tb (.cells #[(Value.int .u64 n)] 23), own 85 5 g' ((xs.filter (tillP n)).length) ((xs.filter (tillP n)).flatMap leaseE)] [] w' := by
  refine Rets.enter 17 _ Try.func103 rfl Try.ntmps103 Try.results103 (by simp) ?_
  have sl1 : IsSl v := SlAt.isSl (own_slAt (Mem.chunk M 1 rfl).inv)
  have hle2 := SlAt.le' (own_slAt (Mem.chunk M 1 rfl).inv)
  refine W.seq' ?_
  refine W.region rfl ?_
  refine WL.box (v := (Value.func (.func 104) #[] #[(Value.pointer (some ⟨tb, 0, none⟩))])) (c := #[(Value.func (.func 104) #[] #[(Value.pointer (some ⟨tb, 0, none⟩))])]) M rfl rfl rfl (fun b3 w4 hb3 M => ?_)
  refine WL.alloc (c := #[(Value.slice none 0 0)]) M rfl Try.el100.zero rfl (fun b5 w6 hb5 M => ?_)
  refine WL.nil ?_
  refine W.seq' ?_
  refine W.seq' ?_
  refine W.region rfl ?_
  refine WL.step (v := (Value.pointer (some ⟨lb, 0, none⟩))) rfl (Step.move rfl) ?_
  refine WL.step (v := (Value.bool false)) rfl (Step.pure (by kernel_rfl)) ?_
  refine WL.nil ?_
  refine W.cond (t := false) rfl (fun h => by cases h) (fun _ => ?_)
  refine W.skip ?_
  refine W.seq' ?_
  refine W.region rfl ?_
  refine WL.step (v := (Value.pointer (some ⟨lb, 0, none⟩))) rfl (Step.move rfl) ?_
  refine WL.step (v := (Value.pointer (some ⟨lb, 0, none⟩))) rfl (Step.move rfl) ?_
  refine WL.step (v := (Value.pointer (some ⟨lb, 0, none⟩))) rfl (Step.pure (by kernel_rfl)) ?_
  refine WL.step (v := (Value.pointer (some ⟨lb, 0, none⟩))) rfl (Step.pure (by kernel_rfl)) ?_
  refine WL.step (v := v) rfl (Step.load1 Try.sc100 rfl ((M.cell 2 rfl 0).trans rfl)) ?_
  refine WL.step (v := (Value.func (.func 130) #[] #[(Value.pointer (some ⟨b3, 0, none⟩)), (Value.pointer (some ⟨b5, 0, none⟩))])) rfl (Step.pure (by kernel_rfl)) ?_
  replace M := M.ownNil 85 5
  replace M := M.rechunk 0 (c' := own 85 5 (Value.slice none 0 0) (((xs.take 0).filter (tillP n)).length) (((xs.take 0).filter (tillP n)).flatMap leaseE)) rfl rfl
  replace M : Mem _ _ _ [own 85 5 (Value.slice none 0 0) (((xs.take 0).filter (tillP n)).length) (((xs.take 0).filter (tillP n)).flatMap leaseE), blk b5 (.cells #[(Value.slice none 0 0)] 100), blk b3 (.cells #[(Value.func (.func 104) #[] #[(Value.pointer (some ⟨tb, 0, none⟩))])] 165), blk lb (.cells #[v, (Value.int .i64 most), (Value.int .u64 last)] 147), own 85 5 v xs.length (xs.flatMap leaseE), blk tb (.cells #[(Value.int .u64 n)] 23)] [] _ := M
  replace M := M.sel (L' := [blk b5 (.cells #[(Value.slice none 0 0)] 100), own 85 5 (Value.slice none 0 0) (((xs.take 0).filter (tillP n)).length) (((xs.take 0).filter (tillP n)).flatMap leaseE), blk b3 (.cells #[(Value.func (.func 104) #[] #[(Value.pointer (some ⟨tb, 0, none⟩))])] 165), blk tb (.cells #[(Value.int .u64 n)] 23), blk lb (.cells #[v, (Value.int .i64 most), (Value.int .u64 last)] 147), own 85 5 v xs.length (xs.flatMap leaseE)]) [1, 0, 2, 5, 3, 4] rfl (by decide)
  replace M := Mem.packL (Ls := [blk b5 (.cells #[(Value.slice none 0 0)] 100), own 85 5 (Value.slice none 0 0) (((xs.take 0).filter (tillP n)).length) (((xs.take 0).filter (tillP n)).flatMap leaseE), blk b3 (.cells #[(Value.func (.func 104) #[] #[(Value.pointer (some ⟨tb, 0, none⟩))])] 165), blk tb (.cells #[(Value.int .u64 n)] 23)]) (L := [blk lb (.cells #[v, (Value.int .i64 most), (Value.int .u64 last)] 147), own 85 5 v xs.length (xs.flatMap leaseE)]) M
  replace M : Mem _ _ _ [packL [blk b5 (.cells #[(Value.slice none 0 0)] 100), own 85 5 (Value.slice none 0 0) (((xs.take 0).filter (tillP n)).length) (((xs.take 0).filter (tillP n)).flatMap leaseE), blk b3 (.cells #[(Value.func (.func 104) #[] #[(Value.pointer (some ⟨tb, 0, none⟩))])] 165), blk tb (.cells #[(Value.int .u64 n)] 23)], blk lb (.cells #[v, (Value.int .i64 most), (Value.int .u64 last)] 147), own 85 5 v xs.length (xs.flatMap leaseE)] [] _ := M
  have hfc : FnC Try.prog (Value.func (.func 130) #[] #[(Value.pointer (some ⟨b3, 0, none⟩)), (Value.pointer (some ⟨b5, 0, none⟩))]) leaseV xs (tillP n) (fun (k : Nat) (g : Value) => packL [blk b5 (.cells #[g] 100), own 85 5 g (((xs.take k).filter (tillP n)).length) (((xs.take k).filter (tillP n)).flatMap leaseE), blk b3 (.cells #[(Value.func (.func 104) #[] #[(Value.pointer (some ⟨tb, 0, none⟩))])] 165), blk tb (.cells #[(Value.int .u64 n)] 23)]) := fun k q x w hx M => by
    replace M := Mem.unpackL (L := []) M
    replace M : Mem _ _ _ [blk b5 (.cells #[q] 100), own 85 5 q (((xs.take k).filter (tillP n)).length) (((xs.take k).filter (tillP n)).flatMap leaseE), blk b3 (.cells #[(Value.func (.func 104) #[] #[(Value.pointer (some ⟨tb, 0, none⟩))])] 165), blk tb (.cells #[(Value.int .u64 n)] 23)] [] _ := M
    refine RetsV.of_rets (mid := [leaseV x]) (args := [leaseV x, (Value.pointer (some ⟨b3, 0, none⟩)), (Value.pointer (some ⟨b5, 0, none⟩))]) Try.en130 rfl ?_
    refine Rets.mono (le_part1E x b3 tb n b5 q _ (gone_len (by omega)) (M.enterW (C := [blk b5 (.cells #[q] 100), own 85 5 q (((xs.take k).filter (tillP n)).length) (((xs.take k).filter (tillP n)).flatMap leaseE)]) (D := [blk b3 (.cells #[(Value.func (.func 104) #[] #[(Value.pointer (some ⟨tb, 0, none⟩))])] 165), blk tb (.cells #[(Value.int .u64 n)] 23)]) [0, 1, 2, 3] rfl (by decide) ⟨M.wideC (C := [blk b5 (.cells #[q] 100), own 85 5 q (((xs.take k).filter (tillP n)).length) (((xs.take k).filter (tillP n)).flatMap leaseE)]) (D := [blk b3 (.cells #[(Value.func (.func 104) #[] #[(Value.pointer (some ⟨tb, 0, none⟩))])] 165), blk tb (.cells #[(Value.int .u64 n)] 23)]) [0, 1, 2, 3] rfl (by decide) 0 rfl, M.wideC (C := [blk b5 (.cells #[q] 100), own 85 5 q (((xs.take k).filter (tillP n)).length) (((xs.take k).filter (tillP n)).flatMap leaseE)]) (D := [blk b3 (.cells #[(Value.func (.func 104) #[] #[(Value.pointer (some ⟨tb, 0, none⟩))])] 165), blk tb (.cells #[(Value.int .u64 n)] 23)]) [0, 1, 2, 3] rfl (by decide) 1 rfl, trivial⟩)) ?_
    rintro _ w2 ⟨q2, rfl, m⟩
    replace M := M.leaveW (C := [blk b5 (.cells #[q] 100), own 85 5 q (((xs.take k).filter (tillP n)).length) (((xs.take k).filter (tillP n)).flatMap leaseE)]) (D := [blk b3 (.cells #[(Value.func (.func 104) #[] #[(Value.pointer (some ⟨tb, 0, none⟩))])] 165), blk tb (.cells #[(Value.int .u64 n)] 23)]) [0, 1, 2, 3] rfl (by decide) m
    rw [gone_step hx] at M
    exact ⟨rfl, q2, Mem.packL (Ls := [blk b5 (.cells #[q2] 100), own 85 5 q2 (((xs.take (k + 1)).filter (tillP n)).length) (((xs.take (k + 1)).filter (tillP n)).flatMap leaseE), blk b3 (.cells #[(Value.func (.func 104) #[] #[(Value.pointer (some ⟨tb, 0, none⟩))])] 165), blk tb (.cells #[(Value.int .u64 n)] 23)]) (L := []) M⟩
  refine WL.callX rfl (delfunc_lease v xs (Value.func (.func 130) #[] #[(Value.pointer (some ⟨b3, 0, none⟩)), (Value.pointer (some ⟨b5, 0, none⟩))]) (fun (k : Nat) (g : Value) => packL [blk b5 (.cells #[g] 100), own 85 5 g (((xs.take k).filter (tillP n)).length) (((xs.take k).filter (tillP n)).flatMap leaseE), blk b3 (.cells #[(Value.func (.func 104) #[] #[(Value.pointer (some ⟨tb, 0, none⟩))])] 165), blk tb (.cells #[(Value.int .u64 n)] 23)]) (Value.slice none 0 0) (tillP n) hfc (M.enterW (C := [own 85 5 v xs.length (xs.flatMap leaseE), packL [blk b5 (.cells #[(Value.slice none 0 0)] 100), own 85 5 (Value.slice none 0 0) (((xs.take 0).filter (tillP n)).length) (((xs.take 0).filter (tillP n)).flatMap leaseE), blk b3 (.cells #[(Value.func (.func 104) #[] #[(Value.pointer (some ⟨tb, 0, none⟩))])] 165), blk tb (.cells #[(Value.int .u64 n)] 23)]]) (D := [blk lb (.cells #[v, (Value.int .i64 most), (Value.int .u64 last)] 147)]) [2, 0, 1] rfl (by decide) trivial)) (CallsF.func Try.en129 rfl) ?_
  rintro v8 w7 ⟨_, q9, rfl, m⟩
  replace M := M.leaveW (C := [own 85 5 v xs.length (xs.flatMap leaseE), packL [blk b5 (.cells #[(Value.slice none 0 0)] 100), own 85 5 (Value.slice none 0 0) (((xs.take 0).filter (tillP n)).length) (((xs.take 0).filter (tillP n)).flatMap leaseE), blk b3 (.cells #[(Value.func (.func 104) #[] #[(Value.pointer (some ⟨tb, 0, none⟩))])] 165), blk tb (.cells #[(Value.int .u64 n)] 23)]]) (D := [blk lb (.cells #[v, (Value.int .i64 most), (Value.int .u64 last)] 147)]) [2, 0, 1] rfl (by decide) m
  replace M : Mem _ _ _ [own 85 5 v8 ((xs.filter fun (x : Lease) => !(tillP n x)).length) ((xs.filter fun (x : Lease) => !(tillP n x)).flatMap leaseE), packL [blk b5 (.cells #[q9] 100), own 85 5 q9 (((xs.take xs.length).filter (tillP n)).length) (((xs.take xs.length).filter (tillP n)).flatMap leaseE), blk b3 (.cells #[(Value.func (.func 104) #[] #[(Value.pointer (some ⟨tb, 0, none⟩))])] 165), blk tb (.cells #[(Value.int .u64 n)] 23)], blk lb (.cells #[v, (Value.int .i64 most), (Value.int .u64 last)] 147)] [] _ := M
  replace M := M.sel (L' := [packL [blk b5 (.cells #[q9] 100), own 85 5 q9 (((xs.take xs.length).filter (tillP n)).length) (((xs.take xs.length).filter (tillP n)).flatMap leaseE), blk b3 (.cells #[(Value.func (.func 104) #[] #[(Value.pointer (some ⟨tb, 0, none⟩))])] 165), blk tb (.cells #[(Value.int .u64 n)] 23)], own 85 5 v8 ((xs.filter fun (x : Lease) => !(tillP n x)).length) ((xs.filter fun (x : Lease) => !(tillP n x)).flatMap leaseE), blk lb (.cells #[v, (Value.int .i64 most), (Value.int .u64 last)] 147)]) [1, 0, 2] rfl (by decide)
  replace M := Mem.unpackL M
  replace M : Mem _ _ _ [blk b5 (.cells #[q9] 100), own 85 5 q9 (((xs.take xs.length).filter (tillP n)).length) (((xs.take xs.length).filter (tillP n)).flatMap leaseE), blk b3 (.cells #[(Value.func (.func 104) #[] #[(Value.pointer (some ⟨tb, 0, none⟩))])] 165), blk tb (.cells #[(Value.int .u64 n)] 23), own 85 5 v8 ((xs.filter fun (x : Lease) => !(tillP n x)).length) ((xs.filter fun (x : Lease) => !(tillP n x)).flatMap leaseE), blk lb (.cells #[v, (Value.int .i64 most), (Value.int .u64 last)] 147)] [] _ := M
  replace M := M.rechunk 1 (c' := own 85 5 q9 ((xs.filter (tillP n)).length) ((xs.filter (tillP n)).flatMap leaseE)) rfl (by rw [List.take_length])
  replace M : Mem _ _ _ [blk b5 (.cells #[q9] 100), own 85 5 q9 ((xs.filter (tillP n)).length) ((xs.filter (tillP n)).flatMap leaseE), blk b3 (.cells #[(Value.func (.func 104) #[] #[(Value.pointer (some ⟨tb, 0, none⟩))])] 165), blk tb (.cells #[(Value.int .u64 n)] 23), own 85 5 v8 ((xs.filter fun (x : Lease) => !(tillP n x)).length) ((xs.filter fun (x : Lease) => !(tillP n x)).flatMap leaseE), blk lb (.cells #[v, (Value.int .i64 most), (Value.int .u64 last)] 147)] [] _ := M
  have sl10 : IsSl v8 := SlAt.isSl (own_slAt (Mem.chunk M 4 rfl).inv)
  have hle11 := SlAt.le' (own_slAt (Mem.chunk M 4 rfl).inv)
  have sl12 : IsSl q9 := SlAt.isSl (own_slAt (Mem.chunk M 1 rfl).inv)
  have hle13 := SlAt.le' (own_slAt (Mem.chunk M 1 rfl).inv)
  refine WL.step (v := (Value.pointer (some ⟨lb, 0, none⟩))) rfl (Step.pure (by kernel_rfl)) ?_
  refine WL.step (v := (Value.pointer (some ⟨lb, 0, none⟩))) rfl (Step.pure (by kernel_rfl)) ?_
  refine WL.store (v := v8) (cs := [v8]) (c' := #[v8, (Value.int .i64 most), (Value.int .u64 last)]) M 5 rfl rfl Try.el100.sized rfl rfl (IsSl.list sl10) rfl (Nat.le_of_ble_eq_true rfl) (cel_cons (IsSl.cel sl10) cel_nil) rfl rfl (fun w14 M => ?_)
  refine WL.nil ?_
  refine W.seq' ?_
  refine W.region rfl ?_
  refine WL.step (v := q9) rfl (Step.load1 Try.sc100 rfl ((M.cell 0 rfl 0).trans rfl)) ?_
  refine WL.store (v := q9) (cs := [q9]) (c' := #[q9]) M 0 rfl rfl Try.el100.sized rfl rfl (IsSl.list sl12) rfl (Nat.le_of_ble_eq_true rfl) (cel_cons (IsSl.cel sl12) cel_nil) rfl rfl (fun w15 M => ?_)
  refine WL.nil ?_
  refine W.ret ?_
  refine ⟨.inl rfl, q9, ?_, ?_⟩
  · exact ⟨rfl, (Res.r1 (RV.cell1 Try.sc100 rfl (M.blk 0 rfl)))⟩
  refine ⟨q9, v8, ?_, M.close [5, 4, 3, 1] rfl (by decide) trivial⟩
  rfl

theorem le_expire {G X : Nat → Prop} {w : World} (lb : Nat) (v : Value) (xs : List Lease) (most : Int) (last : Int) (n : Int)  (hb : xs.length ≤ 1000000) (M : Mem G X w [blk lb (.cells #[v, (Value.int .i64 most), (Value.int .u64 last)] 147), own 85 5 v xs.length (xs.flatMap leaseE)] [] w) : Rets Try.prog 55 #[(Value.pointer (some ⟨lb, 0, none⟩)), (Value.int .u64 n)] w fun r w' => ∃ (g' : Value) (v' : Value), r = g' ∧ Mem G X w [blk lb (.cells #[v', (Value.int .i64 most), (Value.int .u64 last)] 147), own 85 5 v' ((xs.filter fun (x : Lease) => !(tillP n x)).length) ((xs.filter fun (x : Lease) => !(tillP n x)).flatMap leaseE), own 85 5 g' ((xs.filter (tillP n)).length) ((xs.filter (tillP n)).flatMap leaseE)] [] w' := by
  refine Rets.enter 8 _ Try.func55 rfl Try.ntmps55 Try.results55 (by simp) ?_
  have sl1 : IsSl v := SlAt.isSl (own_slAt (Mem.chunk M 1 rfl).inv)
  have hle2 := SlAt.le' (own_slAt (Mem.chunk M 1 rfl).inv)
  refine W.seq' ?_
  refine W.region rfl ?_
  refine WL.box (v := (Value.int .u64 n)) (c := #[(Value.int .u64 n)]) M rfl rfl rfl (fun b3 w4 hb3 M => ?_)
  refine WL.step (v := (Value.slice none 0 0)) rfl (Step.assign rfl) ?_
  refine WL.nil ?_
  refine W.seq' ?_
  refine W.region rfl ?_
  refine WL.step (v := (Value.pointer (some ⟨lb, 0, none⟩))) rfl (Step.move rfl) ?_
  refine WL.step (v := (Value.func (.func 104) #[] #[(Value.pointer (some ⟨b3, 0, none⟩))])) rfl (Step.pure (by kernel_rfl)) ?_
  refine WL.callX rfl (le_partE lb v xs most last b3 n (by first | omega | assumption | decide | (simp only [List.length_nil, List.length_cons, List.length_take, List.length_drop]; omega)) (M.enterW (C := [blk lb (.cells #[v, (Value.int .i64 most), (Value.int .u64 last)] 147), own 85 5 v xs.length (xs.flatMap leaseE), blk b3 (.cells #[(Value.int .u64 n)] 23)]) (D := []) [1, 2, 0] rfl (by decide) trivial)) (CallsF.func Try.en103 rfl) ?_
  rintro g5 w7 ⟨_, v6, rfl, m⟩
  replace M := M.leaveW (C := [blk lb (.cells #[v, (Value.int .i64 most), (Value.int .u64 last)] 147), own 85 5 v xs.length (xs.flatMap leaseE), blk b3 (.cells #[(Value.int .u64 n)] 23)]) (D := []) [1, 2, 0] rfl (by decide) m
  clear m
  replace M : Mem _ _ _ [blk lb (.cells #[v6, (Value.int .i64 most), (Value.int .u64 last)] 147), own 85 5 v6 ((xs.filter fun (x : Lease) => !(tillP n x)).length) ((xs.filter fun (x : Lease) => !(tillP n x)).flatMap leaseE), blk b3 (.cells #[(Value.int .u64 n)] 23), own 85 5 g5 ((xs.filter (tillP n)).length) ((xs.filter (tillP n)).flatMap leaseE)] [] _ := M
  have sl8 : IsSl v6 := SlAt.isSl (own_slAt (Mem.chunk M 1 rfl).inv)
  have hle9 := SlAt.le' (own_slAt (Mem.chunk M 1 rfl).inv)
  have sl10 : IsSl g5 := SlAt.isSl (own_slAt (Mem.chunk M 3 rfl).inv)
  have hle11 := SlAt.le' (own_slAt (Mem.chunk M 3 rfl).inv)
  refine WL.step (v := g5) rfl (Step.assign rfl) ?_
  refine WL.nil ?_
  refine W.ret ?_
  refine ⟨.inl rfl, g5, ?_, ?_⟩
  · exact ⟨rfl, (Res.r1 (show RV _ _ _ (.tmp 4) g5 from by exact rfl))⟩
  refine ⟨g5, v6, ?_, M.close [0, 1, 3] rfl (by decide) trivial⟩
  rfl

theorem le_holdL {G : Nat → Prop} {w : World} (x : Lease) (tb : Nat) (n : Int)   (M : Mem G (fun _ => False) w [] [(fun w => w.heap[tb]? = some (.cells #[(Value.int .i64 n)] 3))] w) : Rets Try.prog 105 #[(Value.agg #[(Value.int .u64 x.id), (Value.int .i64 x.owner), (Value.int .u64 x.epoch), (Value.int .u64 x.till), (Value.bool x.cursor)]), (Value.pointer (some ⟨tb, 0, none⟩))] w fun r w' => r = (Value.bool (ownP n x)) ∧ Mem G (fun _ => False) w [] [] w' := by
  refine Rets.enter 8 _ Try.func105 rfl Try.ntmps105 Try.results105 (by simp) ?_
  refine W.seq' ?_
  refine W.region rfl ?_
  refine WL.box (v := (Value.agg #[(Value.int .u64 x.id), (Value.int .i64 x.owner), (Value.int .u64 x.epoch), (Value.int .u64 x.till), (Value.bool x.cursor)])) (c := #[(Value.int .u64 x.id), (Value.int .i64 x.owner), (Value.int .u64 x.epoch), (Value.int .u64 x.till), (Value.bool x.cursor)]) M rfl rfl rfl (fun b1 w2 hb1 M => ?_)
  refine WL.step (v := (Value.bool false)) rfl (Step.assign rfl) ?_
  refine WL.nil ?_
  refine W.seq' ?_
  refine W.region rfl ?_
  refine WL.step (v := (Value.pointer (some ⟨b1, 1, none⟩))) rfl (Step.pure (by kernel_rfl)) ?_
  refine WL.step (v := (Value.int .i64 x.owner)) rfl (Step.load1 Try.sc3 rfl ((M.cell 0 rfl 1).trans rfl)) ?_
  refine WL.step (v := (Value.int .i64 n)) rfl (Step.load1 Try.sc3 rfl ((cell_blk (M.rep 0 rfl) 0).trans rfl)) ?_
  refine WL.step (v := (Value.bool ((x.owner : Int) == (n : Int)))) rfl (Step.pure (by kernel_rfl)) ?_
  refine WL.step (v := (Value.bool ((x.owner : Int) == (n : Int)))) rfl (Step.assign rfl) ?_
  refine WL.nil ?_
  refine W.ret ?_
  refine ⟨.inl rfl, (Value.bool ((x.owner : Int) == (n : Int))), ?_, ?_⟩
  · exact ⟨rfl, (Res.r1 (show RV _ _ _ (.tmp 3) (Value.bool ((x.owner : Int) == (n : Int))) from by exact rfl))⟩
  refine ⟨?_, M.close [] rfl (by decide) trivial⟩
  rfl

theorem le_part1L {G X : Nat → Prop} {w : World} (x : Lease) (ph : Nat) (tb : Nat) (n : Int) (gb : Nat) (gv : Value) (gs : List Lease)  (hb : gs.length ≤ 1000000) (M : Mem G X w [blk gb (.cells #[gv] 100), own 85 5 gv gs.length (gs.flatMap leaseE)] [(fun w => w.heap[ph]? = some (.cells #[(Value.func (.func 105) #[] #[(Value.pointer (some ⟨tb, 0, none⟩))])] 165)), (fun w => w.heap[tb]? = some (.cells #[(Value.int .i64 n)] 3))] w) : Rets Try.prog 130 #[(Value.agg #[(Value.int .u64 x.id), (Value.int .i64 x.owner), (Value.int .u64 x.epoch), (Value.int .u64 x.till), (Value.bool x.cursor)]), (Value.pointer (some ⟨ph, 0, none⟩)), (Value.pointer (some ⟨gb, 0, none⟩))] w fun r w' => ∃ (g' : Value), r = (Value.bool (ownP n x)) ∧ Mem G X w [blk gb (.cells #[g'] 100), own 85 5 g' ((goneV (ownP n) gs x).length) ((goneV (ownP n) gs x).flatMap leaseE)] [] w' := by
  refine Rets.enter 13 _ Try.func130 rfl Try.ntmps130 Try.results130 (by simp) ?_
  have sl1 : IsSl gv := SlAt.isSl (own_slAt (Mem.chunk M 1 rfl).inv)
  have hle2 := SlAt.le' (own_slAt (Mem.chunk M 1 rfl).inv)
  refine W.seq' ?_
  refine W.region rfl ?_
  refine WL.box (v := (Value.agg #[(Value.int .u64 x.id), (Value.int .i64 x.owner), (Value.int .u64 x.epoch), (Value.int .u64 x.till), (Value.bool x.cursor)])) (c := #[(Value.int .u64 x.id), (Value.int .i64 x.owner), (Value.int .u64 x.epoch), (Value.int .u64 x.till), (Value.bool x.cursor)]) M rfl rfl rfl (fun b3 w4 hb3 M => ?_)
  refine WL.step (v := (Value.bool false)) rfl (Step.assign rfl) ?_
  refine WL.nil ?_
  refine W.seq' ?_
  refine W.seq' ?_
  refine W.region rfl ?_
  refine WL.step (v := (Value.func (.func 105) #[] #[(Value.pointer (some ⟨tb, 0, none⟩))])) rfl (Step.load1 Try.sc165 rfl ((cell_blk (M.rep 0 rfl) 0).trans rfl)) ?_
  refine WL.step (v := (Value.agg #[(Value.int .u64 x.id), (Value.int .i64 x.owner), (Value.int .u64 x.epoch), (Value.int .u64 x.till), (Value.bool x.cursor)])) rfl (Step.loadN Try.ag85 rfl (M.blk 0 rfl) (Nat.le_of_ble_eq_true rfl) rfl) ?_
  refine WL.callX rfl (le_holdL x tb n (M.enterW0 ⟨(M.wideR0 1 rfl), trivial⟩)) (CallsF.value Try.en105 rfl rfl rfl) ?_
  rintro _ w5 ⟨rfl, m⟩
  replace M := M.leaveW0 m
  clear m
  replace M : Mem _ _ _ [blk b3 (.cells #[(Value.int .u64 x.id), (Value.int .i64 x.owner), (Value.int .u64 x.epoch), (Value.int .u64 x.till), (Value.bool x.cursor)] 85), blk gb (.cells #[gv] 100), own 85 5 gv gs.length (gs.flatMap leaseE)] [(fun w => w.heap[ph]? = some (.cells #[(Value.func (.func 105) #[] #[(Value.pointer (some ⟨tb, 0, none⟩))])] 165)), (fun w => w.heap[tb]? = some (.cells #[(Value.int .i64 n)] 3))] _ := M
  refine WL.step (v := (Value.bool (!(ownP n x)))) rfl (Step.pure (by kernel_rfl)) ?_
  refine WL.nil ?_
  refine W.cond (t := !(ownP n x)) rfl (fun h6 => ?_) (fun h6 => ?_)
  ·
    refine W.seq' ?_
    refine W.region rfl ?_
    refine WL.step (v := (Value.bool false)) rfl (Step.assign rfl) ?_
    refine WL.nil ?_
    refine W.ret ?_
    refine ⟨.inl rfl, (Value.bool false), ?_, ?_⟩
    · exact ⟨rfl, (Res.r1 (show RV _ _ _ (.tmp 4) (Value.bool false) from by exact rfl))⟩
    have e7 : goneV (ownP n) gs x = gs := by
      simp [goneV, show ownP n x = false by simpa using h6]
    replace M := M.rechunk 2 (c' := own 85 5 gv ((goneV (ownP n) gs x).length) ((goneV (ownP n) gs x).flatMap leaseE)) rfl (congrArg (fun z => own 85 5 gv z.length (z.flatMap leaseE)) e7.symm)
    replace M : Mem _ _ _ [blk b3 (.cells #[(Value.int .u64 x.id), (Value.int .i64 x.owner), (Value.int .u64 x.epoch), (Value.int .u64 x.till), (Value.bool x.cursor)] 85), blk gb (.cells #[gv] 100), own 85 5 gv ((goneV (ownP n) gs x).length) ((goneV (ownP n) gs x).flatMap leaseE)] [(fun w => w.heap[ph]? = some (.cells #[(Value.func (.func 105) #[] #[(Value.pointer (some ⟨tb, 0, none⟩))])] 165)), (fun w => w.heap[tb]? = some (.cells #[(Value.int .i64 n)] 3))] _ := M
    refine ⟨gv, ?_, M.close [1, 2] rfl (by decide) trivial⟩
    simp [goneV, show ownP n x = false by simpa using h6]
  ·
    refine W.skip ?_
    refine W.seq' ?_
    refine W.region rfl ?_
    refine WL.step (v := gv) rfl (Step.load1 Try.sc100 rfl ((M.cell 1 rfl 0).trans rfl)) ?_
    refine WL.step (v := (Value.agg #[(Value.int .u64 x.id), (Value.int .i64 x.owner), (Value.int .u64 x.epoch), (Value.int .u64 x.till), (Value.bool x.cursor)])) rfl (Step.loadN Try.ag85 rfl (M.blk 0 rfl) (Nat.le_of_ble_eq_true rfl) rfl) ?_
    refine WL.new (obj := .cells #[(Value.int .u64 x.id), (Value.int .i64 x.owner), (Value.int .u64 x.epoch), (Value.int .u64 x.till), (Value.bool x.cursor)] 85) (fun b => .slice (some ⟨b, 0, none⟩) 1 1) M rfl (fun w => Step.make (by kernel_rfl)) (fun b8 w9 hb8 M => ?_)
    refine WL.does rfl (M.appendF gs ([x] : List Lease) (sv := (Value.slice (some ⟨b8, 0, none⟩) 1 1)) 3 Try.un100 Try.el85 rfl (by decide) rfl rfl rfl (SlAt.of_blk (M.blk 0 rfl) rfl (by decide)) leaseE_cel (by have := hb; simp only [maxLen, List.length_nil, List.length_cons, List.length_append]; omega) (by have := hb; (try simp only [List.length_nil, List.length_cons, List.length_append]); omega)) ?_
    rintro v10 w11 M
    replace M : Mem _ _ _ [blk b8 (.cells #[(Value.int .u64 x.id), (Value.int .i64 x.owner), (Value.int .u64 x.epoch), (Value.int .u64 x.till), (Value.bool x.cursor)] 85), blk b3 (.cells #[(Value.int .u64 x.id), (Value.int .i64 x.owner), (Value.int .u64 x.epoch), (Value.int .u64 x.till), (Value.bool x.cursor)] 85), blk gb (.cells #[gv] 100), own 85 5 v10 ((gs ++ ([x] : List Lease)).length) ((gs ++ ([x] : List Lease)).flatMap leaseE)] [(fun w => w.heap[ph]? = some (.cells #[(Value.func (.func 105) #[] #[(Value.pointer (some ⟨tb, 0, none⟩))])] 165)), (fun w => w.heap[tb]? = some (.cells #[(Value.int .i64 n)] 3))] _ := M
    have sl12 : IsSl v10 := SlAt.isSl (own_slAt (M.chunk 3 rfl).inv)
    refine WL.store (v := v10) (cs := [v10]) (c' := #[v10]) M 2 rfl rfl Try.el100.sized rfl rfl (IsSl.list sl12) rfl (Nat.le_of_ble_eq_true rfl) (cel_cons (IsSl.cel sl12) cel_nil) rfl rfl (fun w13 M => ?_)
    refine WL.nil ?_
    refine W.seq' ?_
    refine W.region rfl ?_
    refine WL.step (v := (Value.bool true)) rfl (Step.assign rfl) ?_
    refine WL.nil ?_
    refine W.ret ?_
    refine ⟨.inl rfl, (Value.bool true), ?_, ?_⟩
    · exact ⟨rfl, (Res.r1 (show RV _ _ _ (.tmp 4) (Value.bool true) from by exact rfl))⟩
    have e14 : goneV (ownP n) gs x = gs ++ ([x] : List Lease) := by
      simp [goneV, show ownP n x = true by simpa using h6]
    replace M := M.rechunk 3 (c' := own 85 5 v10 ((goneV (ownP n) gs x).length) ((goneV (ownP n) gs x).flatMap leaseE)) rfl (congrArg (fun z => own 85 5 v10 z.length (z.flatMap leaseE)) e14.symm)
    replace M : Mem _ _ _ [blk b8 (.cells #[(Value.int .u64 x.id), (Value.int .i64 x.owner), (Value.int .u64 x.epoch), (Value.int .u64 x.till), (Value.bool x.cursor)] 85), blk b3 (.cells #[(Value.int .u64 x.id), (Value.int .i64 x.owner), (Value.int .u64 x.epoch), (Value.int .u64 x.till), (Value.bool x.cursor)] 85), blk gb (.cells #[v10] 100), own 85 5 v10 ((goneV (ownP n) gs x).length) ((goneV (ownP n) gs x).flatMap leaseE)] [(fun w => w.heap[ph]? = some (.cells #[(Value.func (.func 105) #[] #[(Value.pointer (some ⟨tb, 0, none⟩))])] 165)), (fun w => w.heap[tb]? = some (.cells #[(Value.int .i64 n)] 3))] _ := M
    refine ⟨v10, ?_, M.close [2, 3] rfl (by decide) trivial⟩
    simp [goneV, show ownP n x = true by simpa using h6]

theorem le_partL {G X : Nat → Prop} {w : World} (lb : Nat) (v : Value) (xs : List Lease) (most : Int) (last : Int) (tb : Nat) (n : Int)  (hb : xs.length ≤ 1000000) (M : Mem G X w [blk lb (.cells #[v, (Value.int .i64 most), (Value.int .u64 last)] 147), own 85 5 v xs.length (xs.flatMap leaseE), blk tb (.cells #[(Value.int .i64 n)] 3)] [] w) : Rets Try.prog 103 #[(Value.pointer (some ⟨lb, 0, none⟩)), (Value.func (.func 105) #[] #[(Value.pointer (some ⟨tb, 0, none⟩))])] w fun r w' => ∃ (g' : Value) (v' : Value), r = g' ∧ Mem G X w [blk lb (.cells #[v', (Value.int .i64 most), (Value.int .u64 last)] 147), own 85 5 v' ((xs.filter fun (x : Lease) => !(ownP n x)).length) ((xs.filter fun (x : Lease) => !(ownP n x)).flatMap leaseE), blk tb (.cells #[(Value.int .i64 n)] 3), own 85 5 g' ((xs.filter (ownP n)).length) ((xs.filter (ownP n)).flatMap leaseE)] [] w' := by
  refine Rets.enter 17 _ Try.func103 rfl Try.ntmps103 Try.results103 (by simp) ?_
  have sl1 : IsSl v := SlAt.isSl (own_slAt (Mem.chunk M 1 rfl).inv)
  have hle2 := SlAt.le' (own_slAt (Mem.chunk M 1 rfl).inv)
  refine W.seq' ?_
  refine W.region rfl ?_
  refine WL.box (v := (Value.func (.func 105) #[] #[(Value.pointer (some ⟨tb, 0, none⟩))])) (c := #[(Value.func (.func 105) #[] #[(Value.pointer (some ⟨tb, 0, none⟩))])]) M rfl rfl rfl (fun b3 w4 hb3 M => ?_)
  refine WL.alloc (c := #[(Value.slice none 0 0)]) M rfl Try.el100.zero rfl (fun b5 w6 hb5 M => ?_)
  refine WL.nil ?_
  refine W.seq' ?_
  refine W.seq' ?_
  refine W.region rfl ?_
  refine WL.step (v := (Value.pointer (some ⟨lb, 0, none⟩))) rfl (Step.move rfl) ?_
  refine WL.step (v := (Value.bool false)) rfl (Step.pure (by kernel_rfl)) ?_
  refine WL.nil ?_
  refine W.cond (t := false) rfl (fun h => by cases h) (fun _ => ?_)
  refine W.skip ?_
  refine W.seq' ?_
  refine W.region rfl ?_
  refine WL.step (v := (Value.pointer (some ⟨lb, 0, none⟩))) rfl (Step.move rfl) ?_
  refine WL.step (v := (Value.pointer (some ⟨lb, 0, none⟩))) rfl (Step.move rfl) ?_
  refine WL.step (v := (Value.pointer (some ⟨lb, 0, none⟩))) rfl (Step.pure (by kernel_rfl)) ?_
  refine WL.step (v := (Value.pointer (some ⟨lb, 0, none⟩))) rfl (Step.pure (by kernel_rfl)) ?_
  refine WL.step (v := v) rfl (Step.load1 Try.sc100 rfl ((M.cell 2 rfl 0).trans rfl)) ?_
  refine WL.step (v := (Value.func (.func 130) #[] #[(Value.pointer (some ⟨b3, 0, none⟩)), (Value.pointer (some ⟨b5, 0, none⟩))])) rfl (Step.pure (by kernel_rfl)) ?_
  replace M := M.ownNil 85 5
  replace M := M.rechunk 0 (c' := own 85 5 (Value.slice none 0 0) (((xs.take 0).filter (ownP n)).length) (((xs.take 0).filter (ownP n)).flatMap leaseE)) rfl rfl
  replace M : Mem _ _ _ [own 85 5 (Value.slice none 0 0) (((xs.take 0).filter (ownP n)).length) (((xs.take 0).filter (ownP n)).flatMap leaseE), blk b5 (.cells #[(Value.slice none 0 0)] 100), blk b3 (.cells #[(Value.func (.func 105) #[] #[(Value.pointer (some ⟨tb, 0, none⟩))])] 165), blk lb (.cells #[v, (Value.int .i64 most), (Value.int .u64 last)] 147), own 85 5 v xs.length (xs.flatMap leaseE), blk tb (.cells #[(Value.int .i64 n)] 3)] [] _ := M
  replace M := M.sel (L' := [blk b5 (.cells #[(Value.slice none 0 0)] 100), own 85 5 (Value.slice none 0 0) (((xs.take 0).filter (ownP n)).length) (((xs.take 0).filter (ownP n)).flatMap leaseE), blk b3 (.cells #[(Value.func (.func 105) #[] #[(Value.pointer (some ⟨tb, 0, none⟩))])] 165), blk tb (.cells #[(Value.int .i64 n)] 3), blk lb (.cells #[v, (Value.int .i64 most), (Value.int .u64 last)] 147), own 85 5 v xs.length (xs.flatMap leaseE)]) [1, 0, 2, 5, 3, 4] rfl (by decide)
  replace M := Mem.packL (Ls := [blk b5 (.cells #[(Value.slice none 0 0)] 100), own 85 5 (Value.slice none 0 0) (((xs.take 0).filter (ownP n)).length) (((xs.take 0).filter (ownP n)).flatMap leaseE), blk b3 (.cells #[(Value.func (.func 105) #[] #[(Value.pointer (some ⟨tb, 0, none⟩))])] 165), blk tb (.cells #[(Value.int .i64 n)] 3)]) (L := [blk lb (.cells #[v, (Value.int .i64 most), (Value.int .u64 last)] 147), own 85 5 v xs.length (xs.flatMap leaseE)]) M
  replace M : Mem _ _ _ [packL [blk b5 (.cells #[(Value.slice none 0 0)] 100), own 85 5 (Value.slice none 0 0) (((xs.take 0).filter (ownP n)).length) (((xs.take 0).filter (ownP n)).flatMap leaseE), blk b3 (.cells #[(Value.func (.func 105) #[] #[(Value.pointer (some ⟨tb, 0, none⟩))])] 165), blk tb (.cells #[(Value.int .i64 n)] 3)], blk lb (.cells #[v, (Value.int .i64 most), (Value.int .u64 last)] 147), own 85 5 v xs.length (xs.flatMap leaseE)] [] _ := M
  have hfc : FnC Try.prog (Value.func (.func 130) #[] #[(Value.pointer (some ⟨b3, 0, none⟩)), (Value.pointer (some ⟨b5, 0, none⟩))]) leaseV xs (ownP n) (fun (k : Nat) (g : Value) => packL [blk b5 (.cells #[g] 100), own 85 5 g (((xs.take k).filter (ownP n)).length) (((xs.take k).filter (ownP n)).flatMap leaseE), blk b3 (.cells #[(Value.func (.func 105) #[] #[(Value.pointer (some ⟨tb, 0, none⟩))])] 165), blk tb (.cells #[(Value.int .i64 n)] 3)]) := fun k q x w hx M => by
    replace M := Mem.unpackL (L := []) M
    replace M : Mem _ _ _ [blk b5 (.cells #[q] 100), own 85 5 q (((xs.take k).filter (ownP n)).length) (((xs.take k).filter (ownP n)).flatMap leaseE), blk b3 (.cells #[(Value.func (.func 105) #[] #[(Value.pointer (some ⟨tb, 0, none⟩))])] 165), blk tb (.cells #[(Value.int .i64 n)] 3)] [] _ := M
    refine RetsV.of_rets (mid := [leaseV x]) (args := [leaseV x, (Value.pointer (some ⟨b3, 0, none⟩)), (Value.pointer (some ⟨b5, 0, none⟩))]) Try.en130 rfl ?_
    refine Rets.mono (le_part1L x b3 tb n b5 q _ (gone_len (by omega)) (M.enterW (C := [blk b5 (.cells #[q] 100), own 85 5 q (((xs.take k).filter (ownP n)).length) (((xs.take k).filter (ownP n)).flatMap leaseE)]) (D := [blk b3 (.cells #[(Value.func (.func 105) #[] #[(Value.pointer (some ⟨tb, 0, none⟩))])] 165), blk tb (.cells #[(Value.int .i64 n)] 3)]) [0, 1, 2, 3] rfl (by decide) ⟨M.wideC (C := [blk b5 (.cells #[q] 100), own 85 5 q (((xs.take k).filter (ownP n)).length) (((xs.take k).filter (ownP n)).flatMap leaseE)]) (D := [blk b3 (.cells #[(Value.func (.func 105) #[] #[(Value.pointer (some ⟨tb, 0, none⟩))])] 165), blk tb (.cells #[(Value.int .i64 n)] 3)]) [0, 1, 2, 3] rfl (by decide) 0 rfl, M.wideC (C := [blk b5 (.cells #[q] 100), own 85 5 q (((xs.take k).filter (ownP n)).length) (((xs.take k).filter (ownP n)).flatMap leaseE)]) (D := [blk b3 (.cells #[(Value.func (.func 105) #[] #[(Value.pointer (some ⟨tb, 0, none⟩))])] 165), blk tb (.cells #[(Value.int .i64 n)] 3)]) [0, 1, 2, 3] rfl (by decide) 1 rfl, trivial⟩)) ?_
    rintro _ w2 ⟨q2, rfl, m⟩
    replace M := M.leaveW (C := [blk b5 (.cells #[q] 100), own 85 5 q (((xs.take k).filter (ownP n)).length) (((xs.take k).filter (ownP n)).flatMap leaseE)]) (D := [blk b3 (.cells #[(Value.func (.func 105) #[] #[(Value.pointer (some ⟨tb, 0, none⟩))])] 165), blk tb (.cells #[(Value.int .i64 n)] 3)]) [0, 1, 2, 3] rfl (by decide) m
    rw [gone_step hx] at M
    exact ⟨rfl, q2, Mem.packL (Ls := [blk b5 (.cells #[q2] 100), own 85 5 q2 (((xs.take (k + 1)).filter (ownP n)).length) (((xs.take (k + 1)).filter (ownP n)).flatMap leaseE), blk b3 (.cells #[(Value.func (.func 105) #[] #[(Value.pointer (some ⟨tb, 0, none⟩))])] 165), blk tb (.cells #[(Value.int .i64 n)] 3)]) (L := []) M⟩
  refine WL.callX rfl (delfunc_lease v xs (Value.func (.func 130) #[] #[(Value.pointer (some ⟨b3, 0, none⟩)), (Value.pointer (some ⟨b5, 0, none⟩))]) (fun (k : Nat) (g : Value) => packL [blk b5 (.cells #[g] 100), own 85 5 g (((xs.take k).filter (ownP n)).length) (((xs.take k).filter (ownP n)).flatMap leaseE), blk b3 (.cells #[(Value.func (.func 105) #[] #[(Value.pointer (some ⟨tb, 0, none⟩))])] 165), blk tb (.cells #[(Value.int .i64 n)] 3)]) (Value.slice none 0 0) (ownP n) hfc (M.enterW (C := [own 85 5 v xs.length (xs.flatMap leaseE), packL [blk b5 (.cells #[(Value.slice none 0 0)] 100), own 85 5 (Value.slice none 0 0) (((xs.take 0).filter (ownP n)).length) (((xs.take 0).filter (ownP n)).flatMap leaseE), blk b3 (.cells #[(Value.func (.func 105) #[] #[(Value.pointer (some ⟨tb, 0, none⟩))])] 165), blk tb (.cells #[(Value.int .i64 n)] 3)]]) (D := [blk lb (.cells #[v, (Value.int .i64 most), (Value.int .u64 last)] 147)]) [2, 0, 1] rfl (by decide) trivial)) (CallsF.func Try.en129 rfl) ?_
  rintro v8 w7 ⟨_, q9, rfl, m⟩
  replace M := M.leaveW (C := [own 85 5 v xs.length (xs.flatMap leaseE), packL [blk b5 (.cells #[(Value.slice none 0 0)] 100), own 85 5 (Value.slice none 0 0) (((xs.take 0).filter (ownP n)).length) (((xs.take 0).filter (ownP n)).flatMap leaseE), blk b3 (.cells #[(Value.func (.func 105) #[] #[(Value.pointer (some ⟨tb, 0, none⟩))])] 165), blk tb (.cells #[(Value.int .i64 n)] 3)]]) (D := [blk lb (.cells #[v, (Value.int .i64 most), (Value.int .u64 last)] 147)]) [2, 0, 1] rfl (by decide) m
  replace M : Mem _ _ _ [own 85 5 v8 ((xs.filter fun (x : Lease) => !(ownP n x)).length) ((xs.filter fun (x : Lease) => !(ownP n x)).flatMap leaseE), packL [blk b5 (.cells #[q9] 100), own 85 5 q9 (((xs.take xs.length).filter (ownP n)).length) (((xs.take xs.length).filter (ownP n)).flatMap leaseE), blk b3 (.cells #[(Value.func (.func 105) #[] #[(Value.pointer (some ⟨tb, 0, none⟩))])] 165), blk tb (.cells #[(Value.int .i64 n)] 3)], blk lb (.cells #[v, (Value.int .i64 most), (Value.int .u64 last)] 147)] [] _ := M
  replace M := M.sel (L' := [packL [blk b5 (.cells #[q9] 100), own 85 5 q9 (((xs.take xs.length).filter (ownP n)).length) (((xs.take xs.length).filter (ownP n)).flatMap leaseE), blk b3 (.cells #[(Value.func (.func 105) #[] #[(Value.pointer (some ⟨tb, 0, none⟩))])] 165), blk tb (.cells #[(Value.int .i64 n)] 3)], own 85 5 v8 ((xs.filter fun (x : Lease) => !(ownP n x)).length) ((xs.filter fun (x : Lease) => !(ownP n x)).flatMap leaseE), blk lb (.cells #[v, (Value.int .i64 most), (Value.int .u64 last)] 147)]) [1, 0, 2] rfl (by decide)
  replace M := Mem.unpackL M
  replace M : Mem _ _ _ [blk b5 (.cells #[q9] 100), own 85 5 q9 (((xs.take xs.length).filter (ownP n)).length) (((xs.take xs.length).filter (ownP n)).flatMap leaseE), blk b3 (.cells #[(Value.func (.func 105) #[] #[(Value.pointer (some ⟨tb, 0, none⟩))])] 165), blk tb (.cells #[(Value.int .i64 n)] 3), own 85 5 v8 ((xs.filter fun (x : Lease) => !(ownP n x)).length) ((xs.filter fun (x : Lease) => !(ownP n x)).flatMap leaseE), blk lb (.cells #[v, (Value.int .i64 most), (Value.int .u64 last)] 147)] [] _ := M
  replace M := M.rechunk 1 (c' := own 85 5 q9 ((xs.filter (ownP n)).length) ((xs.filter (ownP n)).flatMap leaseE)) rfl (by rw [List.take_length])
  replace M : Mem _ _ _ [blk b5 (.cells #[q9] 100), own 85 5 q9 ((xs.filter (ownP n)).length) ((xs.filter (ownP n)).flatMap leaseE), blk b3 (.cells #[(Value.func (.func 105) #[] #[(Value.pointer (some ⟨tb, 0, none⟩))])] 165), blk tb (.cells #[(Value.int .i64 n)] 3), own 85 5 v8 ((xs.filter fun (x : Lease) => !(ownP n x)).length) ((xs.filter fun (x : Lease) => !(ownP n x)).flatMap leaseE), blk lb (.cells #[v, (Value.int .i64 most), (Value.int .u64 last)] 147)] [] _ := M
  have sl10 : IsSl v8 := SlAt.isSl (own_slAt (Mem.chunk M 4 rfl).inv)
  have hle11 := SlAt.le' (own_slAt (Mem.chunk M 4 rfl).inv)
  have sl12 : IsSl q9 := SlAt.isSl (own_slAt (Mem.chunk M 1 rfl).inv)
  have hle13 := SlAt.le' (own_slAt (Mem.chunk M 1 rfl).inv)
  refine WL.step (v := (Value.pointer (some ⟨lb, 0, none⟩))) rfl (Step.pure (by kernel_rfl)) ?_
  refine WL.step (v := (Value.pointer (some ⟨lb, 0, none⟩))) rfl (Step.pure (by kernel_rfl)) ?_
  refine WL.store (v := v8) (cs := [v8]) (c' := #[v8, (Value.int .i64 most), (Value.int .u64 last)]) M 5 rfl rfl Try.el100.sized rfl rfl (IsSl.list sl10) rfl (Nat.le_of_ble_eq_true rfl) (cel_cons (IsSl.cel sl10) cel_nil) rfl rfl (fun w14 M => ?_)
  refine WL.nil ?_
  refine W.seq' ?_
  refine W.region rfl ?_
  refine WL.step (v := q9) rfl (Step.load1 Try.sc100 rfl ((M.cell 0 rfl 0).trans rfl)) ?_
  refine WL.store (v := q9) (cs := [q9]) (c' := #[q9]) M 0 rfl rfl Try.el100.sized rfl rfl (IsSl.list sl12) rfl (Nat.le_of_ble_eq_true rfl) (cel_cons (IsSl.cel sl12) cel_nil) rfl rfl (fun w15 M => ?_)
  refine WL.nil ?_
  refine W.ret ?_
  refine ⟨.inl rfl, q9, ?_, ?_⟩
  · exact ⟨rfl, (Res.r1 (RV.cell1 Try.sc100 rfl (M.blk 0 rfl)))⟩
  refine ⟨q9, v8, ?_, M.close [5, 4, 3, 1] rfl (by decide) trivial⟩
  rfl

theorem le_leave {G X : Nat → Prop} {w : World} (lb : Nat) (v : Value) (xs : List Lease) (most : Int) (last : Int) (n : Int)  (hb : xs.length ≤ 1000000) (M : Mem G X w [blk lb (.cells #[v, (Value.int .i64 most), (Value.int .u64 last)] 147), own 85 5 v xs.length (xs.flatMap leaseE)] [] w) : Rets Try.prog 56 #[(Value.pointer (some ⟨lb, 0, none⟩)), (Value.int .i64 n)] w fun r w' => ∃ (g' : Value) (v' : Value), r = g' ∧ Mem G X w [blk lb (.cells #[v', (Value.int .i64 most), (Value.int .u64 last)] 147), own 85 5 v' ((xs.filter fun (x : Lease) => !(ownP n x)).length) ((xs.filter fun (x : Lease) => !(ownP n x)).flatMap leaseE), own 85 5 g' ((xs.filter (ownP n)).length) ((xs.filter (ownP n)).flatMap leaseE)] [] w' := by
  refine Rets.enter 8 _ Try.func56 rfl Try.ntmps56 Try.results56 (by simp) ?_
  have sl1 : IsSl v := SlAt.isSl (own_slAt (Mem.chunk M 1 rfl).inv)
  have hle2 := SlAt.le' (own_slAt (Mem.chunk M 1 rfl).inv)
  refine W.seq' ?_
  refine W.region rfl ?_
  refine WL.box (v := (Value.int .i64 n)) (c := #[(Value.int .i64 n)]) M rfl rfl rfl (fun b3 w4 hb3 M => ?_)
  refine WL.step (v := (Value.slice none 0 0)) rfl (Step.assign rfl) ?_
  refine WL.nil ?_
  refine W.seq' ?_
  refine W.region rfl ?_
  refine WL.step (v := (Value.pointer (some ⟨lb, 0, none⟩))) rfl (Step.move rfl) ?_
  refine WL.step (v := (Value.func (.func 105) #[] #[(Value.pointer (some ⟨b3, 0, none⟩))])) rfl (Step.pure (by kernel_rfl)) ?_
  refine WL.callX rfl (le_partL lb v xs most last b3 n (by first | omega | assumption | decide | (simp only [List.length_nil, List.length_cons, List.length_take, List.length_drop]; omega)) (M.enterW (C := [blk lb (.cells #[v, (Value.int .i64 most), (Value.int .u64 last)] 147), own 85 5 v xs.length (xs.flatMap leaseE), blk b3 (.cells #[(Value.int .i64 n)] 3)]) (D := []) [1, 2, 0] rfl (by decide) trivial)) (CallsF.func Try.en103 rfl) ?_
  rintro g5 w7 ⟨_, v6, rfl, m⟩
  replace M := M.leaveW (C := [blk lb (.cells #[v, (Value.int .i64 most), (Value.int .u64 last)] 147), own 85 5 v xs.length (xs.flatMap leaseE), blk b3 (.cells #[(Value.int .i64 n)] 3)]) (D := []) [1, 2, 0] rfl (by decide) m
  clear m
  replace M : Mem _ _ _ [blk lb (.cells #[v6, (Value.int .i64 most), (Value.int .u64 last)] 147), own 85 5 v6 ((xs.filter fun (x : Lease) => !(ownP n x)).length) ((xs.filter fun (x : Lease) => !(ownP n x)).flatMap leaseE), blk b3 (.cells #[(Value.int .i64 n)] 3), own 85 5 g5 ((xs.filter (ownP n)).length) ((xs.filter (ownP n)).flatMap leaseE)] [] _ := M
  have sl8 : IsSl v6 := SlAt.isSl (own_slAt (Mem.chunk M 1 rfl).inv)
  have hle9 := SlAt.le' (own_slAt (Mem.chunk M 1 rfl).inv)
  have sl10 : IsSl g5 := SlAt.isSl (own_slAt (Mem.chunk M 3 rfl).inv)
  have hle11 := SlAt.le' (own_slAt (Mem.chunk M 3 rfl).inv)
  refine WL.step (v := g5) rfl (Step.assign rfl) ?_
  refine WL.nil ?_
  refine W.ret ?_
  refine ⟨.inl rfl, g5, ?_, ?_⟩
  · exact ⟨rfl, (Res.r1 (show RV _ _ _ (.tmp 4) g5 from by exact rfl))⟩
  refine ⟨g5, v6, ?_, M.close [0, 1, 3] rfl (by decide) trivial⟩
  rfl
end Go.Proofs
