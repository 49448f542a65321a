/- Walks. -/
import Derived.Test.YtlehkjkpgmkbiaaTrC4
set_option maxRecDepth 100000
set_option linter.all false
namespace Go.Proofs
open Go Tp
theorem Try.el4 : Elem Try.prog 4 (Value.bool false) 1 1 := Elem.mk (by kernel_rfl)
theorem Try.el22 : Elem Try.prog 22 (Value.slice none 0 0) 1 24 := Elem.mk (by kernel_rfl)
theorem Try.en20 : Enters Try.prog 20 := fun _ _ => by kernel_rfl
theorem Try.en21 : Enters Try.prog 21 := fun _ _ => by kernel_rfl
theorem Try.en26 : Enters Try.prog 26 := fun _ _ => by kernel_rfl
theorem Try.en82 : Enters Try.prog 82 := fun _ _ => by kernel_rfl

theorem ch_next {G : Nat → Prop} {w : World} (cb : Nat) (v : Value) (xs : List Ver) (e : Int)   (M : Mem G (fun _ => False) w [] [(fun w => w.heap[cb]? = some (.cells #[v] 135)), SlAt 6 v xs.length (xs.flatMap verE)] w) : Rets Try.prog 26 #[(Value.pointer (some ⟨cb, 0, none⟩)), (Value.int .u64 e)] w fun r w' => r = (Value.tuple #[(Value.agg #[(Value.int .u64 (((nextV xs e).1).epoch)), (Value.bool (((nextV xs e).1).dead)), (Value.int .i64 (((nextV xs e).1).agg.count)), (Value.int .i64 (((nextV xs e).1).agg.sum)), (Value.int .i64 (((nextV xs e).1).agg.min)), (Value.int .i64 (((nextV xs e).1).agg.max))]), (Value.bool ((nextV xs e).2))]) ∧ Mem G (fun _ => False) w [] [] w' := by
  refine Rets.enterD 18 _ Try.func26 rfl Try.ntmps26 Try.results26 (by simp) ?_
  have hle1 := SlAt.le' (M.rep 1 rfl)
  have sl2 : IsSl v := SlAt.isSl (Mem.rep M 1 rfl)
  refine W.seq' ?_
  refine W.region rfl ?_
  refine WL.box (v := (Value.int .u64 e)) (c := #[(Value.int .u64 e)]) M rfl rfl rfl (fun b3 w4 hb3 M => ?_)
  refine WL.alloc (c := #[(Value.int .u64 0), (Value.bool false), (Value.int .i64 0), (Value.int .i64 0), (Value.int .i64 0), (Value.int .i64 0)]) M rfl Try.el34.zero rfl (fun b5 w6 hb5 M => ?_)
  refine WL.alloc (c := #[(Value.bool false)]) M rfl Try.el4.zero rfl (fun b7 w8 hb7 M => ?_)
  refine WL.nil ?_
  refine W.seq' ?_
  refine W.seq' ?_
  refine W.region rfl ?_
  refine WL.step (v := (Value.pointer (some ⟨cb, 0, none⟩))) rfl (Step.move rfl) ?_
  refine WL.callX rfl (ch_all cb (M.enterW0 trivial)) (CallsF.func Try.en81 rfl) ?_
  rintro _ w10 ⟨pb9, rfl, m⟩
  replace M := M.leaveW0 m
  clear m
  replace M : Mem _ _ _ [blk pb9 (.cells #[(Value.pointer (some ⟨cb, 0, none⟩))] 26), blk b7 (.cells #[(Value.bool false)] 4), blk b5 (.cells #[(Value.int .u64 0), (Value.bool false), (Value.int .i64 0), (Value.int .i64 0), (Value.int .i64 0), (Value.int .i64 0)] 34), blk b3 (.cells #[(Value.int .u64 e)] 23)] [(fun w => w.heap[cb]? = some (.cells #[v] 135)), SlAt 6 v xs.length (xs.flatMap verE)] _ := M
  refine WL.nil ?_
  refine W.block ?_
  replace M := M.addProp (p := ∀ (j : Nat) (u : Ver), j < 0 → xs[j]? = some u → (fun v : Ver => decide (v.epoch > e)) u = false) (fun _ _ h => absurd h (Nat.not_lt_zero _))
  replace M : Mem _ _ _ [propC (∀ (j : Nat) (u : Ver), j < 0 → xs[j]? = some u → (fun v : Ver => decide (v.epoch > e)) u = false), blk pb9 (.cells #[(Value.pointer (some ⟨cb, 0, none⟩))] 26), blk b7 (.cells #[(Value.bool false)] 4), blk b5 (.cells #[(Value.int .u64 0), (Value.bool false), (Value.int .i64 0), (Value.int .i64 0), (Value.int .i64 0), (Value.int .i64 0)] 34), blk b3 (.cells #[(Value.int .u64 e)] 23)] [(fun w => w.heap[cb]? = some (.cells #[v] 135)), SlAt 6 v xs.length (xs.flatMap verE)] _ := M
  refine W.range M rfl rfl rfl Try.en124 (fun D12 lp13 w14 LC11 hLC15 _ _ M => ?_)
  replace M := M.sel (L' := [(LC11 LoopState.ready none), propC (∀ (j : Nat) (u : Ver), j < 0 → xs[j]? = some u → (fun v : Ver => decide (v.epoch > e)) u = false), blk b5 (.cells #[(Value.int .u64 0), (Value.bool false), (Value.int .i64 0), (Value.int .i64 0), (Value.int .i64 0), (Value.int .i64 0)] 34), blk b7 (.cells #[(Value.bool false)] 4), blk b3 (.cells #[(Value.int .u64 e)] 23), blk D12 (.deferred (some [])), blk pb9 (.cells #[(Value.pointer (some ⟨cb, 0, none⟩))] 26)]) [0, 2, 5, 4, 6, 1, 3] rfl (by decide)
  replace M := Mem.packL (Ls := [(LC11 LoopState.ready none), propC (∀ (j : Nat) (u : Ver), j < 0 → xs[j]? = some u → (fun v : Ver => decide (v.epoch > e)) u = false), blk b5 (.cells #[(Value.int .u64 0), (Value.bool false), (Value.int .i64 0), (Value.int .i64 0), (Value.int .i64 0), (Value.int .i64 0)] 34), blk b7 (.cells #[(Value.bool false)] 4), blk b3 (.cells #[(Value.int .u64 e)] 23)]) (L := [blk D12 (.deferred (some [])), blk pb9 (.cells #[(Value.pointer (some ⟨cb, 0, none⟩))] 26)]) M
  refine Rets.mono (ch_all1 _ pb9 cb v xs (ι := Ver) (fun (k : Nat) (i : Ver) => packL ([(LC11 LoopState.ready none), propC (∀ (j : Nat) (u : Ver), j < k → xs[j]? = some u → (fun v : Ver => decide (v.epoch > e)) u = false), blk b5 (.cells #[(Value.int .u64 0), (Value.bool false), (Value.int .i64 0), (Value.int .i64 0), (Value.int .i64 0), (Value.int .i64 0)] 34), blk b7 (.cells #[(Value.bool false)] 4), blk b3 (.cells #[(Value.int .u64 e)] 23)])) (fun (k : Nat) (i : Ver) => packL ([(LC11 LoopState.done (some Code.ret)), propC (nextV xs e = (i, true)), blk b5 (.cells #[(Value.int .u64 i.epoch), (Value.bool i.dead), (Value.int .i64 i.agg.count), (Value.int .i64 i.agg.sum), (Value.int .i64 i.agg.min), (Value.int .i64 i.agg.max)] 34), blk b7 (.cells #[(Value.bool true)] 4), blk b3 (.cells #[(Value.int .u64 e)] 23)])) verZ (fun _ => True) ?_ (M.enterW (C := [packL ([(LC11 LoopState.ready none), propC (∀ (j : Nat) (u : Ver), j < 0 → xs[j]? = some u → (fun v : Ver => decide (v.epoch > e)) u = false), blk b5 (.cells #[(Value.int .u64 0), (Value.bool false), (Value.int .i64 0), (Value.int .i64 0), (Value.int .i64 0), (Value.int .i64 0)] 34), blk b7 (.cells #[(Value.bool false)] 4), blk b3 (.cells #[(Value.int .u64 e)] 23)])]) (D := [blk D12 (.deferred (some [])), blk pb9 (.cells #[(Value.pointer (some ⟨cb, 0, none⟩))] 26)]) [0, 1, 2] rfl (by decide) ⟨(M.wideC (C := [packL ([(LC11 LoopState.ready none), propC (∀ (j : Nat) (u : Ver), j < 0 → xs[j]? = some u → (fun v : Ver => decide (v.epoch > e)) u = false), blk b5 (.cells #[(Value.int .u64 0), (Value.bool false), (Value.int .i64 0), (Value.int .i64 0), (Value.int .i64 0), (Value.int .i64 0)] 34), blk b7 (.cells #[(Value.bool false)] 4), blk b3 (.cells #[(Value.int .u64 e)] 23)])]) (D := [blk D12 (.deferred (some [])), blk pb9 (.cells #[(Value.pointer (some ⟨cb, 0, none⟩))] 26)]) [0, 1, 2] rfl (by decide) 1 rfl), (M.wideR (C := [packL ([(LC11 LoopState.ready none), propC (∀ (j : Nat) (u : Ver), j < 0 → xs[j]? = some u → (fun v : Ver => decide (v.epoch > e)) u = false), blk b5 (.cells #[(Value.int .u64 0), (Value.bool false), (Value.int .i64 0), (Value.int .i64 0), (Value.int .i64 0), (Value.int .i64 0)] 34), blk b7 (.cells #[(Value.bool false)] 4), blk b3 (.cells #[(Value.int .u64 e)] 23)])]) (D := [blk D12 (.deferred (some [])), blk pb9 (.cells #[(Value.pointer (some ⟨cb, 0, none⟩))] 26)]) [0, 1, 2] rfl 0 rfl), (M.wideR (C := [packL ([(LC11 LoopState.ready none), propC (∀ (j : Nat) (u : Ver), j < 0 → xs[j]? = some u → (fun v : Ver => decide (v.epoch > e)) u = false), blk b5 (.cells #[(Value.int .u64 0), (Value.bool false), (Value.int .i64 0), (Value.int .i64 0), (Value.int .i64 0), (Value.int .i64 0)] 34), blk b7 (.cells #[(Value.bool false)] 4), blk b3 (.cells #[(Value.int .u64 e)] 23)])]) (D := [blk D12 (.deferred (some [])), blk pb9 (.cells #[(Value.pointer (some ⟨cb, 0, none⟩))] 26)]) [0, 1, 2] rfl 1 rfl), (Sh.pure fun _ => trivial), trivial⟩)) ?_
  ·
    rintro k_ z_ x_ w16 hx_ m17
    have M := Mem.unpackL (L := []) m17
    replace M : Mem _ _ _ [(LC11 LoopState.ready none), propC (∀ (j : Nat) (u : Ver), j < k_ → xs[j]? = some u → (fun v : Ver => decide (v.epoch > e)) u = false), blk b5 (.cells #[(Value.int .u64 0), (Value.bool false), (Value.int .i64 0), (Value.int .i64 0), (Value.int .i64 0), (Value.int .i64 0)] 34), blk b7 (.cells #[(Value.bool false)] 4), blk b3 (.cells #[(Value.int .u64 e)] 23)] [(fun _ => True)] _ := M
    refine RetsV.yieldM hLC15 M 0 rfl [(Value.int .i64 ↑k_), (Value.agg #[(Value.int .u64 x_.epoch), (Value.bool x_.dead), (Value.int .i64 x_.agg.count), (Value.int .i64 x_.agg.sum), (Value.int .i64 x_.agg.min), (Value.int .i64 x_.agg.max)])] rfl (by decide) ?_
    refine W.region rfl ?_
    refine WL.alloc (c := #[(Value.int .u64 0), (Value.bool false), (Value.int .i64 0), (Value.int .i64 0), (Value.int .i64 0), (Value.int .i64 0)]) M rfl Try.el34.zero rfl (fun b18 w19 hb18 M => ?_)
    refine WL.store (v := (Value.agg #[(Value.int .u64 x_.epoch), (Value.bool x_.dead), (Value.int .i64 x_.agg.count), (Value.int .i64 x_.agg.sum), (Value.int .i64 x_.agg.min), (Value.int .i64 x_.agg.max)])) (cs := [(Value.int .u64 x_.epoch), (Value.bool x_.dead), (Value.int .i64 x_.agg.count), (Value.int .i64 x_.agg.sum), (Value.int .i64 x_.agg.min), (Value.int .i64 x_.agg.max)]) (c' := #[(Value.int .u64 x_.epoch), (Value.bool x_.dead), (Value.int .i64 x_.agg.count), (Value.int .i64 x_.agg.sum), (Value.int .i64 x_.agg.min), (Value.int .i64 x_.agg.max)]) M 0 rfl rfl Try.el34.sized rfl rfl rfl rfl (Nat.le_of_ble_eq_true rfl) (cel_cons rfl (cel_cons rfl (cel_cons rfl (cel_cons rfl (cel_cons rfl (cel_cons rfl cel_nil)))))) rfl rfl (fun w20 M => ?_)
    refine WL.nil ?_
    repeat (with_reducible first | refine inBlk_normal ?_ | refine inBlk_ret ?_ | refine thn_ret ?_)
    refine RoundA.go hLC15 M 1 rfl (fun w21 M => ?_)
    replace M : Mem _ _ _ [blk b18 (.cells #[(Value.int .u64 x_.epoch), (Value.bool x_.dead), (Value.int .i64 x_.agg.count), (Value.int .i64 x_.agg.sum), (Value.int .i64 x_.agg.min), (Value.int .i64 x_.agg.max)] 34), (LC11 LoopState.busy none), propC (∀ (j : Nat) (u : Ver), j < k_ → xs[j]? = some u → (fun v : Ver => decide (v.epoch > e)) u = false), blk b5 (.cells #[(Value.int .u64 0), (Value.bool false), (Value.int .i64 0), (Value.int .i64 0), (Value.int .i64 0), (Value.int .i64 0)] 34), blk b7 (.cells #[(Value.bool false)] 4), blk b3 (.cells #[(Value.int .u64 e)] 23)] [(fun _ => True)] _ := M
    refine W.block ?_
    refine W.seq' ?_
    refine W.region rfl ?_
    refine WL.step (v := (Value.pointer (some ⟨b18, 0, none⟩))) rfl (Step.pure (by kernel_rfl)) ?_
    refine WL.step (v := (Value.int .u64 x_.epoch)) rfl (Step.load1 Try.sc23 rfl ((M.cell 0 rfl 0).trans rfl)) ?_
    refine WL.step (v := (Value.int .u64 e)) rfl (Step.load1 Try.sc23 rfl ((M.cell 5 rfl 0).trans rfl)) ?_
    refine WL.step (v := (Value.bool (decide ((x_.epoch : Int) > (e : Int))))) rfl (Step.pure (by kernel_rfl)) ?_
    refine WL.nil ?_
    refine W.cond (t := decide ((x_.epoch : Int) > (e : Int))) rfl (fun h22 => ?_) (fun h22 => ?_)
    ·
      have h22p := of_decide_eq_true h22
      refine W.seq' ?_
      refine W.region rfl ?_
      refine WL.step (v := (Value.agg #[(Value.int .u64 x_.epoch), (Value.bool x_.dead), (Value.int .i64 x_.agg.count), (Value.int .i64 x_.agg.sum), (Value.int .i64 x_.agg.min), (Value.int .i64 x_.agg.max)])) rfl (Step.loadN Try.ag34 rfl (M.blk 0 rfl) (Nat.le_of_ble_eq_true rfl) rfl) ?_
      refine WL.store (v := (Value.agg #[(Value.int .u64 x_.epoch), (Value.bool x_.dead), (Value.int .i64 x_.agg.count), (Value.int .i64 x_.agg.sum), (Value.int .i64 x_.agg.min), (Value.int .i64 x_.agg.max)])) (cs := [(Value.int .u64 x_.epoch), (Value.bool x_.dead), (Value.int .i64 x_.agg.count), (Value.int .i64 x_.agg.sum), (Value.int .i64 x_.agg.min), (Value.int .i64 x_.agg.max)]) (c' := #[(Value.int .u64 x_.epoch), (Value.bool x_.dead), (Value.int .i64 x_.agg.count), (Value.int .i64 x_.agg.sum), (Value.int .i64 x_.agg.min), (Value.int .i64 x_.agg.max)]) M 3 rfl rfl Try.el34.sized rfl rfl rfl rfl (Nat.le_of_ble_eq_true rfl) (cel_cons rfl (cel_cons rfl (cel_cons rfl (cel_cons rfl (cel_cons rfl (cel_cons rfl cel_nil)))))) rfl rfl (fun w23 M => ?_)
      refine WL.store (v := (Value.bool true)) (cs := [(Value.bool true)]) (c' := #[(Value.bool true)]) M 4 rfl rfl Try.el4.sized rfl rfl rfl rfl (Nat.le_of_ble_eq_true rfl) (cel_cons rfl cel_nil) rfl rfl (fun w24 M => ?_)
      refine WL.nil ?_
      refine W.ret ?_
      repeat (with_reducible first | refine inBlk_normal ?_ | refine inBlk_ret ?_ | refine thn_ret ?_)
      refine RoundQ.stop hLC15 M 1 rfl (fun w25 M => ?_)
      replace M : Mem _ _ _ [blk b18 (.cells #[(Value.int .u64 x_.epoch), (Value.bool x_.dead), (Value.int .i64 x_.agg.count), (Value.int .i64 x_.agg.sum), (Value.int .i64 x_.agg.min), (Value.int .i64 x_.agg.max)] 34), (LC11 LoopState.done (some Code.ret)), propC (∀ (j : Nat) (u : Ver), j < k_ → xs[j]? = some u → (fun v : Ver => decide (v.epoch > e)) u = false), blk b5 (.cells #[(Value.int .u64 x_.epoch), (Value.bool x_.dead), (Value.int .i64 x_.agg.count), (Value.int .i64 x_.agg.sum), (Value.int .i64 x_.agg.min), (Value.int .i64 x_.agg.max)] 34), blk b7 (.cells #[(Value.bool true)] 4), blk b3 (.cells #[(Value.int .u64 e)] 23)] [(fun _ => True)] _ := M
      replace M := M.addProp (p := nextV xs e = (x_, true)) (firstV_hit hx_ h22 (M.chunk 2 rfl).inv)
      replace M : Mem _ _ _ [propC (nextV xs e = (x_, true)), blk b18 (.cells #[(Value.int .u64 x_.epoch), (Value.bool x_.dead), (Value.int .i64 x_.agg.count), (Value.int .i64 x_.agg.sum), (Value.int .i64 x_.agg.min), (Value.int .i64 x_.agg.max)] 34), (LC11 LoopState.done (some Code.ret)), propC (∀ (j : Nat) (u : Ver), j < k_ → xs[j]? = some u → (fun v : Ver => decide (v.epoch > e)) u = false), blk b5 (.cells #[(Value.int .u64 x_.epoch), (Value.bool x_.dead), (Value.int .i64 x_.agg.count), (Value.int .i64 x_.agg.sum), (Value.int .i64 x_.agg.min), (Value.int .i64 x_.agg.max)] 34), blk b7 (.cells #[(Value.bool true)] 4), blk b3 (.cells #[(Value.int .u64 e)] 23)] [(fun _ => True)] _ := M
      refine .inr ⟨rfl, x_, ?_⟩
      exact Mem.packL (Ls := [(LC11 LoopState.done (some Code.ret)), propC (nextV xs e = (x_, true)), blk b5 (.cells #[(Value.int .u64 x_.epoch), (Value.bool x_.dead), (Value.int .i64 x_.agg.count), (Value.int .i64 x_.agg.sum), (Value.int .i64 x_.agg.min), (Value.int .i64 x_.agg.max)] 34), blk b7 (.cells #[(Value.bool true)] 4), blk b3 (.cells #[(Value.int .u64 e)] 23)]) (L := []) (M.close (L' := [(LC11 LoopState.done (some Code.ret)), propC (nextV xs e = (x_, true)), blk b5 (.cells #[(Value.int .u64 x_.epoch), (Value.bool x_.dead), (Value.int .i64 x_.agg.count), (Value.int .i64 x_.agg.sum), (Value.int .i64 x_.agg.min), (Value.int .i64 x_.agg.max)] 34), blk b7 (.cells #[(Value.bool true)] 4), blk b3 (.cells #[(Value.int .u64 e)] 23)]) [2, 0, 4, 5, 6] rfl (by decide) trivial)
    ·
      have h22p := of_decide_eq_false h22
      refine W.skip ?_
      repeat (with_reducible first | refine inBlk_normal ?_ | refine inBlk_ret ?_ | refine thn_ret ?_)
      refine RoundQ.go hLC15 M 1 rfl (fun w26 M => ?_)
      replace M : Mem _ _ _ [blk b18 (.cells #[(Value.int .u64 x_.epoch), (Value.bool x_.dead), (Value.int .i64 x_.agg.count), (Value.int .i64 x_.agg.sum), (Value.int .i64 x_.agg.min), (Value.int .i64 x_.agg.max)] 34), (LC11 LoopState.ready none), propC (∀ (j : Nat) (u : Ver), j < k_ → xs[j]? = some u → (fun v : Ver => decide (v.epoch > e)) u = false), blk b5 (.cells #[(Value.int .u64 0), (Value.bool false), (Value.int .i64 0), (Value.int .i64 0), (Value.int .i64 0), (Value.int .i64 0)] 34), blk b7 (.cells #[(Value.bool false)] 4), blk b3 (.cells #[(Value.int .u64 e)] 23)] [(fun _ => True)] _ := M
      replace M := M.addProp (p := ∀ (j : Nat) (u : Ver), j < k_ + 1 → xs[j]? = some u → (fun v : Ver => decide (v.epoch > e)) u = false) (below_stepG (M.chunk 2 rfl).inv hx_ h22)
      replace M : Mem _ _ _ [propC (∀ (j : Nat) (u : Ver), j < k_ + 1 → xs[j]? = some u → (fun v : Ver => decide (v.epoch > e)) u = false), blk b18 (.cells #[(Value.int .u64 x_.epoch), (Value.bool x_.dead), (Value.int .i64 x_.agg.count), (Value.int .i64 x_.agg.sum), (Value.int .i64 x_.agg.min), (Value.int .i64 x_.agg.max)] 34), (LC11 LoopState.ready none), propC (∀ (j : Nat) (u : Ver), j < k_ → xs[j]? = some u → (fun v : Ver => decide (v.epoch > e)) u = false), blk b5 (.cells #[(Value.int .u64 0), (Value.bool false), (Value.int .i64 0), (Value.int .i64 0), (Value.int .i64 0), (Value.int .i64 0)] 34), blk b7 (.cells #[(Value.bool false)] 4), blk b3 (.cells #[(Value.int .u64 e)] 23)] [(fun _ => True)] _ := M
      refine .inl ⟨rfl, z_, ?_⟩
      exact Mem.packL (Ls := [(LC11 LoopState.ready none), propC (∀ (j : Nat) (u : Ver), j < k_ + 1 → xs[j]? = some u → (fun v : Ver => decide (v.epoch > e)) u = false), blk b5 (.cells #[(Value.int .u64 0), (Value.bool false), (Value.int .i64 0), (Value.int .i64 0), (Value.int .i64 0), (Value.int .i64 0)] 34), blk b7 (.cells #[(Value.bool false)] 4), blk b3 (.cells #[(Value.int .u64 e)] 23)]) (L := []) (M.close (L' := [(LC11 LoopState.ready none), propC (∀ (j : Nat) (u : Ver), j < k_ + 1 → xs[j]? = some u → (fun v : Ver => decide (v.epoch > e)) u = false), blk b5 (.cells #[(Value.int .u64 0), (Value.bool false), (Value.int .i64 0), (Value.int .i64 0), (Value.int .i64 0), (Value.int .i64 0)] 34), blk b7 (.cells #[(Value.bool false)] 4), blk b3 (.cells #[(Value.int .u64 e)] 23)]) [2, 0, 4, 5, 6] rfl (by decide) trivial)
  ·
    rintro _ w27 (⟨z_, m⟩ | ⟨k_, z_, x_, hx_, m⟩)
    ·
      replace M := M.leaveW (C := [packL ([(LC11 LoopState.ready none), propC (∀ (j : Nat) (u : Ver), j < 0 → xs[j]? = some u → (fun v : Ver => decide (v.epoch > e)) u = false), blk b5 (.cells #[(Value.int .u64 0), (Value.bool false), (Value.int .i64 0), (Value.int .i64 0), (Value.int .i64 0), (Value.int .i64 0)] 34), blk b7 (.cells #[(Value.bool false)] 4), blk b3 (.cells #[(Value.int .u64 e)] 23)])]) (D := [blk D12 (.deferred (some [])), blk pb9 (.cells #[(Value.pointer (some ⟨cb, 0, none⟩))] 26)]) [0, 1, 2] rfl (by decide) m
      replace M : Mem _ _ _ [packL ([(LC11 LoopState.ready none), propC (∀ (j : Nat) (u : Ver), j < xs.length → xs[j]? = some u → (fun v : Ver => decide (v.epoch > e)) u = false), blk b5 (.cells #[(Value.int .u64 0), (Value.bool false), (Value.int .i64 0), (Value.int .i64 0), (Value.int .i64 0), (Value.int .i64 0)] 34), blk b7 (.cells #[(Value.bool false)] 4), blk b3 (.cells #[(Value.int .u64 e)] 23)]), blk D12 (.deferred (some [])), blk pb9 (.cells #[(Value.pointer (some ⟨cb, 0, none⟩))] 26)] [(fun w => w.heap[cb]? = some (.cells #[v] 135)), SlAt 6 v xs.length (xs.flatMap verE)] _ := M
      replace M := Mem.unpackL M
      replace M : Mem _ _ _ [(LC11 LoopState.ready none), propC (∀ (j : Nat) (u : Ver), j < xs.length → xs[j]? = some u → (fun v : Ver => decide (v.epoch > e)) u = false), blk b5 (.cells #[(Value.int .u64 0), (Value.bool false), (Value.int .i64 0), (Value.int .i64 0), (Value.int .i64 0), (Value.int .i64 0)] 34), blk b7 (.cells #[(Value.bool false)] 4), blk b3 (.cells #[(Value.int .u64 e)] 23), blk D12 (.deferred (some [])), blk pb9 (.cells #[(Value.pointer (some ⟨cb, 0, none⟩))] 26)] [(fun w => w.heap[cb]? = some (.cells #[v] 135)), SlAt 6 v xs.length (xs.flatMap verE)] _ := M
      obtain ⟨_, hr1, hr2, hr3, M⟩ := M.endLoop' hLC15 0 rfl (by decide)
      refine ⟨_, hr1, hr2, .inl ⟨hr3, ?_⟩⟩
      replace M : Mem _ _ _ [propC (∀ (j : Nat) (u : Ver), j < xs.length → xs[j]? = some u → (fun v : Ver => decide (v.epoch > e)) u = false), blk b5 (.cells #[(Value.int .u64 0), (Value.bool false), (Value.int .i64 0), (Value.int .i64 0), (Value.int .i64 0), (Value.int .i64 0)] 34), blk b7 (.cells #[(Value.bool false)] 4), blk b3 (.cells #[(Value.int .u64 e)] 23), blk D12 (.deferred (some [])), blk pb9 (.cells #[(Value.pointer (some ⟨cb, 0, none⟩))] 26)] [(fun w => w.heap[cb]? = some (.cells #[v] 135)), SlAt 6 v xs.length (xs.flatMap verE)] _ := M
      have hz : nextV xs e = (verZ, false) := firstV_none (M.chunk 0 rfl).inv (Nat.le_refl _)
      refine W.seq' ?_
      refine W.region rfl ?_
      refine WL.step (v := (Value.agg #[(Value.int .u64 0), (Value.bool false), (Value.int .i64 0), (Value.int .i64 0), (Value.int .i64 0), (Value.int .i64 0)])) rfl (Step.pure (by kernel_rfl)) ?_
      refine WL.store (v := (Value.agg #[(Value.int .u64 0), (Value.bool false), (Value.int .i64 0), (Value.int .i64 0), (Value.int .i64 0), (Value.int .i64 0)])) (cs := [(Value.int .u64 0), (Value.bool false), (Value.int .i64 0), (Value.int .i64 0), (Value.int .i64 0), (Value.int .i64 0)]) (c' := #[(Value.int .u64 0), (Value.bool false), (Value.int .i64 0), (Value.int .i64 0), (Value.int .i64 0), (Value.int .i64 0)]) M 1 rfl rfl Try.el34.sized rfl rfl rfl rfl (Nat.le_of_ble_eq_true rfl) (cel_cons rfl (cel_cons rfl (cel_cons rfl (cel_cons rfl (cel_cons rfl (cel_cons rfl cel_nil)))))) rfl rfl (fun w29 M => ?_)
      refine WL.store (v := (Value.bool false)) (cs := [(Value.bool false)]) (c' := #[(Value.bool false)]) M 2 rfl rfl Try.el4.sized rfl rfl rfl rfl (Nat.le_of_ble_eq_true rfl) (cel_cons rfl cel_nil) rfl rfl (fun w30 M => ?_)
      refine WL.nil ?_
      refine W.ret ?_
      obtain ⟨hD31, M⟩ := M.strike 4 rfl
      replace M : Mem _ _ _ [propC (∀ (j : Nat) (u : Ver), j < xs.length → xs[j]? = some u → (fun v : Ver => decide (v.epoch > e)) u = false), blk b5 (.cells #[(Value.int .u64 0), (Value.bool false), (Value.int .i64 0), (Value.int .i64 0), (Value.int .i64 0), (Value.int .i64 0)] 34), blk b7 (.cells #[(Value.bool false)] 4), blk b3 (.cells #[(Value.int .u64 e)] 23), blk pb9 (.cells #[(Value.pointer (some ⟨cb, 0, none⟩))] 26)] [(fun w => w.heap[cb]? = some (.cells #[v] 135)), SlAt 6 v xs.length (xs.flatMap verE)] _ := M
      refine ⟨.inl rfl, _, (.cons hD31 .nil), (Value.tuple #[(Value.agg #[(Value.int .u64 0), (Value.bool false), (Value.int .i64 0), (Value.int .i64 0), (Value.int .i64 0), (Value.int .i64 0)]), (Value.bool false)]), ?_, ?_⟩
      · exact (Res.r2 (RV.cellN Try.ag34 rfl (M.blk 1 rfl) rfl) (RV.cell1 Try.sc4 rfl (M.blk 2 rfl)))
      refine ⟨?_, M.close [] rfl (by decide) trivial⟩
      rw [hz]
      try rfl
    ·
      replace M := M.leaveW (C := [packL ([(LC11 LoopState.ready none), propC (∀ (j : Nat) (u : Ver), j < 0 → xs[j]? = some u → (fun v : Ver => decide (v.epoch > e)) u = false), blk b5 (.cells #[(Value.int .u64 0), (Value.bool false), (Value.int .i64 0), (Value.int .i64 0), (Value.int .i64 0), (Value.int .i64 0)] 34), blk b7 (.cells #[(Value.bool false)] 4), blk b3 (.cells #[(Value.int .u64 e)] 23)])]) (D := [blk D12 (.deferred (some [])), blk pb9 (.cells #[(Value.pointer (some ⟨cb, 0, none⟩))] 26)]) [0, 1, 2] rfl (by decide) m
      replace M : Mem _ _ _ [packL ([(LC11 LoopState.done (some Code.ret)), propC (nextV xs e = (z_, true)), blk b5 (.cells #[(Value.int .u64 z_.epoch), (Value.bool z_.dead), (Value.int .i64 z_.agg.count), (Value.int .i64 z_.agg.sum), (Value.int .i64 z_.agg.min), (Value.int .i64 z_.agg.max)] 34), blk b7 (.cells #[(Value.bool true)] 4), blk b3 (.cells #[(Value.int .u64 e)] 23)]), blk D12 (.deferred (some [])), blk pb9 (.cells #[(Value.pointer (some ⟨cb, 0, none⟩))] 26)] [(fun w => w.heap[cb]? = some (.cells #[v] 135)), SlAt 6 v xs.length (xs.flatMap verE)] _ := M
      replace M := Mem.unpackL M
      replace M : Mem _ _ _ [(LC11 LoopState.done (some Code.ret)), propC (nextV xs e = (z_, true)), blk b5 (.cells #[(Value.int .u64 z_.epoch), (Value.bool z_.dead), (Value.int .i64 z_.agg.count), (Value.int .i64 z_.agg.sum), (Value.int .i64 z_.agg.min), (Value.int .i64 z_.agg.max)] 34), blk b7 (.cells #[(Value.bool true)] 4), blk b3 (.cells #[(Value.int .u64 e)] 23), blk D12 (.deferred (some [])), blk pb9 (.cells #[(Value.pointer (some ⟨cb, 0, none⟩))] 26)] [(fun w => w.heap[cb]? = some (.cells #[v] 135)), SlAt 6 v xs.length (xs.flatMap verE)] _ := M
      obtain ⟨_, hr1, hr2, hr3, M⟩ := M.endLoop' hLC15 0 rfl (by decide)
      refine ⟨_, hr1, hr2, .inr ⟨hr3, ?_⟩⟩
      replace M : Mem _ _ _ [propC (nextV xs e = (z_, true)), blk b5 (.cells #[(Value.int .u64 z_.epoch), (Value.bool z_.dead), (Value.int .i64 z_.agg.count), (Value.int .i64 z_.agg.sum), (Value.int .i64 z_.agg.min), (Value.int .i64 z_.agg.max)] 34), blk b7 (.cells #[(Value.bool true)] 4), blk b3 (.cells #[(Value.int .u64 e)] 23), blk D12 (.deferred (some [])), blk pb9 (.cells #[(Value.pointer (some ⟨cb, 0, none⟩))] 26)] [(fun w => w.heap[cb]? = some (.cells #[v] 135)), SlAt 6 v xs.length (xs.flatMap verE)] _ := M
      obtain ⟨hD33, M⟩ := M.strike 4 rfl
      replace M : Mem _ _ _ [propC (nextV xs e = (z_, true)), blk b5 (.cells #[(Value.int .u64 z_.epoch), (Value.bool z_.dead), (Value.int .i64 z_.agg.count), (Value.int .i64 z_.agg.sum), (Value.int .i64 z_.agg.min), (Value.int .i64 z_.agg.max)] 34), blk b7 (.cells #[(Value.bool true)] 4), blk b3 (.cells #[(Value.int .u64 e)] 23), blk pb9 (.cells #[(Value.pointer (some ⟨cb, 0, none⟩))] 26)] [(fun w => w.heap[cb]? = some (.cells #[v] 135)), SlAt 6 v xs.length (xs.flatMap verE)] _ := M
      refine ⟨.inl rfl, _, (.cons hD33 .nil), (Value.tuple #[(Value.agg #[(Value.int .u64 z_.epoch), (Value.bool z_.dead), (Value.int .i64 z_.agg.count), (Value.int .i64 z_.agg.sum), (Value.int .i64 z_.agg.min), (Value.int .i64 z_.agg.max)]), (Value.bool true)]), ?_, ?_⟩
      · exact (Res.r2 (RV.cellN Try.ag34 rfl (M.blk 1 rfl) rfl) (RV.cell1 Try.sc4 rfl (M.blk 2 rfl)))
      refine ⟨?_, M.close [] rfl (by decide) trivial⟩
      have hz : nextV xs e = (z_, true) := (M.chunk 0 rfl).inv
      rw [hz]
      try rfl

theorem ch_garb1 {G : Nat → Prop} {w : World} (cb : Nat) (v : Value) (xs : List Ver) (f : Int) (u : Ver)  (hne : 0 < xs.length) (M : Mem G (fun _ => False) w [] [(fun w => w.heap[cb]? = some (.cells #[v] 135)), SlAt 6 v xs.length (xs.flatMap verE)] w) : Rets Try.prog 82 #[(Value.agg #[(Value.pointer (some ⟨cb, 0, none⟩)), (Value.int .u64 f)]), (Value.agg #[(Value.int .u64 u.epoch), (Value.bool u.dead), (Value.int .i64 u.agg.count), (Value.int .i64 u.agg.sum), (Value.int .i64 u.agg.min), (Value.int .i64 u.agg.max)])] w fun r w' => r = (Value.bool (garbV xs u f)) ∧ Mem G (fun _ => False) w [] [] w' := by
  refine Rets.enter 49 _ Try.func82 rfl Try.ntmps82 Try.results82 (by simp) ?_
  have hle1 := SlAt.le' (M.rep 1 rfl)
  have sl2 : IsSl v := SlAt.isSl (Mem.rep M 1 rfl)
  refine W.seq' ?_
  refine W.region rfl ?_
  refine WL.box (v := (Value.agg #[(Value.pointer (some ⟨cb, 0, none⟩)), (Value.int .u64 f)])) (c := #[(Value.pointer (some ⟨cb, 0, none⟩)), (Value.int .u64 f)]) M rfl rfl rfl (fun b3 w4 hb3 M => ?_)
  refine WL.box (v := (Value.agg #[(Value.int .u64 u.epoch), (Value.bool u.dead), (Value.int .i64 u.agg.count), (Value.int .i64 u.agg.sum), (Value.int .i64 u.agg.min), (Value.int .i64 u.agg.max)])) (c := #[(Value.int .u64 u.epoch), (Value.bool u.dead), (Value.int .i64 u.agg.count), (Value.int .i64 u.agg.sum), (Value.int .i64 u.agg.min), (Value.int .i64 u.agg.max)]) M rfl rfl rfl (fun b5 w6 hb5 M => ?_)
  refine WL.step (v := (Value.bool false)) rfl (Step.assign rfl) ?_
  refine WL.nil ?_
  refine W.seq' ?_
  refine W.region rfl ?_
  refine WL.step (v := (Value.pointer (some ⟨b3, 0, none⟩))) rfl (Step.pure (by kernel_rfl)) ?_
  refine WL.step (v := (Value.pointer (some ⟨cb, 0, none⟩))) rfl (Step.load1 Try.sc26 rfl ((M.cell 1 rfl 0).trans rfl)) ?_
  refine WL.step (v := (Value.pointer (some ⟨b5, 0, none⟩))) rfl (Step.pure (by kernel_rfl)) ?_
  refine WL.step (v := (Value.int .u64 u.epoch)) rfl (Step.load1 Try.sc23 rfl ((M.cell 0 rfl 0).trans rfl)) ?_
  refine WL.callX rfl (ch_next cb v xs u.epoch (M.enterW0 ⟨(M.wideR0 0 rfl), (M.wideR0 1 rfl), trivial⟩)) (CallsF.func Try.en26 rfl) ?_
  rintro _ w7 ⟨rfl, m⟩
  replace M := M.leaveW0 m
  clear m
  replace M : Mem _ _ _ [blk b5 (.cells #[(Value.int .u64 u.epoch), (Value.bool u.dead), (Value.int .i64 u.agg.count), (Value.int .i64 u.agg.sum), (Value.int .i64 u.agg.min), (Value.int .i64 u.agg.max)] 34), blk b3 (.cells #[(Value.pointer (some ⟨cb, 0, none⟩)), (Value.int .u64 f)] 140)] [(fun w => w.heap[cb]? = some (.cells #[v] 135)), SlAt 6 v xs.length (xs.flatMap verE)] _ := M
  refine WL.step (v := (Value.tuple #[(Value.agg #[(Value.int .u64 (((nextV xs u.epoch).1).epoch)), (Value.bool (((nextV xs u.epoch).1).dead)), (Value.int .i64 (((nextV xs u.epoch).1).agg.count)), (Value.int .i64 (((nextV xs u.epoch).1).agg.sum)), (Value.int .i64 (((nextV xs u.epoch).1).agg.min)), (Value.int .i64 (((nextV xs u.epoch).1).agg.max))]), (Value.bool ((nextV xs u.epoch).2))])) rfl (Step.move rfl) ?_
  refine WL.step (v := (Value.agg #[(Value.int .u64 (((nextV xs u.epoch).1).epoch)), (Value.bool (((nextV xs u.epoch).1).dead)), (Value.int .i64 (((nextV xs u.epoch).1).agg.count)), (Value.int .i64 (((nextV xs u.epoch).1).agg.sum)), (Value.int .i64 (((nextV xs u.epoch).1).agg.min)), (Value.int .i64 (((nextV xs u.epoch).1).agg.max))])) rfl (Step.pure (by kernel_rfl)) ?_
  refine WL.step (v := (Value.bool ((nextV xs u.epoch).2))) rfl (Step.pure (by kernel_rfl)) ?_
  refine WL.alloc (c := #[(Value.int .u64 0), (Value.bool false), (Value.int .i64 0), (Value.int .i64 0), (Value.int .i64 0), (Value.int .i64 0)]) M rfl Try.el34.zero rfl (fun b8 w9 hb8 M => ?_)
  refine WL.store (v := (Value.agg #[(Value.int .u64 (((nextV xs u.epoch).1).epoch)), (Value.bool (((nextV xs u.epoch).1).dead)), (Value.int .i64 (((nextV xs u.epoch).1).agg.count)), (Value.int .i64 (((nextV xs u.epoch).1).agg.sum)), (Value.int .i64 (((nextV xs u.epoch).1).agg.min)), (Value.int .i64 (((nextV xs u.epoch).1).agg.max))])) (cs := [(Value.int .u64 (((nextV xs u.epoch).1).epoch)), (Value.bool (((nextV xs u.epoch).1).dead)), (Value.int .i64 (((nextV xs u.epoch).1).agg.count)), (Value.int .i64 (((nextV xs u.epoch).1).agg.sum)), (Value.int .i64 (((nextV xs u.epoch).1).agg.min)), (Value.int .i64 (((nextV xs u.epoch).1).agg.max))]) (c' := #[(Value.int .u64 (((nextV xs u.epoch).1).epoch)), (Value.bool (((nextV xs u.epoch).1).dead)), (Value.int .i64 (((nextV xs u.epoch).1).agg.count)), (Value.int .i64 (((nextV xs u.epoch).1).agg.sum)), (Value.int .i64 (((nextV xs u.epoch).1).agg.min)), (Value.int .i64 (((nextV xs u.epoch).1).agg.max))]) M 0 rfl rfl Try.el34.sized rfl rfl rfl rfl (Nat.le_of_ble_eq_true rfl) (cel_cons rfl (cel_cons rfl (cel_cons rfl (cel_cons rfl (cel_cons rfl (cel_cons rfl cel_nil)))))) rfl rfl (fun w10 M => ?_)
  refine WL.step (v := (Value.bool ((nextV xs u.epoch).2))) rfl (Step.assign rfl) ?_
  refine WL.nil ?_
  refine W.seq' ?_
  obtain ⟨cap12, hb11⟩ := SlAt.base (M.rep 1 rfl) (by omega)
  obtain ⟨x13, hx13⟩ := elem_of_lt (xs := xs) (i := 0) (by omega)
  refine W.drawn M [0, 1, 2, 3, 4, 5, 6, 7, 8, 9, 10, 11] [] [] [blk b8 (.cells #[(Value.int .u64 (((nextV xs u.epoch).1).epoch)), (Value.bool (((nextV xs u.epoch).1).dead)), (Value.int .i64 (((nextV xs u.epoch).1).agg.count)), (Value.int .i64 (((nextV xs u.epoch).1).agg.sum)), (Value.int .i64 (((nextV xs u.epoch).1).agg.min)), (Value.int .i64 (((nextV xs u.epoch).1).agg.max))] 34), blk b5 (.cells #[(Value.int .u64 u.epoch), (Value.bool u.dead), (Value.int .i64 u.agg.count), (Value.int .i64 u.agg.sum), (Value.int .i64 u.agg.min), (Value.int .i64 u.agg.max)] 34), blk b3 (.cells #[(Value.pointer (some ⟨cb, 0, none⟩)), (Value.int .u64 f)] 140)] [(fun w => w.heap[cb]? = some (.cells #[v] 135)), SlAt 6 v xs.length (xs.flatMap verE)] (List.Sublist.cons_cons _ (List.Sublist.cons_cons _ (List.Sublist.cons_cons _ List.Sublist.slnil))) (fun _ h => h) Try.mixed (by kernel_rfl) ?_
  refine TW.pure (v := (Value.pointer (some ⟨b3, 0, none⟩))) rfl (by decide) (by decide) rfl (fun w => (Step.pure (by kernel_rfl))) ?_
  refine TW.read (v := (Value.pointer (some ⟨cb, 0, none⟩))) rfl (by decide) (by decide) rfl (fun A w M => (Step.load1 Try.sc26 rfl ((M.cell 3 rfl 0).trans rfl))) ?_
  refine TW.pure (v := (Value.pointer (some ⟨cb, 0, none⟩))) rfl (by decide) (by decide) rfl (fun w => (Step.pure (by kernel_rfl))) ?_
  refine TW.pure (v := (Value.pointer (some ⟨cb, 0, none⟩))) rfl (by decide) (by decide) rfl (fun w => (Step.pure (by kernel_rfl))) ?_
  refine TW.read (v := v) rfl (by decide) (by decide) rfl (fun A w M => (Step.load1 Try.sc22 rfl ((cell_blk (M.rep 0 rfl) 0).trans rfl))) ?_
  refine TW.pure (v := (Value.pointer (some ⟨(sBlk v), sOff v + 0 * 6, none⟩))) rfl (by decide) (by decide) rfl (fun w => (Step.indexAddr (i := 0) (Try.un22).run Try.el34.sized rfl rfl rfl hb11 (by omega))) ?_
  refine TW.pure (v := (Value.pointer (some ⟨(sBlk v), sOff v + 0 * 6, none⟩))) rfl (by decide) (by decide) rfl (fun w => (Step.pure (by kernel_rfl))) ?_
  refine TW.read (v := (Value.int .u64 x13.epoch)) rfl (by decide) (by decide) rfl (fun A w M => (Step.loadE (k := 0) Try.sc23 (flat_ec (M.rep 1 rfl) hx13 verE_len) (by decide) rfl rfl)) ?_
  refine TW.pure (v := (Value.pointer (some ⟨b5, 0, none⟩))) rfl (by decide) (by decide) rfl (fun w => (Step.pure (by kernel_rfl))) ?_
  refine TW.read (v := (Value.int .u64 u.epoch)) rfl (by decide) (by decide) rfl (fun A w M => (Step.load1 Try.sc23 rfl ((M.cell 2 rfl 0).trans rfl))) ?_
  refine TW.pure (v := (Value.bool ((x13.epoch : Int) == (u.epoch : Int)))) rfl (by decide) (by decide) rfl (fun w => (Step.pure (by kernel_rfl))) ?_
  refine TW.pure (v := (Value.bool ((x13.epoch : Int) == (u.epoch : Int)))) rfl (by decide) (by decide) rfl (fun w => (Step.assign rfl)) ?_
  refine TW.done (fun w14 M => ?_)
  refine W.seq' ?_
  refine W.region rfl ?_
  refine WL.step (v := (Value.bool ((nextV xs u.epoch).2))) rfl (Step.move rfl) ?_
  refine WL.step (v := (Value.bool ((nextV xs u.epoch).2))) rfl (Step.move rfl) ?_
  rcases Bool.eq_false_or_eq_true ((nextV xs u.epoch).2) with h15 | h15
  ·
    rw [h15]
    refine WL.step (v := (Value.pointer (some ⟨b8, 0, none⟩))) rfl (Step.pure (by kernel_rfl)) ?_
    refine WL.step (v := (Value.int .u64 (((nextV xs u.epoch).1).epoch))) rfl (Step.load1 Try.sc23 rfl ((M.cell 0 rfl 0).trans rfl)) ?_
    refine WL.step (v := (Value.pointer (some ⟨b3, 1, none⟩))) rfl (Step.pure (by kernel_rfl)) ?_
    refine WL.step (v := (Value.int .u64 f)) rfl (Step.load1 Try.sc23 rfl ((M.cell 2 rfl 1).trans rfl)) ?_
    refine WL.step (v := (Value.bool (decide ((((nextV xs u.epoch).1).epoch : Int) ≤ (f : Int))))) rfl (Step.pure (by kernel_rfl)) ?_
    refine WL.step (v := (Value.bool (decide ((((nextV xs u.epoch).1).epoch : Int) ≤ (f : Int))))) rfl (Step.pick (t := true) rfl rfl) ?_
    refine WL.step (v := (Value.bool (decide ((((nextV xs u.epoch).1).epoch : Int) ≤ (f : Int))))) rfl (Step.move rfl) ?_
    rcases Bool.eq_false_or_eq_true (decide ((((nextV xs u.epoch).1).epoch : Int) ≤ (f : Int))) with h16 | h16
    ·
      have h16p := of_decide_eq_true h16
      rw [h16]
      refine WL.pass rfl ?_
      refine WL.pass rfl ?_
      refine WL.pass rfl ?_
      refine WL.pass rfl ?_
      refine WL.pass rfl ?_
      refine WL.pass rfl ?_
      refine WL.pass rfl ?_
      refine WL.pass rfl ?_
      refine WL.pass rfl ?_
      refine WL.pass rfl ?_
      refine WL.pass rfl ?_
      refine WL.pass rfl ?_
      refine WL.step (v := (Value.bool true)) rfl (Step.pick (t := true) rfl rfl) ?_
      refine WL.step (v := (Value.bool true)) rfl (Step.assign rfl) ?_
      refine WL.nil ?_
      refine W.ret ?_
      refine ⟨.inl rfl, (Value.bool true), ?_, ?_⟩
      · exact ⟨rfl, (Res.r1 (show RV _ _ _ (.tmp 4) (Value.bool true) from by exact rfl))⟩
      refine ⟨?_, M.close [] rfl (by decide) trivial⟩
      refine congrArg Value.bool ?_
      first | rfl | (simp [garbV, hx13, hx13, h15, h16p]; done) | (simp [garbV, hx13, hx13, h15, h16p]; omega) | (rw [Bool.eq_iff_iff]; simp [garbV, hx13, hx13, h15, h16p]; done) | (rw [Bool.eq_iff_iff]; simp [garbV, hx13, hx13, h15, h16p]; omega) | grind [garbV, hx13]
    ·
      have h16p := of_decide_eq_false h16
      rw [h16]
      refine WL.step (v := (Value.pointer (some ⟨b5, 1, none⟩))) rfl (Step.pure (by kernel_rfl)) ?_
      refine WL.step (v := (Value.bool u.dead)) rfl (Step.load1 Try.sc4 rfl ((M.cell 1 rfl 1).trans rfl)) ?_
      refine WL.step (v := (Value.bool u.dead)) rfl (Step.move rfl) ?_
      rcases Bool.eq_false_or_eq_true (u.dead) with h17 | h17
      ·
        rw [h17]
        refine WL.step (v := (Value.pointer (some ⟨b5, 0, none⟩))) rfl (Step.pure (by kernel_rfl)) ?_
        refine WL.step (v := (Value.int .u64 u.epoch)) rfl (Step.load1 Try.sc23 rfl ((M.cell 1 rfl 0).trans rfl)) ?_
        refine WL.step (v := (Value.pointer (some ⟨b3, 1, none⟩))) rfl (Step.pure (by kernel_rfl)) ?_
        refine WL.step (v := (Value.int .u64 f)) rfl (Step.load1 Try.sc23 rfl ((M.cell 2 rfl 1).trans rfl)) ?_
        refine WL.step (v := (Value.bool (decide ((u.epoch : Int) ≤ (f : Int))))) rfl (Step.pure (by kernel_rfl)) ?_
        refine WL.step (v := (Value.bool (decide ((u.epoch : Int) ≤ (f : Int))))) rfl (Step.pick (t := true) rfl rfl) ?_
        refine WL.step (v := (Value.bool (decide ((u.epoch : Int) ≤ (f : Int))))) rfl (Step.move rfl) ?_
        rcases Bool.eq_false_or_eq_true (decide ((u.epoch : Int) ≤ (f : Int))) with h18 | h18
        ·
          have h18p := of_decide_eq_true h18
          rw [h18]
          refine WL.step (v := (Value.bool ((x13.epoch : Int) == (u.epoch : Int)))) rfl (Step.move rfl) ?_
          refine WL.step (v := (Value.bool ((x13.epoch : Int) == (u.epoch : Int)))) rfl (Step.pick (t := true) rfl rfl) ?_
          refine WL.step (v := (Value.bool ((x13.epoch : Int) == (u.epoch : Int)))) rfl (Step.pick (t := false) rfl rfl) ?_
          refine WL.step (v := (Value.bool ((x13.epoch : Int) == (u.epoch : Int)))) rfl (Step.assign rfl) ?_
          refine WL.nil ?_
          refine W.ret ?_
          refine ⟨.inl rfl, (Value.bool ((x13.epoch : Int) == (u.epoch : Int))), ?_, ?_⟩
          · exact ⟨rfl, (Res.r1 (show RV _ _ _ (.tmp 4) (Value.bool ((x13.epoch : Int) == (u.epoch : Int))) from by exact rfl))⟩
          refine ⟨?_, M.close [] rfl (by decide) trivial⟩
          refine congrArg Value.bool ?_
          first | rfl | (simp [garbV, hx13, hx13, h15, h16p, h17, h18p]; done) | (simp [garbV, hx13, hx13, h15, h16p, h17, h18p]; omega) | (rw [Bool.eq_iff_iff]; simp [garbV, hx13, hx13, h15, h16p, h17, h18p]; done) | (rw [Bool.eq_iff_iff]; simp [garbV, hx13, hx13, h15, h16p, h17, h18p]; omega) | grind [garbV, hx13]
        ·
          have h18p := of_decide_eq_false h18
          rw [h18]
          refine WL.pass rfl ?_
          refine WL.step (v := (Value.bool false)) rfl (Step.pick (t := false) rfl rfl) ?_
          refine WL.step (v := (Value.bool false)) rfl (Step.pick (t := false) rfl rfl) ?_
          refine WL.step (v := (Value.bool false)) rfl (Step.assign rfl) ?_
          refine WL.nil ?_
          refine W.ret ?_
          refine ⟨.inl rfl, (Value.bool false), ?_, ?_⟩
          · exact ⟨rfl, (Res.r1 (show RV _ _ _ (.tmp 4) (Value.bool false) from by exact rfl))⟩
          refine ⟨?_, M.close [] rfl (by decide) trivial⟩
          refine congrArg Value.bool ?_
          first | rfl | (simp [garbV, hx13, hx13, h15, h16p, h17, h18p]; done) | (simp [garbV, hx13, hx13, h15, h16p, h17, h18p]; omega) | (rw [Bool.eq_iff_iff]; simp [garbV, hx13, hx13, h15, h16p, h17, h18p]; done) | (rw [Bool.eq_iff_iff]; simp [garbV, hx13, hx13, h15, h16p, h17, h18p]; omega) | grind [garbV, hx13]
      ·
        rw [h17]
        refine WL.pass rfl ?_
        refine WL.pass rfl ?_
        refine WL.pass rfl ?_
        refine WL.pass rfl ?_
        refine WL.pass rfl ?_
        refine WL.step (v := (Value.bool false)) rfl (Step.pick (t := false) rfl rfl) ?_
        refine WL.step (v := (Value.bool false)) rfl (Step.move rfl) ?_
        refine WL.pass rfl ?_
        refine WL.step (v := (Value.bool false)) rfl (Step.pick (t := false) rfl rfl) ?_
        refine WL.step (v := (Value.bool false)) rfl (Step.pick (t := false) rfl rfl) ?_
        refine WL.step (v := (Value.bool false)) rfl (Step.assign rfl) ?_
        refine WL.nil ?_
        refine W.ret ?_
        refine ⟨.inl rfl, (Value.bool false), ?_, ?_⟩
        · exact ⟨rfl, (Res.r1 (show RV _ _ _ (.tmp 4) (Value.bool false) from by exact rfl))⟩
        refine ⟨?_, M.close [] rfl (by decide) trivial⟩
        refine congrArg Value.bool ?_
        first | rfl | (simp [garbV, hx13, hx13, h15, h16p, h17]; done) | (simp [garbV, hx13, hx13, h15, h16p, h17]; omega) | (rw [Bool.eq_iff_iff]; simp [garbV, hx13, hx13, h15, h16p, h17]; done) | (rw [Bool.eq_iff_iff]; simp [garbV, hx13, hx13, h15, h16p, h17]; omega) | grind [garbV, hx13]
  ·
    rw [h15]
    refine WL.pass rfl ?_
    refine WL.pass rfl ?_
    refine WL.pass rfl ?_
    refine WL.pass rfl ?_
    refine WL.pass rfl ?_
    refine WL.step (v := (Value.bool false)) rfl (Step.pick (t := false) rfl rfl) ?_
    refine WL.step (v := (Value.bool false)) rfl (Step.move rfl) ?_
    refine WL.step (v := (Value.pointer (some ⟨b5, 1, none⟩))) rfl (Step.pure (by kernel_rfl)) ?_
    refine WL.step (v := (Value.bool u.dead)) rfl (Step.load1 Try.sc4 rfl ((M.cell 1 rfl 1).trans rfl)) ?_
    refine WL.step (v := (Value.bool u.dead)) rfl (Step.move rfl) ?_
    rcases Bool.eq_false_or_eq_true (u.dead) with h19 | h19
    ·
      rw [h19]
      refine WL.step (v := (Value.pointer (some ⟨b5, 0, none⟩))) rfl (Step.pure (by kernel_rfl)) ?_
      refine WL.step (v := (Value.int .u64 u.epoch)) rfl (Step.load1 Try.sc23 rfl ((M.cell 1 rfl 0).trans rfl)) ?_
      refine WL.step (v := (Value.pointer (some ⟨b3, 1, none⟩))) rfl (Step.pure (by kernel_rfl)) ?_
      refine WL.step (v := (Value.int .u64 f)) rfl (Step.load1 Try.sc23 rfl ((M.cell 2 rfl 1).trans rfl)) ?_
      refine WL.step (v := (Value.bool (decide ((u.epoch : Int) ≤ (f : Int))))) rfl (Step.pure (by kernel_rfl)) ?_
      refine WL.step (v := (Value.bool (decide ((u.epoch : Int) ≤ (f : Int))))) rfl (Step.pick (t := true) rfl rfl) ?_
      refine WL.step (v := (Value.bool (decide ((u.epoch : Int) ≤ (f : Int))))) rfl (Step.move rfl) ?_
      rcases Bool.eq_false_or_eq_true (decide ((u.epoch : Int) ≤ (f : Int))) with h20 | h20
      ·
        have h20p := of_decide_eq_true h20
        rw [h20]
        refine WL.step (v := (Value.bool ((x13.epoch : Int) == (u.epoch : Int)))) rfl (Step.move rfl) ?_
        refine WL.step (v := (Value.bool ((x13.epoch : Int) == (u.epoch : Int)))) rfl (Step.pick (t := true) rfl rfl) ?_
        refine WL.step (v := (Value.bool ((x13.epoch : Int) == (u.epoch : Int)))) rfl (Step.pick (t := false) rfl rfl) ?_
        refine WL.step (v := (Value.bool ((x13.epoch : Int) == (u.epoch : Int)))) rfl (Step.assign rfl) ?_
        refine WL.nil ?_
        refine W.ret ?_
        refine ⟨.inl rfl, (Value.bool ((x13.epoch : Int) == (u.epoch : Int))), ?_, ?_⟩
        · exact ⟨rfl, (Res.r1 (show RV _ _ _ (.tmp 4) (Value.bool ((x13.epoch : Int) == (u.epoch : Int))) from by exact rfl))⟩
        refine ⟨?_, M.close [] rfl (by decide) trivial⟩
        refine congrArg Value.bool ?_
        first | rfl | (simp [garbV, hx13, hx13, h15, h19, h20p]; done) | (simp [garbV, hx13, hx13, h15, h19, h20p]; omega) | (rw [Bool.eq_iff_iff]; simp [garbV, hx13, hx13, h15, h19, h20p]; done) | (rw [Bool.eq_iff_iff]; simp [garbV, hx13, hx13, h15, h19, h20p]; omega) | grind [garbV, hx13]
      ·
        have h20p := of_decide_eq_false h20
        rw [h20]
        refine WL.pass rfl ?_
        refine WL.step (v := (Value.bool false)) rfl (Step.pick (t := false) rfl rfl) ?_
        refine WL.step (v := (Value.bool false)) rfl (Step.pick (t := false) rfl rfl) ?_
        refine WL.step (v := (Value.bool false)) rfl (Step.assign rfl) ?_
        refine WL.nil ?_
        refine W.ret ?_
        refine ⟨.inl rfl, (Value.bool false), ?_, ?_⟩
        · exact ⟨rfl, (Res.r1 (show RV _ _ _ (.tmp 4) (Value.bool false) from by exact rfl))⟩
        refine ⟨?_, M.close [] rfl (by decide) trivial⟩
        refine congrArg Value.bool ?_
        first | rfl | (simp [garbV, hx13, hx13, h15, h19, h20p]; done) | (simp [garbV, hx13, hx13, h15, h19, h20p]; omega) | (rw [Bool.eq_iff_iff]; simp [garbV, hx13, hx13, h15, h19, h20p]; done) | (rw [Bool.eq_iff_iff]; simp [garbV, hx13, hx13, h15, h19, h20p]; omega) | grind [garbV, hx13]
    ·
      rw [h19]
      refine WL.pass rfl ?_
      refine WL.pass rfl ?_
      refine WL.pass rfl ?_
      refine WL.pass rfl ?_
      refine WL.pass rfl ?_
      refine WL.step (v := (Value.bool false)) rfl (Step.pick (t := false) rfl rfl) ?_
      refine WL.step (v := (Value.bool false)) rfl (Step.move rfl) ?_
      refine WL.pass rfl ?_
      refine WL.step (v := (Value.bool false)) rfl (Step.pick (t := false) rfl rfl) ?_
      refine WL.step (v := (Value.bool false)) rfl (Step.pick (t := false) rfl rfl) ?_
      refine WL.step (v := (Value.bool false)) rfl (Step.assign rfl) ?_
      refine WL.nil ?_
      refine W.ret ?_
      refine ⟨.inl rfl, (Value.bool false), ?_, ?_⟩
      · exact ⟨rfl, (Res.r1 (show RV _ _ _ (.tmp 4) (Value.bool false) from by exact rfl))⟩
      refine ⟨?_, M.close [] rfl (by decide) trivial⟩
      refine congrArg Value.bool ?_
      first | rfl | (simp [garbV, hx13, hx13, h15, h19]; done) | (simp [garbV, hx13, hx13, h15, h19]; omega) | (rw [Bool.eq_iff_iff]; simp [garbV, hx13, hx13, h15, h19]; done) | (rw [Bool.eq_iff_iff]; simp [garbV, hx13, hx13, h15, h19]; omega) | grind [garbV, hx13]

theorem ch_garb {G : Nat → Prop} {w : World} (cb : Nat) (v : Value) (xs : List Ver) (e : Int) (f : Int)   (M : Mem G (fun _ => False) w [] [(fun w => w.heap[cb]? = some (.cells #[v] 135)), SlAt 6 v xs.length (xs.flatMap verE)] w) : Rets Try.prog 18 #[(Value.pointer (some ⟨cb, 0, none⟩)), (Value.int .u64 e), (Value.int .u64 f)] w fun r w' => r = (Value.bool (garb xs e f)) ∧ Mem G (fun _ => False) w [] [] w' := by
  refine Rets.enterD 22 _ Try.func18 rfl Try.ntmps18 Try.results18 (by simp) ?_
  have hle1 := SlAt.le' (M.rep 1 rfl)
  have sl2 : IsSl v := SlAt.isSl (Mem.rep M 1 rfl)
  refine W.seq' ?_
  refine W.region rfl ?_
  refine WL.box (v := (Value.pointer (some ⟨cb, 0, none⟩))) (c := #[(Value.pointer (some ⟨cb, 0, none⟩))]) M rfl rfl rfl (fun b3 w4 hb3 M => ?_)
  refine WL.box (v := (Value.int .u64 e)) (c := #[(Value.int .u64 e)]) M rfl rfl rfl (fun b5 w6 hb5 M => ?_)
  refine WL.box (v := (Value.int .u64 f)) (c := #[(Value.int .u64 f)]) M rfl rfl rfl (fun b7 w8 hb7 M => ?_)
  refine WL.alloc (c := #[(Value.bool false)]) M rfl Try.el4.zero rfl (fun b9 w10 hb9 M => ?_)
  refine WL.nil ?_
  refine W.seq' ?_
  refine W.seq' ?_
  refine W.region rfl ?_
  refine WL.step (v := (Value.pointer (some ⟨cb, 0, none⟩))) rfl (Step.load1 Try.sc26 rfl ((M.cell 3 rfl 0).trans rfl)) ?_
  refine WL.callX rfl (ch_all cb (M.enterW0 trivial)) (CallsF.func Try.en81 rfl) ?_
  rintro _ w12 ⟨pb11, rfl, m⟩
  replace M := M.leaveW0 m
  clear m
  replace M : Mem _ _ _ [blk pb11 (.cells #[(Value.pointer (some ⟨cb, 0, none⟩))] 26), blk b9 (.cells #[(Value.bool false)] 4), blk b7 (.cells #[(Value.int .u64 f)] 23), blk b5 (.cells #[(Value.int .u64 e)] 23), blk b3 (.cells #[(Value.pointer (some ⟨cb, 0, none⟩))] 26)] [(fun w => w.heap[cb]? = some (.cells #[v] 135)), SlAt 6 v xs.length (xs.flatMap verE)] _ := M
  refine WL.nil ?_
  refine W.block ?_
  replace M := M.addProp (p := ∀ (j : Nat) (u : Ver), j < 0 → xs[j]? = some u → (fun v : Ver => v.epoch == e) u = false) (fun _ _ h => absurd h (Nat.not_lt_zero _))
  replace M : Mem _ _ _ [propC (∀ (j : Nat) (u : Ver), j < 0 → xs[j]? = some u → (fun v : Ver => v.epoch == e) u = false), blk pb11 (.cells #[(Value.pointer (some ⟨cb, 0, none⟩))] 26), blk b9 (.cells #[(Value.bool false)] 4), blk b7 (.cells #[(Value.int .u64 f)] 23), blk b5 (.cells #[(Value.int .u64 e)] 23), blk b3 (.cells #[(Value.pointer (some ⟨cb, 0, none⟩))] 26)] [(fun w => w.heap[cb]? = some (.cells #[v] 135)), SlAt 6 v xs.length (xs.flatMap verE)] _ := M
  refine W.range M rfl rfl rfl Try.en124 (fun D14 lp15 w16 LC13 hLC17 _ _ M => ?_)
  replace M := M.sel (L' := [(LC13 LoopState.ready none), propC (∀ (j : Nat) (u : Ver), j < 0 → xs[j]? = some u → (fun v : Ver => v.epoch == e) u = false), blk b9 (.cells #[(Value.bool false)] 4), blk b3 (.cells #[(Value.pointer (some ⟨cb, 0, none⟩))] 26), blk b5 (.cells #[(Value.int .u64 e)] 23), blk b7 (.cells #[(Value.int .u64 f)] 23), blk D14 (.deferred (some [])), blk pb11 (.cells #[(Value.pointer (some ⟨cb, 0, none⟩))] 26)]) [0, 2, 4, 7, 6, 5, 1, 3] rfl (by decide)
  replace M := Mem.packL (Ls := [(LC13 LoopState.ready none), propC (∀ (j : Nat) (u : Ver), j < 0 → xs[j]? = some u → (fun v : Ver => v.epoch == e) u = false), blk b9 (.cells #[(Value.bool false)] 4), blk b3 (.cells #[(Value.pointer (some ⟨cb, 0, none⟩))] 26), blk b5 (.cells #[(Value.int .u64 e)] 23), blk b7 (.cells #[(Value.int .u64 f)] 23)]) (L := [blk D14 (.deferred (some [])), blk pb11 (.cells #[(Value.pointer (some ⟨cb, 0, none⟩))] 26)]) M
  refine Rets.mono (ch_all1 _ pb11 cb v xs (ι := Bool) (fun (k : Nat) (i : Bool) => packL ([(LC13 LoopState.ready none), propC (∀ (j : Nat) (u : Ver), j < k → xs[j]? = some u → (fun v : Ver => v.epoch == e) u = false), blk b9 (.cells #[(Value.bool false)] 4), blk b3 (.cells #[(Value.pointer (some ⟨cb, 0, none⟩))] 26), blk b5 (.cells #[(Value.int .u64 e)] 23), blk b7 (.cells #[(Value.int .u64 f)] 23)])) (fun (k : Nat) (i : Bool) => packL ([(LC13 LoopState.done (some Code.ret)), propC (garb xs e f = i), blk b9 (.cells #[(Value.bool i)] 4), blk b3 (.cells #[(Value.pointer (some ⟨cb, 0, none⟩))] 26), blk b5 (.cells #[(Value.int .u64 e)] 23), blk b7 (.cells #[(Value.int .u64 f)] 23)])) false (fun w => (fun w => w.heap[cb]? = some (.cells #[v] 135)) w ∧ (SlAt 6 v xs.length (xs.flatMap verE)) w) ?_ (M.enterW (C := [packL ([(LC13 LoopState.ready none), propC (∀ (j : Nat) (u : Ver), j < 0 → xs[j]? = some u → (fun v : Ver => v.epoch == e) u = false), blk b9 (.cells #[(Value.bool false)] 4), blk b3 (.cells #[(Value.pointer (some ⟨cb, 0, none⟩))] 26), blk b5 (.cells #[(Value.int .u64 e)] 23), blk b7 (.cells #[(Value.int .u64 f)] 23)])]) (D := [blk D14 (.deferred (some [])), blk pb11 (.cells #[(Value.pointer (some ⟨cb, 0, none⟩))] 26)]) [0, 1, 2] rfl (by decide) ⟨(M.wideC (C := [packL ([(LC13 LoopState.ready none), propC (∀ (j : Nat) (u : Ver), j < 0 → xs[j]? = some u → (fun v : Ver => v.epoch == e) u = false), blk b9 (.cells #[(Value.bool false)] 4), blk b3 (.cells #[(Value.pointer (some ⟨cb, 0, none⟩))] 26), blk b5 (.cells #[(Value.int .u64 e)] 23), blk b7 (.cells #[(Value.int .u64 f)] 23)])]) (D := [blk D14 (.deferred (some [])), blk pb11 (.cells #[(Value.pointer (some ⟨cb, 0, none⟩))] 26)]) [0, 1, 2] rfl (by decide) 1 rfl), (M.wideR (C := [packL ([(LC13 LoopState.ready none), propC (∀ (j : Nat) (u : Ver), j < 0 → xs[j]? = some u → (fun v : Ver => v.epoch == e) u = false), blk b9 (.cells #[(Value.bool false)] 4), blk b3 (.cells #[(Value.pointer (some ⟨cb, 0, none⟩))] 26), blk b5 (.cells #[(Value.int .u64 e)] 23), blk b7 (.cells #[(Value.int .u64 f)] 23)])]) (D := [blk D14 (.deferred (some [])), blk pb11 (.cells #[(Value.pointer (some ⟨cb, 0, none⟩))] 26)]) [0, 1, 2] rfl 0 rfl), (M.wideR (C := [packL ([(LC13 LoopState.ready none), propC (∀ (j : Nat) (u : Ver), j < 0 → xs[j]? = some u → (fun v : Ver => v.epoch == e) u = false), blk b9 (.cells #[(Value.bool false)] 4), blk b3 (.cells #[(Value.pointer (some ⟨cb, 0, none⟩))] 26), blk b5 (.cells #[(Value.int .u64 e)] 23), blk b7 (.cells #[(Value.int .u64 f)] 23)])]) (D := [blk D14 (.deferred (some [])), blk pb11 (.cells #[(Value.pointer (some ⟨cb, 0, none⟩))] 26)]) [0, 1, 2] rfl 1 rfl), ((M.wideR (C := [packL ([(LC13 LoopState.ready none), propC (∀ (j : Nat) (u : Ver), j < 0 → xs[j]? = some u → (fun v : Ver => v.epoch == e) u = false), blk b9 (.cells #[(Value.bool false)] 4), blk b3 (.cells #[(Value.pointer (some ⟨cb, 0, none⟩))] 26), blk b5 (.cells #[(Value.int .u64 e)] 23), blk b7 (.cells #[(Value.int .u64 f)] 23)])]) (D := [blk D14 (.deferred (some [])), blk pb11 (.cells #[(Value.pointer (some ⟨cb, 0, none⟩))] 26)]) [0, 1, 2] rfl 0 rfl).and (M.wideR (C := [packL ([(LC13 LoopState.ready none), propC (∀ (j : Nat) (u : Ver), j < 0 → xs[j]? = some u → (fun v : Ver => v.epoch == e) u = false), blk b9 (.cells #[(Value.bool false)] 4), blk b3 (.cells #[(Value.pointer (some ⟨cb, 0, none⟩))] 26), blk b5 (.cells #[(Value.int .u64 e)] 23), blk b7 (.cells #[(Value.int .u64 f)] 23)])]) (D := [blk D14 (.deferred (some [])), blk pb11 (.cells #[(Value.pointer (some ⟨cb, 0, none⟩))] 26)]) [0, 1, 2] rfl 1 rfl)), trivial⟩)) ?_
  ·
    rintro k_ b_ x_ w18 hx_ m19
    have M := Mem.unpackL (L := []) m19
    replace M : Mem _ _ _ [(LC13 LoopState.ready none), propC (∀ (j : Nat) (u : Ver), j < k_ → xs[j]? = some u → (fun v : Ver => v.epoch == e) u = false), blk b9 (.cells #[(Value.bool false)] 4), blk b3 (.cells #[(Value.pointer (some ⟨cb, 0, none⟩))] 26), blk b5 (.cells #[(Value.int .u64 e)] 23), blk b7 (.cells #[(Value.int .u64 f)] 23)] [(fun w => (fun w => w.heap[cb]? = some (.cells #[v] 135)) w ∧ (SlAt 6 v xs.length (xs.flatMap verE)) w)] _ := M
    refine RetsV.yieldM hLC17 M 0 rfl [(Value.int .i64 ↑k_), (Value.agg #[(Value.int .u64 x_.epoch), (Value.bool x_.dead), (Value.int .i64 x_.agg.count), (Value.int .i64 x_.agg.sum), (Value.int .i64 x_.agg.min), (Value.int .i64 x_.agg.max)])] rfl (by decide) ?_
    replace M := (M.add_imp 0 rfl (r' := SlAt 6 v xs.length (xs.flatMap verE)) (fun _ h => h.2)).add_imp 1 rfl (r' := fun w => w.heap[cb]? = some (.cells #[v] 135)) (fun _ h => h.1)
    replace M : Mem _ _ _ [(LC13 LoopState.ready none), propC (∀ (j : Nat) (u : Ver), j < k_ → xs[j]? = some u → (fun v : Ver => v.epoch == e) u = false), blk b9 (.cells #[(Value.bool false)] 4), blk b3 (.cells #[(Value.pointer (some ⟨cb, 0, none⟩))] 26), blk b5 (.cells #[(Value.int .u64 e)] 23), blk b7 (.cells #[(Value.int .u64 f)] 23)] [(fun w => w.heap[cb]? = some (.cells #[v] 135)), SlAt 6 v xs.length (xs.flatMap verE), (fun w => (fun w => w.heap[cb]? = some (.cells #[v] 135)) w ∧ (SlAt 6 v xs.length (xs.flatMap verE)) w)] _ := M
    have hlt_ := (List.getElem?_eq_some_iff.1 hx_).1
    refine W.region rfl ?_
    refine WL.alloc (c := #[(Value.int .u64 0), (Value.bool false), (Value.int .i64 0), (Value.int .i64 0), (Value.int .i64 0), (Value.int .i64 0)]) M rfl Try.el34.zero rfl (fun b20 w21 hb20 M => ?_)
    refine WL.store (v := (Value.agg #[(Value.int .u64 x_.epoch), (Value.bool x_.dead), (Value.int .i64 x_.agg.count), (Value.int .i64 x_.agg.sum), (Value.int .i64 x_.agg.min), (Value.int .i64 x_.agg.max)])) (cs := [(Value.int .u64 x_.epoch), (Value.bool x_.dead), (Value.int .i64 x_.agg.count), (Value.int .i64 x_.agg.sum), (Value.int .i64 x_.agg.min), (Value.int .i64 x_.agg.max)]) (c' := #[(Value.int .u64 x_.epoch), (Value.bool x_.dead), (Value.int .i64 x_.agg.count), (Value.int .i64 x_.agg.sum), (Value.int .i64 x_.agg.min), (Value.int .i64 x_.agg.max)]) M 0 rfl rfl Try.el34.sized rfl rfl rfl rfl (Nat.le_of_ble_eq_true rfl) (cel_cons rfl (cel_cons rfl (cel_cons rfl (cel_cons rfl (cel_cons rfl (cel_cons rfl cel_nil)))))) rfl rfl (fun w22 M => ?_)
    refine WL.nil ?_
    repeat (with_reducible first | refine inBlk_normal ?_ | refine inBlk_ret ?_ | refine thn_ret ?_)
    refine RoundA.go hLC17 M 1 rfl (fun w23 M => ?_)
    replace M : Mem _ _ _ [blk b20 (.cells #[(Value.int .u64 x_.epoch), (Value.bool x_.dead), (Value.int .i64 x_.agg.count), (Value.int .i64 x_.agg.sum), (Value.int .i64 x_.agg.min), (Value.int .i64 x_.agg.max)] 34), (LC13 LoopState.busy none), propC (∀ (j : Nat) (u : Ver), j < k_ → xs[j]? = some u → (fun v : Ver => v.epoch == e) u = false), blk b9 (.cells #[(Value.bool false)] 4), blk b3 (.cells #[(Value.pointer (some ⟨cb, 0, none⟩))] 26), blk b5 (.cells #[(Value.int .u64 e)] 23), blk b7 (.cells #[(Value.int .u64 f)] 23)] [(fun w => w.heap[cb]? = some (.cells #[v] 135)), SlAt 6 v xs.length (xs.flatMap verE), (fun w => (fun w => w.heap[cb]? = some (.cells #[v] 135)) w ∧ (SlAt 6 v xs.length (xs.flatMap verE)) w)] _ := M
    refine W.block ?_
    refine W.seq' ?_
    refine W.region rfl ?_
    refine WL.step (v := (Value.pointer (some ⟨b20, 0, none⟩))) rfl (Step.pure (by kernel_rfl)) ?_
    refine WL.step (v := (Value.int .u64 x_.epoch)) rfl (Step.load1 Try.sc23 rfl ((M.cell 0 rfl 0).trans rfl)) ?_
    refine WL.step (v := (Value.int .u64 e)) rfl (Step.load1 Try.sc23 rfl ((M.cell 5 rfl 0).trans rfl)) ?_
    refine WL.step (v := (Value.bool ((x_.epoch : Int) == (e : Int)))) rfl (Step.pure (by kernel_rfl)) ?_
    refine WL.nil ?_
    refine W.cond (t := (x_.epoch : Int) == (e : Int)) rfl (fun h24 => ?_) (fun h24 => ?_)
    ·
      have h24p : (x_.epoch : Int) = (e : Int) := by simpa using h24
      refine W.seq' ?_
      refine W.region rfl ?_
      refine WL.step (v := (Value.pointer (some ⟨cb, 0, none⟩))) rfl (Step.load1 Try.sc26 rfl ((M.cell 4 rfl 0).trans rfl)) ?_
      refine WL.step (v := (Value.int .u64 f)) rfl (Step.load1 Try.sc23 rfl ((M.cell 6 rfl 0).trans rfl)) ?_
      refine WL.step (v := (Value.agg #[(Value.pointer (some ⟨cb, 0, none⟩)), (Value.int .u64 f)])) rfl (Step.pure (by kernel_rfl)) ?_
      refine WL.step (v := (Value.agg #[(Value.int .u64 x_.epoch), (Value.bool x_.dead), (Value.int .i64 x_.agg.count), (Value.int .i64 x_.agg.sum), (Value.int .i64 x_.agg.min), (Value.int .i64 x_.agg.max)])) rfl (Step.loadN Try.ag34 rfl (M.blk 0 rfl) (Nat.le_of_ble_eq_true rfl) rfl) ?_
      refine WL.callX rfl (ch_garb1 cb v xs f x_ (by omega) (M.enterW0 ⟨(M.wideR0 0 rfl), (M.wideR0 1 rfl), trivial⟩)) (CallsF.func Try.en82 rfl) ?_
      rintro _ w25 ⟨rfl, m⟩
      replace M := M.leaveW0 m
      clear m
      replace M : Mem _ _ _ [blk b20 (.cells #[(Value.int .u64 x_.epoch), (Value.bool x_.dead), (Value.int .i64 x_.agg.count), (Value.int .i64 x_.agg.sum), (Value.int .i64 x_.agg.min), (Value.int .i64 x_.agg.max)] 34), (LC13 LoopState.busy none), propC (∀ (j : Nat) (u : Ver), j < k_ → xs[j]? = some u → (fun v : Ver => v.epoch == e) u = false), blk b9 (.cells #[(Value.bool false)] 4), blk b3 (.cells #[(Value.pointer (some ⟨cb, 0, none⟩))] 26), blk b5 (.cells #[(Value.int .u64 e)] 23), blk b7 (.cells #[(Value.int .u64 f)] 23)] [(fun w => w.heap[cb]? = some (.cells #[v] 135)), SlAt 6 v xs.length (xs.flatMap verE), (fun w => (fun w => w.heap[cb]? = some (.cells #[v] 135)) w ∧ (SlAt 6 v xs.length (xs.flatMap verE)) w)] _ := M
      refine WL.store (v := (Value.bool (garbV xs x_ f))) (cs := [(Value.bool (garbV xs x_ f))]) (c' := #[(Value.bool (garbV xs x_ f))]) M 3 rfl rfl Try.el4.sized rfl rfl rfl rfl (Nat.le_of_ble_eq_true rfl) (cel_cons rfl cel_nil) rfl rfl (fun w26 M => ?_)
      refine WL.nil ?_
      refine W.ret ?_
      repeat (with_reducible first | refine inBlk_normal ?_ | refine inBlk_ret ?_ | refine thn_ret ?_)
      refine RoundQ.stop hLC17 M 1 rfl (fun w27 M => ?_)
      replace M : Mem _ _ _ [blk b20 (.cells #[(Value.int .u64 x_.epoch), (Value.bool x_.dead), (Value.int .i64 x_.agg.count), (Value.int .i64 x_.agg.sum), (Value.int .i64 x_.agg.min), (Value.int .i64 x_.agg.max)] 34), (LC13 LoopState.done (some Code.ret)), propC (∀ (j : Nat) (u : Ver), j < k_ → xs[j]? = some u → (fun v : Ver => v.epoch == e) u = false), blk b9 (.cells #[(Value.bool (garbV xs x_ f))] 4), blk b3 (.cells #[(Value.pointer (some ⟨cb, 0, none⟩))] 26), blk b5 (.cells #[(Value.int .u64 e)] 23), blk b7 (.cells #[(Value.int .u64 f)] 23)] [(fun w => w.heap[cb]? = some (.cells #[v] 135)), SlAt 6 v xs.length (xs.flatMap verE), (fun w => (fun w => w.heap[cb]? = some (.cells #[v] 135)) w ∧ (SlAt 6 v xs.length (xs.flatMap verE)) w)] _ := M
      replace M := M.addProp (p := garb xs e f = garbV xs x_ f) (by unfold garb; rw [firstV_hit hx_ h24 (M.chunk 2 rfl).inv]; simp)
      replace M : Mem _ _ _ [propC (garb xs e f = garbV xs x_ f), blk b20 (.cells #[(Value.int .u64 x_.epoch), (Value.bool x_.dead), (Value.int .i64 x_.agg.count), (Value.int .i64 x_.agg.sum), (Value.int .i64 x_.agg.min), (Value.int .i64 x_.agg.max)] 34), (LC13 LoopState.done (some Code.ret)), propC (∀ (j : Nat) (u : Ver), j < k_ → xs[j]? = some u → (fun v : Ver => v.epoch == e) u = false), blk b9 (.cells #[(Value.bool (garbV xs x_ f))] 4), blk b3 (.cells #[(Value.pointer (some ⟨cb, 0, none⟩))] 26), blk b5 (.cells #[(Value.int .u64 e)] 23), blk b7 (.cells #[(Value.int .u64 f)] 23)] [(fun w => w.heap[cb]? = some (.cells #[v] 135)), SlAt 6 v xs.length (xs.flatMap verE), (fun w => (fun w => w.heap[cb]? = some (.cells #[v] 135)) w ∧ (SlAt 6 v xs.length (xs.flatMap verE)) w)] _ := M
      refine .inr ⟨rfl, garbV xs x_ f, ?_⟩
      exact Mem.packL (Ls := [(LC13 LoopState.done (some Code.ret)), propC (garb xs e f = garbV xs x_ f), blk b9 (.cells #[(Value.bool (garbV xs x_ f))] 4), blk b3 (.cells #[(Value.pointer (some ⟨cb, 0, none⟩))] 26), blk b5 (.cells #[(Value.int .u64 e)] 23), blk b7 (.cells #[(Value.int .u64 f)] 23)]) (L := []) (M.close (L' := [(LC13 LoopState.done (some Code.ret)), propC (garb xs e f = garbV xs x_ f), blk b9 (.cells #[(Value.bool (garbV xs x_ f))] 4), blk b3 (.cells #[(Value.pointer (some ⟨cb, 0, none⟩))] 26), blk b5 (.cells #[(Value.int .u64 e)] 23), blk b7 (.cells #[(Value.int .u64 f)] 23)]) [2, 0, 4, 5, 6, 7] rfl (by decide) trivial)
    ·
      have h24p : ¬ (x_.epoch : Int) = (e : Int) := by simpa using h24
      refine W.skip ?_
      repeat (with_reducible first | refine inBlk_normal ?_ | refine inBlk_ret ?_ | refine thn_ret ?_)
      refine RoundQ.go hLC17 M 1 rfl (fun w28 M => ?_)
      replace M : Mem _ _ _ [blk b20 (.cells #[(Value.int .u64 x_.epoch), (Value.bool x_.dead), (Value.int .i64 x_.agg.count), (Value.int .i64 x_.agg.sum), (Value.int .i64 x_.agg.min), (Value.int .i64 x_.agg.max)] 34), (LC13 LoopState.ready none), propC (∀ (j : Nat) (u : Ver), j < k_ → xs[j]? = some u → (fun v : Ver => v.epoch == e) u = false), blk b9 (.cells #[(Value.bool false)] 4), blk b3 (.cells #[(Value.pointer (some ⟨cb, 0, none⟩))] 26), blk b5 (.cells #[(Value.int .u64 e)] 23), blk b7 (.cells #[(Value.int .u64 f)] 23)] [(fun w => w.heap[cb]? = some (.cells #[v] 135)), SlAt 6 v xs.length (xs.flatMap verE), (fun w => (fun w => w.heap[cb]? = some (.cells #[v] 135)) w ∧ (SlAt 6 v xs.length (xs.flatMap verE)) w)] _ := M
      replace M := M.addProp (p := ∀ (j : Nat) (u : Ver), j < k_ + 1 → xs[j]? = some u → (fun v : Ver => v.epoch == e) u = false) (below_stepG (M.chunk 2 rfl).inv hx_ h24)
      replace M : Mem _ _ _ [propC (∀ (j : Nat) (u : Ver), j < k_ + 1 → xs[j]? = some u → (fun v : Ver => v.epoch == e) u = false), blk b20 (.cells #[(Value.int .u64 x_.epoch), (Value.bool x_.dead), (Value.int .i64 x_.agg.count), (Value.int .i64 x_.agg.sum), (Value.int .i64 x_.agg.min), (Value.int .i64 x_.agg.max)] 34), (LC13 LoopState.ready none), propC (∀ (j : Nat) (u : Ver), j < k_ → xs[j]? = some u → (fun v : Ver => v.epoch == e) u = false), blk b9 (.cells #[(Value.bool false)] 4), blk b3 (.cells #[(Value.pointer (some ⟨cb, 0, none⟩))] 26), blk b5 (.cells #[(Value.int .u64 e)] 23), blk b7 (.cells #[(Value.int .u64 f)] 23)] [(fun w => w.heap[cb]? = some (.cells #[v] 135)), SlAt 6 v xs.length (xs.flatMap verE), (fun w => (fun w => w.heap[cb]? = some (.cells #[v] 135)) w ∧ (SlAt 6 v xs.length (xs.flatMap verE)) w)] _ := M
      refine .inl ⟨rfl, b_, ?_⟩
      exact Mem.packL (Ls := [(LC13 LoopState.ready none), propC (∀ (j : Nat) (u : Ver), j < k_ + 1 → xs[j]? = some u → (fun v : Ver => v.epoch == e) u = false), blk b9 (.cells #[(Value.bool false)] 4), blk b3 (.cells #[(Value.pointer (some ⟨cb, 0, none⟩))] 26), blk b5 (.cells #[(Value.int .u64 e)] 23), blk b7 (.cells #[(Value.int .u64 f)] 23)]) (L := []) (M.close (L' := [(LC13 LoopState.ready none), propC (∀ (j : Nat) (u : Ver), j < k_ + 1 → xs[j]? = some u → (fun v : Ver => v.epoch == e) u = false), blk b9 (.cells #[(Value.bool false)] 4), blk b3 (.cells #[(Value.pointer (some ⟨cb, 0, none⟩))] 26), blk b5 (.cells #[(Value.int .u64 e)] 23), blk b7 (.cells #[(Value.int .u64 f)] 23)]) [2, 0, 4, 5, 6, 7] rfl (by decide) trivial)
  ·
    rintro _ w29 (⟨b_, m⟩ | ⟨k_, b_, x_, hx_, m⟩)
    ·
      replace M := M.leaveW (C := [packL ([(LC13 LoopState.ready none), propC (∀ (j : Nat) (u : Ver), j < 0 → xs[j]? = some u → (fun v : Ver => v.epoch == e) u = false), blk b9 (.cells #[(Value.bool false)] 4), blk b3 (.cells #[(Value.pointer (some ⟨cb, 0, none⟩))] 26), blk b5 (.cells #[(Value.int .u64 e)] 23), blk b7 (.cells #[(Value.int .u64 f)] 23)])]) (D := [blk D14 (.deferred (some [])), blk pb11 (.cells #[(Value.pointer (some ⟨cb, 0, none⟩))] 26)]) [0, 1, 2] rfl (by decide) m
      replace M : Mem _ _ _ [packL ([(LC13 LoopState.ready none), propC (∀ (j : Nat) (u : Ver), j < xs.length → xs[j]? = some u → (fun v : Ver => v.epoch == e) u = false), blk b9 (.cells #[(Value.bool false)] 4), blk b3 (.cells #[(Value.pointer (some ⟨cb, 0, none⟩))] 26), blk b5 (.cells #[(Value.int .u64 e)] 23), blk b7 (.cells #[(Value.int .u64 f)] 23)]), blk D14 (.deferred (some [])), blk pb11 (.cells #[(Value.pointer (some ⟨cb, 0, none⟩))] 26)] [(fun w => w.heap[cb]? = some (.cells #[v] 135)), SlAt 6 v xs.length (xs.flatMap verE)] _ := M
      replace M := Mem.unpackL M
      replace M : Mem _ _ _ [(LC13 LoopState.ready none), propC (∀ (j : Nat) (u : Ver), j < xs.length → xs[j]? = some u → (fun v : Ver => v.epoch == e) u = false), blk b9 (.cells #[(Value.bool false)] 4), blk b3 (.cells #[(Value.pointer (some ⟨cb, 0, none⟩))] 26), blk b5 (.cells #[(Value.int .u64 e)] 23), blk b7 (.cells #[(Value.int .u64 f)] 23), blk D14 (.deferred (some [])), blk pb11 (.cells #[(Value.pointer (some ⟨cb, 0, none⟩))] 26)] [(fun w => w.heap[cb]? = some (.cells #[v] 135)), SlAt 6 v xs.length (xs.flatMap verE)] _ := M
      obtain ⟨_, hr1, hr2, hr3, M⟩ := M.endLoop' hLC17 0 rfl (by decide)
      refine ⟨_, hr1, hr2, .inl ⟨hr3, ?_⟩⟩
      replace M : Mem _ _ _ [propC (∀ (j : Nat) (u : Ver), j < xs.length → xs[j]? = some u → (fun v : Ver => v.epoch == e) u = false), blk b9 (.cells #[(Value.bool false)] 4), blk b3 (.cells #[(Value.pointer (some ⟨cb, 0, none⟩))] 26), blk b5 (.cells #[(Value.int .u64 e)] 23), blk b7 (.cells #[(Value.int .u64 f)] 23), blk D14 (.deferred (some [])), blk pb11 (.cells #[(Value.pointer (some ⟨cb, 0, none⟩))] 26)] [(fun w => w.heap[cb]? = some (.cells #[v] 135)), SlAt 6 v xs.length (xs.flatMap verE)] _ := M
      have hz : garb xs e f = false := by unfold garb; rw [firstV_none (M.chunk 0 rfl).inv (Nat.le_refl _)]; rfl
      refine W.seq' ?_
      refine W.region rfl ?_
      refine WL.store (v := (Value.bool false)) (cs := [(Value.bool false)]) (c' := #[(Value.bool false)]) M 1 rfl rfl Try.el4.sized rfl rfl rfl rfl (Nat.le_of_ble_eq_true rfl) (cel_cons rfl cel_nil) rfl rfl (fun w31 M => ?_)
      refine WL.nil ?_
      refine W.ret ?_
      obtain ⟨hD32, M⟩ := M.strike 5 rfl
      replace M : Mem _ _ _ [propC (∀ (j : Nat) (u : Ver), j < xs.length → xs[j]? = some u → (fun v : Ver => v.epoch == e) u = false), blk b9 (.cells #[(Value.bool false)] 4), blk b3 (.cells #[(Value.pointer (some ⟨cb, 0, none⟩))] 26), blk b5 (.cells #[(Value.int .u64 e)] 23), blk b7 (.cells #[(Value.int .u64 f)] 23), blk pb11 (.cells #[(Value.pointer (some ⟨cb, 0, none⟩))] 26)] [(fun w => w.heap[cb]? = some (.cells #[v] 135)), SlAt 6 v xs.length (xs.flatMap verE)] _ := M
      refine ⟨.inl rfl, _, (.cons hD32 .nil), (Value.bool false), ?_, ?_⟩
      · exact (Res.r1 (RV.cell1 Try.sc4 rfl (M.blk 1 rfl)))
      refine ⟨?_, M.close [] rfl (by decide) trivial⟩
      rw [hz]
    ·
      replace M := M.leaveW (C := [packL ([(LC13 LoopState.ready none), propC (∀ (j : Nat) (u : Ver), j < 0 → xs[j]? = some u → (fun v : Ver => v.epoch == e) u = false), blk b9 (.cells #[(Value.bool false)] 4), blk b3 (.cells #[(Value.pointer (some ⟨cb, 0, none⟩))] 26), blk b5 (.cells #[(Value.int .u64 e)] 23), blk b7 (.cells #[(Value.int .u64 f)] 23)])]) (D := [blk D14 (.deferred (some [])), blk pb11 (.cells #[(Value.pointer (some ⟨cb, 0, none⟩))] 26)]) [0, 1, 2] rfl (by decide) m
      replace M : Mem _ _ _ [packL ([(LC13 LoopState.done (some Code.ret)), propC (garb xs e f = b_), blk b9 (.cells #[(Value.bool b_)] 4), blk b3 (.cells #[(Value.pointer (some ⟨cb, 0, none⟩))] 26), blk b5 (.cells #[(Value.int .u64 e)] 23), blk b7 (.cells #[(Value.int .u64 f)] 23)]), blk D14 (.deferred (some [])), blk pb11 (.cells #[(Value.pointer (some ⟨cb, 0, none⟩))] 26)] [(fun w => w.heap[cb]? = some (.cells #[v] 135)), SlAt 6 v xs.length (xs.flatMap verE)] _ := M
      replace M := Mem.unpackL M
      replace M : Mem _ _ _ [(LC13 LoopState.done (some Code.ret)), propC (garb xs e f = b_), blk b9 (.cells #[(Value.bool b_)] 4), blk b3 (.cells #[(Value.pointer (some ⟨cb, 0, none⟩))] 26), blk b5 (.cells #[(Value.int .u64 e)] 23), blk b7 (.cells #[(Value.int .u64 f)] 23), blk D14 (.deferred (some [])), blk pb11 (.cells #[(Value.pointer (some ⟨cb, 0, none⟩))] 26)] [(fun w => w.heap[cb]? = some (.cells #[v] 135)), SlAt 6 v xs.length (xs.flatMap verE)] _ := M
      obtain ⟨_, hr1, hr2, hr3, M⟩ := M.endLoop' hLC17 0 rfl (by decide)
      refine ⟨_, hr1, hr2, .inr ⟨hr3, ?_⟩⟩
      replace M : Mem _ _ _ [propC (garb xs e f = b_), blk b9 (.cells #[(Value.bool b_)] 4), blk b3 (.cells #[(Value.pointer (some ⟨cb, 0, none⟩))] 26), blk b5 (.cells #[(Value.int .u64 e)] 23), blk b7 (.cells #[(Value.int .u64 f)] 23), blk D14 (.deferred (some [])), blk pb11 (.cells #[(Value.pointer (some ⟨cb, 0, none⟩))] 26)] [(fun w => w.heap[cb]? = some (.cells #[v] 135)), SlAt 6 v xs.length (xs.flatMap verE)] _ := M
      obtain ⟨hD34, M⟩ := M.strike 5 rfl
      replace M : Mem _ _ _ [propC (garb xs e f = b_), blk b9 (.cells #[(Value.bool b_)] 4), blk b3 (.cells #[(Value.pointer (some ⟨cb, 0, none⟩))] 26), blk b5 (.cells #[(Value.int .u64 e)] 23), blk b7 (.cells #[(Value.int .u64 f)] 23), blk pb11 (.cells #[(Value.pointer (some ⟨cb, 0, none⟩))] 26)] [(fun w => w.heap[cb]? = some (.cells #[v] 135)), SlAt 6 v xs.length (xs.flatMap verE)] _ := M
      refine ⟨.inl rfl, _, (.cons hD34 .nil), (Value.bool b_), ?_, ?_⟩
      · exact (Res.r1 (RV.cell1 Try.sc4 rfl (M.blk 1 rfl)))
      refine ⟨?_, M.close [] rfl (by decide) trivial⟩
      have hz : garb xs e f = b_ := (M.chunk 0 rfl).inv
      rw [hz]

theorem ch_versions {G : Nat → Prop} {w : World} (cb : Nat) (v : Value) (xs : List Ver)  (hb : xs.length ≤ 1000000) (M : Mem G (fun _ => False) w [] [(fun w => w.heap[cb]? = some (.cells #[v] 135)), SlAt 6 v xs.length (xs.flatMap verE)] w) : Rets Try.prog 20 #[(Value.pointer (some ⟨cb, 0, none⟩))] w fun r w' => ∃ (v' : Value), r = v' ∧ Mem G (fun _ => False) w [own 34 6 v' xs.length (xs.flatMap verE)] [] w' := by
  refine Rets.enterD 14 _ Try.func20 rfl Try.ntmps20 Try.results20 (by simp) ?_
  have hle1 := SlAt.le' (M.rep 1 rfl)
  have sl2 : IsSl v := SlAt.isSl (Mem.rep M 1 rfl)
  refine W.seq' ?_
  refine W.region rfl ?_
  refine WL.alloc (c := #[(Value.slice none 0 0)]) M rfl Try.el22.zero rfl (fun b3 w4 hb3 M => ?_)
  refine WL.nil ?_
  refine W.seq' ?_
  refine W.seq' ?_
  refine W.region rfl ?_
  refine WL.step (v := (Value.pointer (some ⟨cb, 0, none⟩))) rfl (Step.move rfl) ?_
  refine WL.callX rfl (ch_all cb (M.enterW0 trivial)) (CallsF.func Try.en81 rfl) ?_
  rintro _ w6 ⟨pb5, rfl, m⟩
  replace M := M.leaveW0 m
  clear m
  replace M : Mem _ _ _ [blk pb5 (.cells #[(Value.pointer (some ⟨cb, 0, none⟩))] 26), blk b3 (.cells #[(Value.slice none 0 0)] 22)] [(fun w => w.heap[cb]? = some (.cells #[v] 135)), SlAt 6 v xs.length (xs.flatMap verE)] _ := M
  refine WL.nil ?_
  refine W.block ?_
  replace M := M.ownNil 34 6
  replace M := M.rechunk 0 (c' := own 34 6 (Value.slice none 0 0) ((xs.take 0).length) ((xs.take 0).flatMap verE)) rfl rfl
  replace M : Mem _ _ _ [own 34 6 (Value.slice none 0 0) ((xs.take 0).length) ((xs.take 0).flatMap verE), blk pb5 (.cells #[(Value.pointer (some ⟨cb, 0, none⟩))] 26), blk b3 (.cells #[(Value.slice none 0 0)] 22)] [(fun w => w.heap[cb]? = some (.cells #[v] 135)), SlAt 6 v xs.length (xs.flatMap verE)] _ := M
  refine W.range M rfl rfl rfl Try.en124 (fun D8 lp9 w10 LC7 hLC11 _ _ M => ?_)
  replace M := M.sel (L' := [(LC7 LoopState.ready none), blk b3 (.cells #[(Value.slice none 0 0)] 22), own 34 6 (Value.slice none 0 0) ((xs.take 0).length) ((xs.take 0).flatMap verE), blk D8 (.deferred (some [])), blk pb5 (.cells #[(Value.pointer (some ⟨cb, 0, none⟩))] 26)]) [0, 4, 2, 1, 3] rfl (by decide)
  replace M := Mem.packL (Ls := [(LC7 LoopState.ready none), blk b3 (.cells #[(Value.slice none 0 0)] 22), own 34 6 (Value.slice none 0 0) ((xs.take 0).length) ((xs.take 0).flatMap verE)]) (L := [blk D8 (.deferred (some [])), blk pb5 (.cells #[(Value.pointer (some ⟨cb, 0, none⟩))] 26)]) M
  refine Rets.mono (ch_all1 _ pb5 cb v xs (ι := Value) (fun (k : Nat) (i : Value) => packL ([(LC7 LoopState.ready none), blk b3 (.cells #[i] 22), own 34 6 i ((xs.take k).length) ((xs.take k).flatMap verE)])) (fun (_ : Nat) (_ : Value) => badC) (Value.slice none 0 0) (fun _ => True) ?_ (M.enterW (C := [packL ([(LC7 LoopState.ready none), blk b3 (.cells #[(Value.slice none 0 0)] 22), own 34 6 (Value.slice none 0 0) ((xs.take 0).length) ((xs.take 0).flatMap verE)])]) (D := [blk D8 (.deferred (some [])), blk pb5 (.cells #[(Value.pointer (some ⟨cb, 0, none⟩))] 26)]) [0, 1, 2] rfl (by decide) ⟨(M.wideC (C := [packL ([(LC7 LoopState.ready none), blk b3 (.cells #[(Value.slice none 0 0)] 22), own 34 6 (Value.slice none 0 0) ((xs.take 0).length) ((xs.take 0).flatMap verE)])]) (D := [blk D8 (.deferred (some [])), blk pb5 (.cells #[(Value.pointer (some ⟨cb, 0, none⟩))] 26)]) [0, 1, 2] rfl (by decide) 1 rfl), (M.wideR (C := [packL ([(LC7 LoopState.ready none), blk b3 (.cells #[(Value.slice none 0 0)] 22), own 34 6 (Value.slice none 0 0) ((xs.take 0).length) ((xs.take 0).flatMap verE)])]) (D := [blk D8 (.deferred (some [])), blk pb5 (.cells #[(Value.pointer (some ⟨cb, 0, none⟩))] 26)]) [0, 1, 2] rfl 0 rfl), (M.wideR (C := [packL ([(LC7 LoopState.ready none), blk b3 (.cells #[(Value.slice none 0 0)] 22), own 34 6 (Value.slice none 0 0) ((xs.take 0).length) ((xs.take 0).flatMap verE)])]) (D := [blk D8 (.deferred (some [])), blk pb5 (.cells #[(Value.pointer (some ⟨cb, 0, none⟩))] 26)]) [0, 1, 2] rfl 1 rfl), (Sh.pure fun _ => trivial), trivial⟩)) ?_
  ·
    rintro k_ v_ x_ w12 hx_ m13
    have M := Mem.unpackL (L := []) m13
    replace M : Mem _ _ _ [(LC7 LoopState.ready none), blk b3 (.cells #[v_] 22), own 34 6 v_ ((xs.take k_).length) ((xs.take k_).flatMap verE)] [(fun _ => True)] _ := M
    have sl14 : IsSl v_ := SlAt.isSl (own_slAt (Mem.chunk M 2 rfl).inv)
    have hle15 := SlAt.le' (own_slAt (Mem.chunk M 2 rfl).inv)
    refine RetsV.yieldM hLC11 M 0 rfl [(Value.int .i64 ↑k_), (Value.agg #[(Value.int .u64 x_.epoch), (Value.bool x_.dead), (Value.int .i64 x_.agg.count), (Value.int .i64 x_.agg.sum), (Value.int .i64 x_.agg.min), (Value.int .i64 x_.agg.max)])] rfl (by decide) ?_
    have hacl : (xs.take k_).length ≤ 1000000 := by rw [List.length_take]; omega
    refine W.region rfl ?_
    refine WL.alloc (c := #[(Value.int .u64 0), (Value.bool false), (Value.int .i64 0), (Value.int .i64 0), (Value.int .i64 0), (Value.int .i64 0)]) M rfl Try.el34.zero rfl (fun b16 w17 hb16 M => ?_)
    refine WL.store (v := (Value.agg #[(Value.int .u64 x_.epoch), (Value.bool x_.dead), (Value.int .i64 x_.agg.count), (Value.int .i64 x_.agg.sum), (Value.int .i64 x_.agg.min), (Value.int .i64 x_.agg.max)])) (cs := [(Value.int .u64 x_.epoch), (Value.bool x_.dead), (Value.int .i64 x_.agg.count), (Value.int .i64 x_.agg.sum), (Value.int .i64 x_.agg.min), (Value.int .i64 x_.agg.max)]) (c' := #[(Value.int .u64 x_.epoch), (Value.bool x_.dead), (Value.int .i64 x_.agg.count), (Value.int .i64 x_.agg.sum), (Value.int .i64 x_.agg.min), (Value.int .i64 x_.agg.max)]) M 0 rfl rfl Try.el34.sized rfl rfl rfl rfl (Nat.le_of_ble_eq_true rfl) (cel_cons rfl (cel_cons rfl (cel_cons rfl (cel_cons rfl (cel_cons rfl (cel_cons rfl cel_nil)))))) rfl rfl (fun w18 M => ?_)
    refine WL.nil ?_
    repeat (with_reducible first | refine inBlk_normal ?_ | refine inBlk_ret ?_ | refine thn_ret ?_)
    refine RoundA.go hLC11 M 1 rfl (fun w19 M => ?_)
    replace M : Mem _ _ _ [blk b16 (.cells #[(Value.int .u64 x_.epoch), (Value.bool x_.dead), (Value.int .i64 x_.agg.count), (Value.int .i64 x_.agg.sum), (Value.int .i64 x_.agg.min), (Value.int .i64 x_.agg.max)] 34), (LC7 LoopState.busy none), blk b3 (.cells #[v_] 22), own 34 6 v_ ((xs.take k_).length) ((xs.take k_).flatMap verE)] [(fun _ => True)] _ := M
    refine W.block ?_
    refine W.region rfl ?_
    refine WL.step (v := v_) rfl (Step.load1 Try.sc22 rfl ((M.cell 2 rfl 0).trans rfl)) ?_
    refine WL.step (v := (Value.agg #[(Value.int .u64 x_.epoch), (Value.bool x_.dead), (Value.int .i64 x_.agg.count), (Value.int .i64 x_.agg.sum), (Value.int .i64 x_.agg.min), (Value.int .i64 x_.agg.max)])) rfl (Step.loadN Try.ag34 rfl (M.blk 0 rfl) (Nat.le_of_ble_eq_true rfl) rfl) ?_
    refine WL.new (obj := .cells #[(Value.int .u64 x_.epoch), (Value.bool x_.dead), (Value.int .i64 x_.agg.count), (Value.int .i64 x_.agg.sum), (Value.int .i64 x_.agg.min), (Value.int .i64 x_.agg.max)] 34) (fun b => .slice (some ⟨b, 0, none⟩) 1 1) M rfl (fun w => Step.make (by kernel_rfl)) (fun b20 w21 hb20 M => ?_)
    refine WL.does rfl (M.appendF (xs.take k_) ([x_] : List Ver) (sv := (Value.slice (some ⟨b20, 0, none⟩) 1 1)) 4 Try.un22 Try.el34 rfl (by decide) rfl rfl rfl (SlAt.of_blk (M.blk 0 rfl) rfl (by decide)) verE_cel (by have := hacl; simp only [maxLen, List.length_nil, List.length_cons, List.length_append]; omega) (by have := hacl; (try simp only [List.length_nil, List.length_cons, List.length_append]); omega)) ?_
    rintro v22 w23 M
    replace M : Mem _ _ _ [blk b20 (.cells #[(Value.int .u64 x_.epoch), (Value.bool x_.dead), (Value.int .i64 x_.agg.count), (Value.int .i64 x_.agg.sum), (Value.int .i64 x_.agg.min), (Value.int .i64 x_.agg.max)] 34), blk b16 (.cells #[(Value.int .u64 x_.epoch), (Value.bool x_.dead), (Value.int .i64 x_.agg.count), (Value.int .i64 x_.agg.sum), (Value.int .i64 x_.agg.min), (Value.int .i64 x_.agg.max)] 34), (LC7 LoopState.busy none), blk b3 (.cells #[v_] 22), own 34 6 v22 (((xs.take k_) ++ ([x_] : List Ver)).length) (((xs.take k_) ++ ([x_] : List Ver)).flatMap verE)] [(fun _ => True)] _ := M
    have sl24 : IsSl v22 := SlAt.isSl (own_slAt (M.chunk 4 rfl).inv)
    refine WL.store (v := v22) (cs := [v22]) (c' := #[v22]) M 3 rfl rfl Try.el22.sized rfl rfl (IsSl.list sl24) rfl (Nat.le_of_ble_eq_true rfl) (cel_cons (IsSl.cel sl24) cel_nil) rfl rfl (fun w25 M => ?_)
    refine WL.nil ?_
    repeat (with_reducible first | refine inBlk_normal ?_ | refine inBlk_ret ?_ | refine thn_ret ?_)
    refine RoundQ.go hLC11 M 2 rfl (fun w26 M => ?_)
    replace M : Mem _ _ _ [blk b20 (.cells #[(Value.int .u64 x_.epoch), (Value.bool x_.dead), (Value.int .i64 x_.agg.count), (Value.int .i64 x_.agg.sum), (Value.int .i64 x_.agg.min), (Value.int .i64 x_.agg.max)] 34), blk b16 (.cells #[(Value.int .u64 x_.epoch), (Value.bool x_.dead), (Value.int .i64 x_.agg.count), (Value.int .i64 x_.agg.sum), (Value.int .i64 x_.agg.min), (Value.int .i64 x_.agg.max)] 34), (LC7 LoopState.ready none), blk b3 (.cells #[v22] 22), own 34 6 v22 (((xs.take k_) ++ ([x_] : List Ver)).length) (((xs.take k_) ++ ([x_] : List Ver)).flatMap verE)] [(fun _ => True)] _ := M
    replace M := M.rechunk 4 (c' := own 34 6 v22 ((xs.take (k_ + 1)).length) ((xs.take (k_ + 1)).flatMap verE)) rfl (by rw [← take_snoc hx_])
    replace M : Mem _ _ _ [blk b20 (.cells #[(Value.int .u64 x_.epoch), (Value.bool x_.dead), (Value.int .i64 x_.agg.count), (Value.int .i64 x_.agg.sum), (Value.int .i64 x_.agg.min), (Value.int .i64 x_.agg.max)] 34), blk b16 (.cells #[(Value.int .u64 x_.epoch), (Value.bool x_.dead), (Value.int .i64 x_.agg.count), (Value.int .i64 x_.agg.sum), (Value.int .i64 x_.agg.min), (Value.int .i64 x_.agg.max)] 34), (LC7 LoopState.ready none), blk b3 (.cells #[v22] 22), own 34 6 v22 ((xs.take (k_ + 1)).length) ((xs.take (k_ + 1)).flatMap verE)] [(fun _ => True)] _ := M
    refine .inl ⟨rfl, v22, ?_⟩
    exact Mem.packL (Ls := [(LC7 LoopState.ready none), blk b3 (.cells #[v22] 22), own 34 6 v22 ((xs.take (k_ + 1)).length) ((xs.take (k_ + 1)).flatMap verE)]) (L := []) (M.close (L' := [(LC7 LoopState.ready none), blk b3 (.cells #[v22] 22), own 34 6 v22 ((xs.take (k_ + 1)).length) ((xs.take (k_ + 1)).flatMap verE)]) [2, 3, 4] rfl (by decide) trivial)
  ·
    rintro _ w27 (⟨v_, m⟩ | ⟨k_, v_, x_, hx_, m⟩)
    ·
      replace M := M.leaveW (C := [packL ([(LC7 LoopState.ready none), blk b3 (.cells #[(Value.slice none 0 0)] 22), own 34 6 (Value.slice none 0 0) ((xs.take 0).length) ((xs.take 0).flatMap verE)])]) (D := [blk D8 (.deferred (some [])), blk pb5 (.cells #[(Value.pointer (some ⟨cb, 0, none⟩))] 26)]) [0, 1, 2] rfl (by decide) m
      replace M : Mem _ _ _ [packL ([(LC7 LoopState.ready none), blk b3 (.cells #[v_] 22), own 34 6 v_ ((xs.take xs.length).length) ((xs.take xs.length).flatMap verE)]), blk D8 (.deferred (some [])), blk pb5 (.cells #[(Value.pointer (some ⟨cb, 0, none⟩))] 26)] [(fun w => w.heap[cb]? = some (.cells #[v] 135)), SlAt 6 v xs.length (xs.flatMap verE)] _ := M
      replace M := Mem.unpackL M
      replace M : Mem _ _ _ [(LC7 LoopState.ready none), blk b3 (.cells #[v_] 22), own 34 6 v_ ((xs.take xs.length).length) ((xs.take xs.length).flatMap verE), blk D8 (.deferred (some [])), blk pb5 (.cells #[(Value.pointer (some ⟨cb, 0, none⟩))] 26)] [(fun w => w.heap[cb]? = some (.cells #[v] 135)), SlAt 6 v xs.length (xs.flatMap verE)] _ := M
      have sl28 : IsSl v_ := SlAt.isSl (own_slAt (Mem.chunk M 2 rfl).inv)
      have hle29 := SlAt.le' (own_slAt (Mem.chunk M 2 rfl).inv)
      obtain ⟨_, hr1, hr2, hr3, M⟩ := M.endLoop' hLC11 0 rfl (by decide)
      refine ⟨_, hr1, hr2, .inl ⟨hr3, ?_⟩⟩
      replace M : Mem _ _ _ [blk b3 (.cells #[v_] 22), own 34 6 v_ ((xs.take xs.length).length) ((xs.take xs.length).flatMap verE), blk D8 (.deferred (some [])), blk pb5 (.cells #[(Value.pointer (some ⟨cb, 0, none⟩))] 26)] [(fun w => w.heap[cb]? = some (.cells #[v] 135)), SlAt 6 v xs.length (xs.flatMap verE)] _ := M
      replace M := M.rechunk 1 (c' := own 34 6 v_ xs.length (xs.flatMap verE)) rfl (by rw [List.take_length])
      replace M : Mem _ _ _ [blk b3 (.cells #[v_] 22), own 34 6 v_ xs.length (xs.flatMap verE), blk D8 (.deferred (some [])), blk pb5 (.cells #[(Value.pointer (some ⟨cb, 0, none⟩))] 26)] [(fun w => w.heap[cb]? = some (.cells #[v] 135)), SlAt 6 v xs.length (xs.flatMap verE)] _ := M
      refine W.seq' ?_
      refine W.region rfl ?_
      refine WL.step (v := v_) rfl (Step.load1 Try.sc22 rfl ((M.cell 0 rfl 0).trans rfl)) ?_
      refine WL.store (v := v_) (cs := [v_]) (c' := #[v_]) M 0 rfl rfl Try.el22.sized rfl rfl (IsSl.list sl28) rfl (Nat.le_of_ble_eq_true rfl) (cel_cons (IsSl.cel sl28) cel_nil) rfl rfl (fun w31 M => ?_)
      refine WL.nil ?_
      refine W.ret ?_
      obtain ⟨hD32, M⟩ := M.strike 2 rfl
      replace M : Mem _ _ _ [blk b3 (.cells #[v_] 22), own 34 6 v_ xs.length (xs.flatMap verE), blk pb5 (.cells #[(Value.pointer (some ⟨cb, 0, none⟩))] 26)] [(fun w => w.heap[cb]? = some (.cells #[v] 135)), SlAt 6 v xs.length (xs.flatMap verE)] _ := M
      refine ⟨.inl rfl, _, (.cons hD32 .nil), v_, ?_, ?_⟩
      · exact (Res.r1 (RV.cell1 Try.sc22 rfl (M.blk 0 rfl)))
      refine ⟨v_, ?_, M.close [1] rfl (by decide) trivial⟩
      rfl
    ·
      exact (m.chunk 0 rfl).inv.elim

theorem ch_len {G : Nat → Prop} {w : World} (cb : Nat) (v : Value) (xs : List Ver)  (hb : xs.length ≤ 1000000) (M : Mem G (fun _ => False) w [] [(fun w => w.heap[cb]? = some (.cells #[v] 135)), SlAt 6 v xs.length (xs.flatMap verE)] w) : Rets Try.prog 32 #[(Value.pointer (some ⟨cb, 0, none⟩))] w fun r w' => r = (Value.int .i64 ↑xs.length) ∧ Mem G (fun _ => False) w [] [] w' := by
  refine Rets.enter 6 _ Try.func32 rfl Try.ntmps32 Try.results32 (by simp) ?_
  have hle1 := SlAt.le' (M.rep 1 rfl)
  have sl2 : IsSl v := SlAt.isSl (Mem.rep M 1 rfl)
  refine W.seq' ?_
  refine W.region rfl ?_
  refine WL.step (v := (Value.int .i64 0)) rfl (Step.assign rfl) ?_
  refine WL.nil ?_
  refine W.seq' ?_
  refine W.region rfl ?_
  refine WL.step (v := (Value.pointer (some ⟨cb, 0, none⟩))) rfl (Step.move rfl) ?_
  refine WL.callX rfl (ch_versions cb v xs (by first | omega | assumption | decide | (simp only [List.length_nil, List.length_cons, List.length_take, List.length_drop]; omega)) (M.enterW0 ⟨(M.wideR0 0 rfl), (M.wideR0 1 rfl), trivial⟩)) (CallsF.func Try.en20 rfl) ?_
  rintro v3 w4 ⟨_, rfl, m⟩
  replace M := M.leaveW0 m
  clear m
  replace M : Mem _ _ _ [own 34 6 v3 xs.length (xs.flatMap verE)] [(fun w => w.heap[cb]? = some (.cells #[v] 135)), SlAt 6 v xs.length (xs.flatMap verE)] _ := M
  have sl5 : IsSl v3 := SlAt.isSl (own_slAt (Mem.chunk M 0 rfl).inv)
  have hle6 := SlAt.le' (own_slAt (Mem.chunk M 0 rfl).inv)
  refine WL.step (v := (Value.int .i64 ↑xs.length)) rfl (Step.lenSl Try.un22 rfl (own_slAt (M.chunk 0 rfl).inv)) ?_
  refine WL.step (v := (Value.int .i64 ↑xs.length)) rfl (Step.assign rfl) ?_
  refine WL.nil ?_
  refine W.ret ?_
  refine ⟨.inl rfl, (Value.int .i64 ↑xs.length), ?_, ?_⟩
  · exact ⟨rfl, (Res.r1 (show RV _ _ _ (.tmp 2) (Value.int .i64 ↑xs.length) from by exact rfl))⟩
  refine ⟨?_, M.close [] rfl (by decide) trivial⟩
  rfl

theorem ch_differs {G : Nat → Prop} {w : World} (cb : Nat) (v : Value) (xs : List Ver) (a : Int) (b : Int)   (M : Mem G (fun _ => False) w [] [(fun w => w.heap[cb]? = some (.cells #[v] 135)), SlAt 6 v xs.length (xs.flatMap verE)] w) : Rets Try.prog 29 #[(Value.pointer (some ⟨cb, 0, none⟩)), (Value.int .u64 a), (Value.int .u64 b)] w fun r w' => r = (Value.bool (!decide (atV xs a = atV xs b))) ∧ Mem G (fun _ => False) w [] [] w' := by
  refine Rets.enter 26 _ Try.func29 rfl Try.ntmps29 Try.results29 (by simp) ?_
  have hle1 := SlAt.le' (M.rep 1 rfl)
  have sl2 : IsSl v := SlAt.isSl (Mem.rep M 1 rfl)
  refine W.seq' ?_
  refine W.region rfl ?_
  refine WL.step (v := (Value.bool false)) rfl (Step.assign rfl) ?_
  refine WL.nil ?_
  refine W.seq' ?_
  refine W.region rfl ?_
  refine WL.step (v := (Value.pointer (some ⟨cb, 0, none⟩))) rfl (Step.move rfl) ?_
  refine WL.step (v := (Value.int .u64 a)) rfl (Step.move rfl) ?_
  refine WL.callX rfl (ch_at cb v xs a (M.enterW0 ⟨(M.wideR0 0 rfl), (M.wideR0 1 rfl), trivial⟩)) (CallsF.func Try.en21 rfl) ?_
  rintro _ w3 ⟨rfl, m⟩
  replace M := M.leaveW0 m
  clear m
  replace M : Mem _ _ _ [] [(fun w => w.heap[cb]? = some (.cells #[v] 135)), SlAt 6 v xs.length (xs.flatMap verE)] _ := M
  refine WL.step (v := (Value.tuple #[(Value.agg #[(Value.int .i64 ((atV xs a).count)), (Value.int .i64 ((atV xs a).sum)), (Value.int .i64 ((atV xs a).min)), (Value.int .i64 ((atV xs a).max))]), (Value.bool (!decide (atV xs a = aggZ)))])) rfl (Step.move rfl) ?_
  refine WL.step (v := (Value.agg #[(Value.int .i64 ((atV xs a).count)), (Value.int .i64 ((atV xs a).sum)), (Value.int .i64 ((atV xs a).min)), (Value.int .i64 ((atV xs a).max))])) rfl (Step.pure (by kernel_rfl)) ?_
  refine WL.step (v := (Value.bool (!decide (atV xs a = aggZ)))) rfl (Step.pure (by kernel_rfl)) ?_
  refine WL.alloc (c := #[(Value.int .i64 0), (Value.int .i64 0), (Value.int .i64 0), (Value.int .i64 0)]) M rfl Try.el32.zero rfl (fun b4 w5 hb4 M => ?_)
  refine WL.store (v := (Value.agg #[(Value.int .i64 ((atV xs a).count)), (Value.int .i64 ((atV xs a).sum)), (Value.int .i64 ((atV xs a).min)), (Value.int .i64 ((atV xs a).max))])) (cs := [(Value.int .i64 ((atV xs a).count)), (Value.int .i64 ((atV xs a).sum)), (Value.int .i64 ((atV xs a).min)), (Value.int .i64 ((atV xs a).max))]) (c' := #[(Value.int .i64 ((atV xs a).count)), (Value.int .i64 ((atV xs a).sum)), (Value.int .i64 ((atV xs a).min)), (Value.int .i64 ((atV xs a).max))]) M 0 rfl rfl Try.el32.sized rfl rfl rfl rfl (Nat.le_of_ble_eq_true rfl) (cel_cons rfl (cel_cons rfl (cel_cons rfl (cel_cons rfl cel_nil)))) rfl rfl (fun w6 M => ?_)
  refine WL.step (v := (Value.bool (!decide (atV xs a = aggZ)))) rfl (Step.assign rfl) ?_
  refine WL.nil ?_
  refine W.seq' ?_
  refine W.region rfl ?_
  refine WL.step (v := (Value.pointer (some ⟨cb, 0, none⟩))) rfl (Step.move rfl) ?_
  refine WL.step (v := (Value.int .u64 b)) rfl (Step.move rfl) ?_
  refine WL.callX rfl (ch_at cb v xs b (M.enterW0 ⟨(M.wideR0 0 rfl), (M.wideR0 1 rfl), trivial⟩)) (CallsF.func Try.en21 rfl) ?_
  rintro _ w7 ⟨rfl, m⟩
  replace M := M.leaveW0 m
  clear m
  replace M : Mem _ _ _ [blk b4 (.cells #[(Value.int .i64 ((atV xs a).count)), (Value.int .i64 ((atV xs a).sum)), (Value.int .i64 ((atV xs a).min)), (Value.int .i64 ((atV xs a).max))] 32)] [(fun w => w.heap[cb]? = some (.cells #[v] 135)), SlAt 6 v xs.length (xs.flatMap verE)] _ := M
  refine WL.step (v := (Value.tuple #[(Value.agg #[(Value.int .i64 ((atV xs b).count)), (Value.int .i64 ((atV xs b).sum)), (Value.int .i64 ((atV xs b).min)), (Value.int .i64 ((atV xs b).max))]), (Value.bool (!decide (atV xs b = aggZ)))])) rfl (Step.move rfl) ?_
  refine WL.step (v := (Value.agg #[(Value.int .i64 ((atV xs b).count)), (Value.int .i64 ((atV xs b).sum)), (Value.int .i64 ((atV xs b).min)), (Value.int .i64 ((atV xs b).max))])) rfl (Step.pure (by kernel_rfl)) ?_
  refine WL.step (v := (Value.bool (!decide (atV xs b = aggZ)))) rfl (Step.pure (by kernel_rfl)) ?_
  refine WL.alloc (c := #[(Value.int .i64 0), (Value.int .i64 0), (Value.int .i64 0), (Value.int .i64 0)]) M rfl Try.el32.zero rfl (fun b8 w9 hb8 M => ?_)
  refine WL.store (v := (Value.agg #[(Value.int .i64 ((atV xs b).count)), (Value.int .i64 ((atV xs b).sum)), (Value.int .i64 ((atV xs b).min)), (Value.int .i64 ((atV xs b).max))])) (cs := [(Value.int .i64 ((atV xs b).count)), (Value.int .i64 ((atV xs b).sum)), (Value.int .i64 ((atV xs b).min)), (Value.int .i64 ((atV xs b).max))]) (c' := #[(Value.int .i64 ((atV xs b).count)), (Value.int .i64 ((atV xs b).sum)), (Value.int .i64 ((atV xs b).min)), (Value.int .i64 ((atV xs b).max))]) M 0 rfl rfl Try.el32.sized rfl rfl rfl rfl (Nat.le_of_ble_eq_true rfl) (cel_cons rfl (cel_cons rfl (cel_cons rfl (cel_cons rfl cel_nil)))) rfl rfl (fun w10 M => ?_)
  refine WL.step (v := (Value.bool (!decide (atV xs b = aggZ)))) rfl (Step.assign rfl) ?_
  refine WL.nil ?_
  refine W.seq' ?_
  refine W.region rfl ?_
  refine WL.step (v := (Value.agg #[(Value.int .i64 ((atV xs a).count)), (Value.int .i64 ((atV xs a).sum)), (Value.int .i64 ((atV xs a).min)), (Value.int .i64 ((atV xs a).max))])) rfl (Step.loadN Try.ag32 rfl (M.blk 1 rfl) (Nat.le_of_ble_eq_true rfl) rfl) ?_
  refine WL.step (v := (Value.agg #[(Value.int .i64 ((atV xs b).count)), (Value.int .i64 ((atV xs b).sum)), (Value.int .i64 ((atV xs b).min)), (Value.int .i64 ((atV xs b).max))])) rfl (Step.loadN Try.ag32 rfl (M.blk 0 rfl) (Nat.le_of_ble_eq_true rfl) rfl) ?_
  refine WL.step (v := (Value.bool (!decide ((atV xs a) = (atV xs b))))) rfl (Step.cast (congrArg (fun z => Value.bool (!z)) (agg_eqB (atV xs a) (atV xs b))) (Step.neqAgg Try.eg32 rfl rfl rfl (Try.eq32 9998 ((atV xs a).count : Int) ((atV xs a).sum : Int) ((atV xs a).min : Int) ((atV xs a).max : Int) ((atV xs b).count : Int) ((atV xs b).sum : Int) ((atV xs b).min : Int) ((atV xs b).max : Int)))) ?_
  refine WL.step (v := (Value.bool (!decide ((atV xs a) = (atV xs b))))) rfl (Step.assign rfl) ?_
  refine WL.nil ?_
  refine W.ret ?_
  refine ⟨.inl rfl, (Value.bool (!decide ((atV xs a) = (atV xs b)))), ?_, ?_⟩
  · exact ⟨rfl, (Res.r1 (show RV _ _ _ (.tmp 6) (Value.bool (!decide ((atV xs a) = (atV xs b)))) from by exact rfl))⟩
  refine ⟨?_, M.close [] rfl (by decide) trivial⟩
  rfl
end Go.Proofs
