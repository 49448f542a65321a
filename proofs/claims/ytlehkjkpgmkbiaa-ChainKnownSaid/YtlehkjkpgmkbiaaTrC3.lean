/- Walks. -/
import Derived.Test.YtlehkjkpgmkbiaaTrC2
set_option maxRecDepth 100000
set_option linter.all false
namespace Go.Proofs
open Go Tp
theorem Try.en81 : Enters Try.prog 81 := fun _ _ => by kernel_rfl
theorem Try.en124 : Enters Try.prog 124 := fun _ _ => by kernel_rfl

theorem ch_at {G : Nat → Prop} {w : World} (cb : Nat) (v : Value) (xs : List Ver) (e : Int)   (M : Mem G (fun _ => False) w [] [(fun w => w.heap[cb]? = some (.cells #[v] 135)), SlAt 6 v xs.length (xs.flatMap verE)] w) : Rets Try.prog 21 #[(Value.pointer (some ⟨cb, 0, none⟩)), (Value.int .u64 e)] w fun r w' => r = (Value.tuple #[(Value.agg #[(Value.int .i64 ((atV xs e).count)), (Value.int .i64 ((atV xs e).sum)), (Value.int .i64 ((atV xs e).min)), (Value.int .i64 ((atV xs e).max))]), (Value.bool (!decide (atV xs e = aggZ)))]) ∧ Mem G (fun _ => False) w [] [] w' := by
  refine Rets.enterD 23 _ Try.func21 rfl Try.ntmps21 Try.results21 (by simp) ?_
  have hle1 := SlAt.le' (M.rep 1 rfl)
  have sl2 : IsSl v := SlAt.isSl (Mem.rep M 1 rfl)
  refine W.seq' ?_
  refine W.region rfl ?_
  refine WL.box (v := (Value.int .u64 e)) (c := #[(Value.int .u64 e)]) M rfl rfl rfl (fun b3 w4 hb3 M => ?_)
  refine WL.alloc (c := #[(Value.int .i64 0), (Value.int .i64 0), (Value.int .i64 0), (Value.int .i64 0)]) M rfl Try.el32.zero rfl (fun b5 w6 hb5 M => ?_)
  refine WL.step (v := (Value.bool false)) rfl (Step.assign rfl) ?_
  refine WL.nil ?_
  refine W.seq' ?_
  refine W.region rfl ?_
  refine WL.alloc (c := #[(Value.int .i64 0), (Value.int .i64 0), (Value.int .i64 0), (Value.int .i64 0)]) M rfl Try.el32.zero rfl (fun b7 w8 hb7 M => ?_)
  refine WL.nil ?_
  refine W.seq' ?_
  refine W.seq' ?_
  refine W.region rfl ?_
  refine WL.step (v := (Value.pointer (some ⟨cb, 0, none⟩))) rfl (Step.move rfl) ?_
  refine WL.callX rfl (ch_all cb (M.enterW0 trivial)) (CallsF.func Try.en81 rfl) ?_
  rintro _ w10 ⟨pb9, rfl, m⟩
  replace M := M.leaveW0 m
  clear m
  replace M : Mem _ _ _ [blk pb9 (.cells #[(Value.pointer (some ⟨cb, 0, none⟩))] 26), blk b7 (.cells #[(Value.int .i64 0), (Value.int .i64 0), (Value.int .i64 0), (Value.int .i64 0)] 32), blk b5 (.cells #[(Value.int .i64 0), (Value.int .i64 0), (Value.int .i64 0), (Value.int .i64 0)] 32), blk b3 (.cells #[(Value.int .u64 e)] 23)] [(fun w => w.heap[cb]? = some (.cells #[v] 135)), SlAt 6 v xs.length (xs.flatMap verE)] _ := M
  refine WL.nil ?_
  refine W.block ?_
  replace M := M.rechunk 1 (c' := blk b7 (.cells #[(Value.int .i64 ((atV (xs.take 0) e).count)), (Value.int .i64 ((atV (xs.take 0) e).sum)), (Value.int .i64 ((atV (xs.take 0) e).min)), (Value.int .i64 ((atV (xs.take 0) e).max))] 32)) rfl rfl
  replace M : Mem _ _ _ [blk pb9 (.cells #[(Value.pointer (some ⟨cb, 0, none⟩))] 26), blk b7 (.cells #[(Value.int .i64 ((atV (xs.take 0) e).count)), (Value.int .i64 ((atV (xs.take 0) e).sum)), (Value.int .i64 ((atV (xs.take 0) e).min)), (Value.int .i64 ((atV (xs.take 0) e).max))] 32), blk b5 (.cells #[(Value.int .i64 0), (Value.int .i64 0), (Value.int .i64 0), (Value.int .i64 0)] 32), blk b3 (.cells #[(Value.int .u64 e)] 23)] [(fun w => w.heap[cb]? = some (.cells #[v] 135)), SlAt 6 v xs.length (xs.flatMap verE)] _ := M
  refine W.range M rfl rfl rfl Try.en124 (fun D12 lp13 w14 LC11 hLC15 _ _ M => ?_)
  replace M := M.sel (L' := [(LC11 LoopState.ready none), blk b7 (.cells #[(Value.int .i64 ((atV (xs.take 0) e).count)), (Value.int .i64 ((atV (xs.take 0) e).sum)), (Value.int .i64 ((atV (xs.take 0) e).min)), (Value.int .i64 ((atV (xs.take 0) e).max))] 32), blk b3 (.cells #[(Value.int .u64 e)] 23), blk D12 (.deferred (some [])), blk pb9 (.cells #[(Value.pointer (some ⟨cb, 0, none⟩))] 26), blk b5 (.cells #[(Value.int .i64 0), (Value.int .i64 0), (Value.int .i64 0), (Value.int .i64 0)] 32)]) [0, 3, 5, 1, 2, 4] rfl (by decide)
  replace M := Mem.packL (Ls := [(LC11 LoopState.ready none), blk b7 (.cells #[(Value.int .i64 ((atV (xs.take 0) e).count)), (Value.int .i64 ((atV (xs.take 0) e).sum)), (Value.int .i64 ((atV (xs.take 0) e).min)), (Value.int .i64 ((atV (xs.take 0) e).max))] 32), blk b3 (.cells #[(Value.int .u64 e)] 23)]) (L := [blk D12 (.deferred (some [])), blk pb9 (.cells #[(Value.pointer (some ⟨cb, 0, none⟩))] 26), blk b5 (.cells #[(Value.int .i64 0), (Value.int .i64 0), (Value.int .i64 0), (Value.int .i64 0)] 32)]) M
  refine Rets.mono (ch_all1 _ pb9 cb v xs (ι := Unit) (fun (k : Nat) (i : Unit) => packL ([(LC11 LoopState.ready none), blk b7 (.cells #[(Value.int .i64 ((atV (xs.take k) e).count)), (Value.int .i64 ((atV (xs.take k) e).sum)), (Value.int .i64 ((atV (xs.take k) e).min)), (Value.int .i64 ((atV (xs.take k) e).max))] 32), blk b3 (.cells #[(Value.int .u64 e)] 23)])) (fun (_ : Nat) (_ : Unit) => badC) () (fun _ => True) ?_ (M.enterW (C := [packL ([(LC11 LoopState.ready none), blk b7 (.cells #[(Value.int .i64 ((atV (xs.take 0) e).count)), (Value.int .i64 ((atV (xs.take 0) e).sum)), (Value.int .i64 ((atV (xs.take 0) e).min)), (Value.int .i64 ((atV (xs.take 0) e).max))] 32), blk b3 (.cells #[(Value.int .u64 e)] 23)])]) (D := [blk D12 (.deferred (some [])), blk pb9 (.cells #[(Value.pointer (some ⟨cb, 0, none⟩))] 26), blk b5 (.cells #[(Value.int .i64 0), (Value.int .i64 0), (Value.int .i64 0), (Value.int .i64 0)] 32)]) [0, 1, 2, 3] rfl (by decide) ⟨(M.wideC (C := [packL ([(LC11 LoopState.ready none), blk b7 (.cells #[(Value.int .i64 ((atV (xs.take 0) e).count)), (Value.int .i64 ((atV (xs.take 0) e).sum)), (Value.int .i64 ((atV (xs.take 0) e).min)), (Value.int .i64 ((atV (xs.take 0) e).max))] 32), blk b3 (.cells #[(Value.int .u64 e)] 23)])]) (D := [blk D12 (.deferred (some [])), blk pb9 (.cells #[(Value.pointer (some ⟨cb, 0, none⟩))] 26), blk b5 (.cells #[(Value.int .i64 0), (Value.int .i64 0), (Value.int .i64 0), (Value.int .i64 0)] 32)]) [0, 1, 2, 3] rfl (by decide) 1 rfl), (M.wideR (C := [packL ([(LC11 LoopState.ready none), blk b7 (.cells #[(Value.int .i64 ((atV (xs.take 0) e).count)), (Value.int .i64 ((atV (xs.take 0) e).sum)), (Value.int .i64 ((atV (xs.take 0) e).min)), (Value.int .i64 ((atV (xs.take 0) e).max))] 32), blk b3 (.cells #[(Value.int .u64 e)] 23)])]) (D := [blk D12 (.deferred (some [])), blk pb9 (.cells #[(Value.pointer (some ⟨cb, 0, none⟩))] 26), blk b5 (.cells #[(Value.int .i64 0), (Value.int .i64 0), (Value.int .i64 0), (Value.int .i64 0)] 32)]) [0, 1, 2, 3] rfl 0 rfl), (M.wideR (C := [packL ([(LC11 LoopState.ready none), blk b7 (.cells #[(Value.int .i64 ((atV (xs.take 0) e).count)), (Value.int .i64 ((atV (xs.take 0) e).sum)), (Value.int .i64 ((atV (xs.take 0) e).min)), (Value.int .i64 ((atV (xs.take 0) e).max))] 32), blk b3 (.cells #[(Value.int .u64 e)] 23)])]) (D := [blk D12 (.deferred (some [])), blk pb9 (.cells #[(Value.pointer (some ⟨cb, 0, none⟩))] 26), blk b5 (.cells #[(Value.int .i64 0), (Value.int .i64 0), (Value.int .i64 0), (Value.int .i64 0)] 32)]) [0, 1, 2, 3] rfl 1 rfl), (Sh.pure fun _ => trivial), trivial⟩)) ?_
  ·
    rintro k_ _ x_ w16 hx_ m17
    have M := Mem.unpackL (L := []) m17
    replace M : Mem _ _ _ [(LC11 LoopState.ready none), blk b7 (.cells #[(Value.int .i64 ((atV (xs.take k_) e).count)), (Value.int .i64 ((atV (xs.take k_) e).sum)), (Value.int .i64 ((atV (xs.take k_) e).min)), (Value.int .i64 ((atV (xs.take k_) e).max))] 32), blk b3 (.cells #[(Value.int .u64 e)] 23)] [(fun _ => True)] _ := M
    refine RetsV.yieldM hLC15 M 0 rfl [(Value.int .i64 ↑k_), (Value.agg #[(Value.int .u64 x_.epoch), (Value.bool x_.dead), (Value.int .i64 x_.agg.count), (Value.int .i64 x_.agg.sum), (Value.int .i64 x_.agg.min), (Value.int .i64 x_.agg.max)])] rfl (by decide) ?_
    refine W.region rfl ?_
    refine WL.alloc (c := #[(Value.int .u64 0), (Value.bool false), (Value.int .i64 0), (Value.int .i64 0), (Value.int .i64 0), (Value.int .i64 0)]) M rfl Try.el34.zero rfl (fun b18 w19 hb18 M => ?_)
    refine WL.store (v := (Value.agg #[(Value.int .u64 x_.epoch), (Value.bool x_.dead), (Value.int .i64 x_.agg.count), (Value.int .i64 x_.agg.sum), (Value.int .i64 x_.agg.min), (Value.int .i64 x_.agg.max)])) (cs := [(Value.int .u64 x_.epoch), (Value.bool x_.dead), (Value.int .i64 x_.agg.count), (Value.int .i64 x_.agg.sum), (Value.int .i64 x_.agg.min), (Value.int .i64 x_.agg.max)]) (c' := #[(Value.int .u64 x_.epoch), (Value.bool x_.dead), (Value.int .i64 x_.agg.count), (Value.int .i64 x_.agg.sum), (Value.int .i64 x_.agg.min), (Value.int .i64 x_.agg.max)]) M 0 rfl rfl Try.el34.sized rfl rfl rfl rfl (Nat.le_of_ble_eq_true rfl) (cel_cons rfl (cel_cons rfl (cel_cons rfl (cel_cons rfl (cel_cons rfl (cel_cons rfl cel_nil)))))) rfl rfl (fun w20 M => ?_)
    refine WL.nil ?_
    repeat (with_reducible first | refine inBlk_normal ?_ | refine inBlk_ret ?_ | refine thn_ret ?_)
    refine RoundA.go hLC15 M 1 rfl (fun w21 M => ?_)
    replace M : Mem _ _ _ [blk b18 (.cells #[(Value.int .u64 x_.epoch), (Value.bool x_.dead), (Value.int .i64 x_.agg.count), (Value.int .i64 x_.agg.sum), (Value.int .i64 x_.agg.min), (Value.int .i64 x_.agg.max)] 34), (LC11 LoopState.busy none), blk b7 (.cells #[(Value.int .i64 ((atV (xs.take k_) e).count)), (Value.int .i64 ((atV (xs.take k_) e).sum)), (Value.int .i64 ((atV (xs.take k_) e).min)), (Value.int .i64 ((atV (xs.take k_) e).max))] 32), blk b3 (.cells #[(Value.int .u64 e)] 23)] [(fun _ => True)] _ := M
    refine W.block ?_
    refine W.seq' ?_
    refine W.region rfl ?_
    refine WL.step (v := (Value.pointer (some ⟨b18, 0, none⟩))) rfl (Step.pure (by kernel_rfl)) ?_
    refine WL.step (v := (Value.int .u64 x_.epoch)) rfl (Step.load1 Try.sc23 rfl ((M.cell 0 rfl 0).trans rfl)) ?_
    refine WL.step (v := (Value.int .u64 e)) rfl (Step.load1 Try.sc23 rfl ((M.cell 3 rfl 0).trans rfl)) ?_
    refine WL.step (v := (Value.bool (decide ((x_.epoch : Int) ≤ (e : Int))))) rfl (Step.pure (by kernel_rfl)) ?_
    refine WL.nil ?_
    refine W.cond (t := decide ((x_.epoch : Int) ≤ (e : Int))) rfl (fun h22 => ?_) (fun h22 => ?_)
    ·
      have h22p := of_decide_eq_true h22
      refine W.region rfl ?_
      refine WL.step (v := (Value.pointer (some ⟨b18, 2, none⟩))) rfl (Step.pure (by kernel_rfl)) ?_
      refine WL.step (v := (Value.agg #[(Value.int .i64 x_.agg.count), (Value.int .i64 x_.agg.sum), (Value.int .i64 x_.agg.min), (Value.int .i64 x_.agg.max)])) rfl (Step.loadN Try.ag32 rfl (M.blk 0 rfl) (Nat.le_of_ble_eq_true rfl) rfl) ?_
      refine WL.store (v := (Value.agg #[(Value.int .i64 x_.agg.count), (Value.int .i64 x_.agg.sum), (Value.int .i64 x_.agg.min), (Value.int .i64 x_.agg.max)])) (cs := [(Value.int .i64 x_.agg.count), (Value.int .i64 x_.agg.sum), (Value.int .i64 x_.agg.min), (Value.int .i64 x_.agg.max)]) (c' := #[(Value.int .i64 x_.agg.count), (Value.int .i64 x_.agg.sum), (Value.int .i64 x_.agg.min), (Value.int .i64 x_.agg.max)]) M 2 rfl rfl Try.el32.sized rfl rfl rfl rfl (Nat.le_of_ble_eq_true rfl) (cel_cons rfl (cel_cons rfl (cel_cons rfl (cel_cons rfl cel_nil)))) rfl rfl (fun w23 M => ?_)
      refine WL.nil ?_
      repeat (with_reducible first | refine inBlk_normal ?_ | refine inBlk_ret ?_ | refine thn_ret ?_)
      refine RoundQ.go hLC15 M 1 rfl (fun w24 M => ?_)
      replace M : Mem _ _ _ [blk b18 (.cells #[(Value.int .u64 x_.epoch), (Value.bool x_.dead), (Value.int .i64 x_.agg.count), (Value.int .i64 x_.agg.sum), (Value.int .i64 x_.agg.min), (Value.int .i64 x_.agg.max)] 34), (LC11 LoopState.ready none), blk b7 (.cells #[(Value.int .i64 x_.agg.count), (Value.int .i64 x_.agg.sum), (Value.int .i64 x_.agg.min), (Value.int .i64 x_.agg.max)] 32), blk b3 (.cells #[(Value.int .u64 e)] 23)] [(fun _ => True)] _ := M
      have hs := atV_snoc (e := e) hx_
      rw [if_pos h22p] at hs
      replace M := M.rechunk 2 (c' := blk b7 (.cells #[(Value.int .i64 ((atV (xs.take (k_ + 1)) e).count)), (Value.int .i64 ((atV (xs.take (k_ + 1)) e).sum)), (Value.int .i64 ((atV (xs.take (k_ + 1)) e).min)), (Value.int .i64 ((atV (xs.take (k_ + 1)) e).max))] 32)) rfl (by rw [hs])
      replace M : Mem _ _ _ [blk b18 (.cells #[(Value.int .u64 x_.epoch), (Value.bool x_.dead), (Value.int .i64 x_.agg.count), (Value.int .i64 x_.agg.sum), (Value.int .i64 x_.agg.min), (Value.int .i64 x_.agg.max)] 34), (LC11 LoopState.ready none), blk b7 (.cells #[(Value.int .i64 ((atV (xs.take (k_ + 1)) e).count)), (Value.int .i64 ((atV (xs.take (k_ + 1)) e).sum)), (Value.int .i64 ((atV (xs.take (k_ + 1)) e).min)), (Value.int .i64 ((atV (xs.take (k_ + 1)) e).max))] 32), blk b3 (.cells #[(Value.int .u64 e)] 23)] [(fun _ => True)] _ := M
      refine .inl ⟨rfl, (), ?_⟩
      exact Mem.packL (Ls := [(LC11 LoopState.ready none), blk b7 (.cells #[(Value.int .i64 ((atV (xs.take (k_ + 1)) e).count)), (Value.int .i64 ((atV (xs.take (k_ + 1)) e).sum)), (Value.int .i64 ((atV (xs.take (k_ + 1)) e).min)), (Value.int .i64 ((atV (xs.take (k_ + 1)) e).max))] 32), blk b3 (.cells #[(Value.int .u64 e)] 23)]) (L := []) (M.close (L' := [(LC11 LoopState.ready none), blk b7 (.cells #[(Value.int .i64 ((atV (xs.take (k_ + 1)) e).count)), (Value.int .i64 ((atV (xs.take (k_ + 1)) e).sum)), (Value.int .i64 ((atV (xs.take (k_ + 1)) e).min)), (Value.int .i64 ((atV (xs.take (k_ + 1)) e).max))] 32), blk b3 (.cells #[(Value.int .u64 e)] 23)]) [1, 2, 3] rfl (by decide) trivial)
    ·
      have h22p := of_decide_eq_false h22
      refine W.skip ?_
      repeat (with_reducible first | refine inBlk_normal ?_ | refine inBlk_ret ?_ | refine thn_ret ?_)
      refine RoundQ.go hLC15 M 1 rfl (fun w25 M => ?_)
      replace M : Mem _ _ _ [blk b18 (.cells #[(Value.int .u64 x_.epoch), (Value.bool x_.dead), (Value.int .i64 x_.agg.count), (Value.int .i64 x_.agg.sum), (Value.int .i64 x_.agg.min), (Value.int .i64 x_.agg.max)] 34), (LC11 LoopState.ready none), blk b7 (.cells #[(Value.int .i64 ((atV (xs.take k_) e).count)), (Value.int .i64 ((atV (xs.take k_) e).sum)), (Value.int .i64 ((atV (xs.take k_) e).min)), (Value.int .i64 ((atV (xs.take k_) e).max))] 32), blk b3 (.cells #[(Value.int .u64 e)] 23)] [(fun _ => True)] _ := M
      have hs := atV_snoc (e := e) hx_
      rw [if_neg h22p] at hs
      replace M := M.rechunk 2 (c' := blk b7 (.cells #[(Value.int .i64 ((atV (xs.take (k_ + 1)) e).count)), (Value.int .i64 ((atV (xs.take (k_ + 1)) e).sum)), (Value.int .i64 ((atV (xs.take (k_ + 1)) e).min)), (Value.int .i64 ((atV (xs.take (k_ + 1)) e).max))] 32)) rfl (by rw [hs])
      replace M : Mem _ _ _ [blk b18 (.cells #[(Value.int .u64 x_.epoch), (Value.bool x_.dead), (Value.int .i64 x_.agg.count), (Value.int .i64 x_.agg.sum), (Value.int .i64 x_.agg.min), (Value.int .i64 x_.agg.max)] 34), (LC11 LoopState.ready none), blk b7 (.cells #[(Value.int .i64 ((atV (xs.take (k_ + 1)) e).count)), (Value.int .i64 ((atV (xs.take (k_ + 1)) e).sum)), (Value.int .i64 ((atV (xs.take (k_ + 1)) e).min)), (Value.int .i64 ((atV (xs.take (k_ + 1)) e).max))] 32), blk b3 (.cells #[(Value.int .u64 e)] 23)] [(fun _ => True)] _ := M
      refine .inl ⟨rfl, (), ?_⟩
      exact Mem.packL (Ls := [(LC11 LoopState.ready none), blk b7 (.cells #[(Value.int .i64 ((atV (xs.take (k_ + 1)) e).count)), (Value.int .i64 ((atV (xs.take (k_ + 1)) e).sum)), (Value.int .i64 ((atV (xs.take (k_ + 1)) e).min)), (Value.int .i64 ((atV (xs.take (k_ + 1)) e).max))] 32), blk b3 (.cells #[(Value.int .u64 e)] 23)]) (L := []) (M.close (L' := [(LC11 LoopState.ready none), blk b7 (.cells #[(Value.int .i64 ((atV (xs.take (k_ + 1)) e).count)), (Value.int .i64 ((atV (xs.take (k_ + 1)) e).sum)), (Value.int .i64 ((atV (xs.take (k_ + 1)) e).min)), (Value.int .i64 ((atV (xs.take (k_ + 1)) e).max))] 32), blk b3 (.cells #[(Value.int .u64 e)] 23)]) [1, 2, 3] rfl (by decide) trivial)
  ·
    rintro _ w26 (⟨_, m⟩ | ⟨k_, _, x_, hx_, m⟩)
    ·
      replace M := M.leaveW (C := [packL ([(LC11 LoopState.ready none), blk b7 (.cells #[(Value.int .i64 ((atV (xs.take 0) e).count)), (Value.int .i64 ((atV (xs.take 0) e).sum)), (Value.int .i64 ((atV (xs.take 0) e).min)), (Value.int .i64 ((atV (xs.take 0) e).max))] 32), blk b3 (.cells #[(Value.int .u64 e)] 23)])]) (D := [blk D12 (.deferred (some [])), blk pb9 (.cells #[(Value.pointer (some ⟨cb, 0, none⟩))] 26), blk b5 (.cells #[(Value.int .i64 0), (Value.int .i64 0), (Value.int .i64 0), (Value.int .i64 0)] 32)]) [0, 1, 2, 3] rfl (by decide) m
      replace M : Mem _ _ _ [packL ([(LC11 LoopState.ready none), blk b7 (.cells #[(Value.int .i64 ((atV (xs.take xs.length) e).count)), (Value.int .i64 ((atV (xs.take xs.length) e).sum)), (Value.int .i64 ((atV (xs.take xs.length) e).min)), (Value.int .i64 ((atV (xs.take xs.length) e).max))] 32), blk b3 (.cells #[(Value.int .u64 e)] 23)]), blk D12 (.deferred (some [])), blk pb9 (.cells #[(Value.pointer (some ⟨cb, 0, none⟩))] 26), blk b5 (.cells #[(Value.int .i64 0), (Value.int .i64 0), (Value.int .i64 0), (Value.int .i64 0)] 32)] [(fun w => w.heap[cb]? = some (.cells #[v] 135)), SlAt 6 v xs.length (xs.flatMap verE)] _ := M
      replace M := Mem.unpackL M
      replace M : Mem _ _ _ [(LC11 LoopState.ready none), blk b7 (.cells #[(Value.int .i64 ((atV (xs.take xs.length) e).count)), (Value.int .i64 ((atV (xs.take xs.length) e).sum)), (Value.int .i64 ((atV (xs.take xs.length) e).min)), (Value.int .i64 ((atV (xs.take xs.length) e).max))] 32), blk b3 (.cells #[(Value.int .u64 e)] 23), blk D12 (.deferred (some [])), blk pb9 (.cells #[(Value.pointer (some ⟨cb, 0, none⟩))] 26), blk b5 (.cells #[(Value.int .i64 0), (Value.int .i64 0), (Value.int .i64 0), (Value.int .i64 0)] 32)] [(fun w => w.heap[cb]? = some (.cells #[v] 135)), SlAt 6 v xs.length (xs.flatMap verE)] _ := M
      obtain ⟨_, hr1, hr2, hr3, M⟩ := M.endLoop' hLC15 0 rfl (by decide)
      refine ⟨_, hr1, hr2, .inl ⟨hr3, ?_⟩⟩
      replace M : Mem _ _ _ [blk b7 (.cells #[(Value.int .i64 ((atV (xs.take xs.length) e).count)), (Value.int .i64 ((atV (xs.take xs.length) e).sum)), (Value.int .i64 ((atV (xs.take xs.length) e).min)), (Value.int .i64 ((atV (xs.take xs.length) e).max))] 32), blk b3 (.cells #[(Value.int .u64 e)] 23), blk D12 (.deferred (some [])), blk pb9 (.cells #[(Value.pointer (some ⟨cb, 0, none⟩))] 26), blk b5 (.cells #[(Value.int .i64 0), (Value.int .i64 0), (Value.int .i64 0), (Value.int .i64 0)] 32)] [(fun w => w.heap[cb]? = some (.cells #[v] 135)), SlAt 6 v xs.length (xs.flatMap verE)] _ := M
      replace M := M.rechunk 0 (c' := blk b7 (.cells #[(Value.int .i64 ((atV xs e).count)), (Value.int .i64 ((atV xs e).sum)), (Value.int .i64 ((atV xs e).min)), (Value.int .i64 ((atV xs e).max))] 32)) rfl (by rw [List.take_length])
      replace M : Mem _ _ _ [blk b7 (.cells #[(Value.int .i64 ((atV xs e).count)), (Value.int .i64 ((atV xs e).sum)), (Value.int .i64 ((atV xs e).min)), (Value.int .i64 ((atV xs e).max))] 32), blk b3 (.cells #[(Value.int .u64 e)] 23), blk D12 (.deferred (some [])), blk pb9 (.cells #[(Value.pointer (some ⟨cb, 0, none⟩))] 26), blk b5 (.cells #[(Value.int .i64 0), (Value.int .i64 0), (Value.int .i64 0), (Value.int .i64 0)] 32)] [(fun w => w.heap[cb]? = some (.cells #[v] 135)), SlAt 6 v xs.length (xs.flatMap verE)] _ := M
      refine W.seq' ?_
      refine W.drawn M [0, 1, 2, 3, 4, 5] [2, 4] [] [blk b7 (.cells #[(Value.int .i64 ((atV xs e).count)), (Value.int .i64 ((atV xs e).sum)), (Value.int .i64 ((atV xs e).min)), (Value.int .i64 ((atV xs e).max))] 32), blk b3 (.cells #[(Value.int .u64 e)] 23), blk D12 (.deferred (some [])), blk pb9 (.cells #[(Value.pointer (some ⟨cb, 0, none⟩))] 26)] [(fun w => w.heap[cb]? = some (.cells #[v] 135)), SlAt 6 v xs.length (xs.flatMap verE)] (List.Sublist.cons_cons _ (List.Sublist.cons_cons _ (List.Sublist.cons_cons _ (List.Sublist.cons_cons _ (List.Sublist.cons _ List.Sublist.slnil))))) (fun _ h => h) Try.mixed (by kernel_rfl) ?_
      refine TW.read (v := (Value.agg #[(Value.int .i64 ((atV xs e).count)), (Value.int .i64 ((atV xs e).sum)), (Value.int .i64 ((atV xs e).min)), (Value.int .i64 ((atV xs e).max))])) rfl (by decide) (by decide) rfl (fun A w M => (Step.loadN Try.ag32 rfl (M.blk 1 rfl) (Nat.le_of_ble_eq_true rfl) rfl)) ?_
      refine TW.read (v := (Value.agg #[(Value.int .i64 ((atV xs e).count)), (Value.int .i64 ((atV xs e).sum)), (Value.int .i64 ((atV xs e).min)), (Value.int .i64 ((atV xs e).max))])) rfl (by decide) (by decide) rfl (fun A w M => (Step.loadN Try.ag32 rfl (M.blk 1 rfl) (Nat.le_of_ble_eq_true rfl) rfl)) ?_
      refine TW.callX (ι := Unit) (fun jx v_ => v_ = (Value.bool (decide ((atV xs e) = aggZ)))) (fun jx => [blk b7 (.cells #[(Value.int .i64 ((atV xs e).count)), (Value.int .i64 ((atV xs e).sum)), (Value.int .i64 ((atV xs e).min)), (Value.int .i64 ((atV xs e).max))] 32), blk b3 (.cells #[(Value.int .u64 e)] 23), blk D12 (.deferred (some [])), blk pb9 (.cells #[(Value.pointer (some ⟨cb, 0, none⟩))] 26), blk b5 (.cells #[(Value.int .i64 0), (Value.int .i64 0), (Value.int .i64 0), (Value.int .i64 0)] 32)]) (fun jx => [(fun w => w.heap[cb]? = some (.cells #[v] 135)), SlAt 6 v xs.length (xs.flatMap verE)]) rfl (by decide) rfl (fun jx => (List.Sublist.cons_cons _ (List.Sublist.cons_cons _ (List.Sublist.cons_cons _ (List.Sublist.cons_cons _ (List.Sublist.cons _ List.Sublist.slnil)))))) (fun jx r h => h) (fun A w M => Rets.mono (agg_blank (atV xs e) (M.enterW0 trivial)) (fun v_ w_ ⟨e_, m⟩ => ⟨(), e_, (M.leaveW0 m).sel (L' := [fl A, blk b7 (.cells #[(Value.int .i64 ((atV xs e).count)), (Value.int .i64 ((atV xs e).sum)), (Value.int .i64 ((atV xs e).min)), (Value.int .i64 ((atV xs e).max))] 32), blk b3 (.cells #[(Value.int .u64 e)] 23), blk D12 (.deferred (some [])), blk pb9 (.cells #[(Value.pointer (some ⟨cb, 0, none⟩))] 26), blk b5 (.cells #[(Value.int .i64 0), (Value.int .i64 0), (Value.int .i64 0), (Value.int .i64 0)] 32)]) [0, 1, 2, 3, 4, 5] rfl (by decide), fun b hb => M.keptW0 m (fl A) (List.mem_cons_self ..) b hb⟩)) (fun w => CallsF.func Try.en85 rfl) (fun jx v hp hin => ?_)
      replace hp := hp.symm; subst hp
      clear hin
      change TW _ _ _ _ _ _ _ _ (MemA _ _ _ [blk b7 (.cells #[(Value.int .i64 ((atV xs e).count)), (Value.int .i64 ((atV xs e).sum)), (Value.int .i64 ((atV xs e).min)), (Value.int .i64 ((atV xs e).max))] 32), blk b3 (.cells #[(Value.int .u64 e)] 23), blk D12 (.deferred (some [])), blk pb9 (.cells #[(Value.pointer (some ⟨cb, 0, none⟩))] 26), blk b5 (.cells #[(Value.int .i64 0), (Value.int .i64 0), (Value.int .i64 0), (Value.int .i64 0)] 32)] [(fun w => w.heap[cb]? = some (.cells #[v] 135)), SlAt 6 v xs.length (xs.flatMap verE)])
      refine TW.pure (v := (Value.bool (!(decide ((atV xs e) = aggZ))))) rfl (by decide) (by decide) rfl (fun w => (Step.pure (by kernel_rfl))) ?_
      refine TW.store (v := (Value.agg #[(Value.int .i64 ((atV xs e).count)), (Value.int .i64 ((atV xs e).sum)), (Value.int .i64 ((atV xs e).min)), (Value.int .i64 ((atV xs e).max))])) (cs := [(Value.int .i64 ((atV xs e).count)), (Value.int .i64 ((atV xs e).sum)), (Value.int .i64 ((atV xs e).min)), (Value.int .i64 ((atV xs e).max))]) (c' := #[(Value.int .i64 ((atV xs e).count)), (Value.int .i64 ((atV xs e).sum)), (Value.int .i64 ((atV xs e).min)), (Value.int .i64 ((atV xs e).max))]) 4 rfl rfl (by decide) rfl Try.el32.sized rfl rfl rfl rfl (Nat.le_of_ble_eq_true rfl) (cel_cons rfl (cel_cons rfl (cel_cons rfl (cel_cons rfl cel_nil)))) rfl rfl (List.Sublist.cons_cons _ (List.Sublist.cons_cons _ (List.Sublist.cons_cons _ (List.Sublist.cons_cons _ (List.Sublist.cons _ List.Sublist.slnil))))) (fun r h => h) ?_
      refine TW.pure (v := (Value.bool (!(decide ((atV xs e) = aggZ))))) rfl (by decide) (by decide) rfl (fun w => (Step.assign rfl)) ?_
      refine TW.done (fun w30 M => ?_)
      refine W.ret ?_
      obtain ⟨hD31, M⟩ := M.strike 2 rfl
      replace M : Mem _ _ _ [blk b7 (.cells #[(Value.int .i64 ((atV xs e).count)), (Value.int .i64 ((atV xs e).sum)), (Value.int .i64 ((atV xs e).min)), (Value.int .i64 ((atV xs e).max))] 32), blk b3 (.cells #[(Value.int .u64 e)] 23), blk pb9 (.cells #[(Value.pointer (some ⟨cb, 0, none⟩))] 26), blk b5 (.cells #[(Value.int .i64 ((atV xs e).count)), (Value.int .i64 ((atV xs e).sum)), (Value.int .i64 ((atV xs e).min)), (Value.int .i64 ((atV xs e).max))] 32)] [(fun w => w.heap[cb]? = some (.cells #[v] 135)), SlAt 6 v xs.length (xs.flatMap verE)] _ := M
      refine ⟨.inl rfl, _, (.cons hD31 .nil), (Value.tuple #[(Value.agg #[(Value.int .i64 ((atV xs e).count)), (Value.int .i64 ((atV xs e).sum)), (Value.int .i64 ((atV xs e).min)), (Value.int .i64 ((atV xs e).max))]), (Value.bool (!(decide ((atV xs e) = aggZ))))]), ?_, ?_⟩
      · exact (Res.r2 (RV.cellN Try.ag32 rfl (M.blk 3 rfl) rfl) (show RV _ _ _ (.tmp 5) (Value.bool (!(decide ((atV xs e) = aggZ)))) from by exact rfl))
      refine ⟨?_, M.close [] rfl (by decide) trivial⟩
      rfl
    ·
      exact (m.chunk 0 rfl).inv.elim
end Go.Proofs
