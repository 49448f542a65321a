/- Walks. -/
import Derived.Test.YtlehkjkpgmkbiaaTrG1
set_option maxRecDepth 100000
set_option linter.all false
namespace Go.Proofs
open Go Tp
theorem Try.un130 : Und Try.prog 130 (.slice 32) := by unfold Und; kernel_rfl

theorem agg_join {G : Nat → Prop} {w : World} (v : Value) (l : List Agg5)  (hb : l.length ≤ 1000000) (hin : inJ l) (M : Mem G (fun _ => False) w [] [SlAt 4 v l.length (l.flatMap aggE)] w) : Rets Try.prog 72 #[v] w fun r w' => r = (Value.tuple #[(Value.agg #[(Value.int .i64 (((joinL l).1).count)), (Value.int .i64 (((joinL l).1).sum)), (Value.int .i64 (((joinL l).1).min)), (Value.int .i64 (((joinL l).1).max))]), (Value.int .i64 ((joinL l).2))]) ∧ Mem G (fun _ => False) w [] [] w' := by
  refine Rets.enter 66 _ Try.func72 rfl Try.ntmps72 Try.results72 (by simp) ?_
  have hle1 := SlAt.le' (M.rep 0 rfl)
  have sl2 : IsSl v := SlAt.isSl (Mem.rep M 0 rfl)
  refine W.seq' ?_
  refine W.region rfl ?_
  refine WL.alloc (c := #[(Value.int .i64 0), (Value.int .i64 0), (Value.int .i64 0), (Value.int .i64 0)]) M rfl Try.el32.zero rfl (fun b3 w4 hb3 M => ?_)
  refine WL.step (v := (Value.int .i64 0)) rfl (Step.assign rfl) ?_
  refine WL.nil ?_
  refine W.seq' ?_
  refine W.region rfl ?_
  refine WL.step (v := (Value.slice none 0 0)) rfl (Step.assign rfl) ?_
  refine WL.step (v := (Value.slice none 0 0)) rfl (Step.assign rfl) ?_
  refine WL.nil ?_
  refine W.seq' ?_
  refine W.region rfl ?_
  refine WL.alloc (c := #[(Value.int .i64 0), (Value.int .i64 0), (Value.int .i64 0), (Value.int .i64 0)]) M rfl Try.el32.zero rfl (fun b5 w6 hb5 M => ?_)
  refine WL.nil ?_
  refine W.seq' ?_
  refine W.seq' ?_
  refine W.region rfl ?_
  refine WL.step (v := v) rfl (Step.move rfl) ?_
  refine WL.step (v := (Value.int .i64 ↑l.length)) rfl (Step.lenSl Try.un130 rfl (M.rep 0 rfl)) ?_
  refine WL.step (v := (Value.int .i64 0)) rfl (Step.move rfl) ?_
  refine WL.nil ?_
  refine W.block ?_
  replace M := M.ownNil 2 1
  replace M := M.ownNil 2 1
  replace M : Mem _ _ _ [own 2 1 (Value.slice none 0 0) (([] : List Int).length) (([] : List Int).flatMap intE), own 2 1 (Value.slice none 0 0) (([] : List Int).length) (([] : List Int).flatMap intE), blk b5 (.cells #[(Value.int .i64 0), (Value.int .i64 0), (Value.int .i64 0), (Value.int .i64 0)] 32), blk b3 (.cells #[(Value.int .i64 0), (Value.int .i64 0), (Value.int .i64 0), (Value.int .i64 0)] 32)] [SlAt 4 v l.length (l.flatMap aggE)] _ := M
  replace M := M.rechunk 0 (c' := own 2 1 (Value.slice none 0 0) ((cntJ (l.take 0)).length) ((cntJ (l.take 0)).flatMap intE)) rfl rfl
  replace M : Mem _ _ _ [own 2 1 (Value.slice none 0 0) ((cntJ (l.take 0)).length) ((cntJ (l.take 0)).flatMap intE), own 2 1 (Value.slice none 0 0) (([] : List Int).length) (([] : List Int).flatMap intE), blk b5 (.cells #[(Value.int .i64 0), (Value.int .i64 0), (Value.int .i64 0), (Value.int .i64 0)] 32), blk b3 (.cells #[(Value.int .i64 0), (Value.int .i64 0), (Value.int .i64 0), (Value.int .i64 0)] 32)] [SlAt 4 v l.length (l.flatMap aggE)] _ := M
  replace M := M.rechunk 1 (c' := own 2 1 (Value.slice none 0 0) ((sumJ (l.take 0)).length) ((sumJ (l.take 0)).flatMap intE)) rfl rfl
  replace M : Mem _ _ _ [own 2 1 (Value.slice none 0 0) ((cntJ (l.take 0)).length) ((cntJ (l.take 0)).flatMap intE), own 2 1 (Value.slice none 0 0) ((sumJ (l.take 0)).length) ((sumJ (l.take 0)).flatMap intE), blk b5 (.cells #[(Value.int .i64 0), (Value.int .i64 0), (Value.int .i64 0), (Value.int .i64 0)] 32), blk b3 (.cells #[(Value.int .i64 0), (Value.int .i64 0), (Value.int .i64 0), (Value.int .i64 0)] 32)] [SlAt 4 v l.length (l.flatMap aggE)] _ := M
  replace M := M.rechunk 2 (c' := blk b5 (.cells #[(Value.int .i64 0), (Value.int .i64 0), (Value.int .i64 (minJ (l.take 0))), (Value.int .i64 (maxJ (l.take 0)))] 32)) rfl rfl
  replace M : Mem _ _ _ [own 2 1 (Value.slice none 0 0) ((cntJ (l.take 0)).length) ((cntJ (l.take 0)).flatMap intE), own 2 1 (Value.slice none 0 0) ((sumJ (l.take 0)).length) ((sumJ (l.take 0)).flatMap intE), blk b5 (.cells #[(Value.int .i64 0), (Value.int .i64 0), (Value.int .i64 (minJ (l.take 0))), (Value.int .i64 (maxJ (l.take 0)))] 32), blk b3 (.cells #[(Value.int .i64 0), (Value.int .i64 0), (Value.int .i64 0), (Value.int .i64 0)] 32)] [SlAt 4 v l.length (l.flatMap aggE)] _ := M
  replace M := M.sel (L' := [own 2 1 (Value.slice none 0 0) ((cntJ (l.take 0)).length) ((cntJ (l.take 0)).flatMap intE), own 2 1 (Value.slice none 0 0) ((sumJ (l.take 0)).length) ((sumJ (l.take 0)).flatMap intE), blk b5 (.cells #[(Value.int .i64 0), (Value.int .i64 0), (Value.int .i64 (minJ (l.take 0))), (Value.int .i64 (maxJ (l.take 0)))] 32), blk b3 (.cells #[(Value.int .i64 0), (Value.int .i64 0), (Value.int .i64 0), (Value.int .i64 0)] 32)]) [0, 1, 2, 3] rfl (by decide)
  replace M : Mem _ _ _ [own 2 1 (Value.slice none 0 0) ((cntJ (l.take 0)).length) ((cntJ (l.take 0)).flatMap intE), own 2 1 (Value.slice none 0 0) ((sumJ (l.take 0)).length) ((sumJ (l.take 0)).flatMap intE), blk b5 (.cells #[(Value.int .i64 0), (Value.int .i64 0), (Value.int .i64 (minJ (l.take 0))), (Value.int .i64 (maxJ (l.take 0)))] 32), blk b3 (.cells #[(Value.int .i64 0), (Value.int .i64 0), (Value.int .i64 0), (Value.int .i64 0)] 32)] [SlAt 4 v l.length (l.flatMap aggE)] _ := M
  refine W.loop (fun kk ρ w' => ∃ (k_ : Nat) (c_ : Value) (s_ : Value) (f1_ : Int) (f2_ : Int), ((k_ ≤ l.length) ∧ kk = l.length - k_) ∧ ρ.has [(2, (Value.pointer (some ⟨b3, 0, none⟩))), (3, (Value.int .i64 0)), (4, c_), (5, s_), (6, (Value.pointer (some ⟨b5, 0, none⟩))), (11, v), (12, (Value.int .i64 ↑l.length)), (13, (Value.int .i64 ↑k_))] ∧ Mem G (fun _ => False) w [own 2 1 c_ ((cntJ (l.take k_)).length) ((cntJ (l.take k_)).flatMap intE), own 2 1 s_ ((sumJ (l.take k_)).length) ((sumJ (l.take k_)).flatMap intE), blk b5 (.cells #[(Value.int .i64 f1_), (Value.int .i64 f2_), (Value.int .i64 (minJ (l.take k_))), (Value.int .i64 (maxJ (l.take k_)))] 32), blk b3 (.cells #[(Value.int .i64 0), (Value.int .i64 0), (Value.int .i64 0), (Value.int .i64 0)] 32)] [SlAt 4 v l.length (l.flatMap aggE)]  w') _ ⟨0, _, _, 0, 0, ⟨(Nat.zero_le _), rfl⟩, ⟨rfl, rfl, rfl, rfl, rfl, rfl, rfl, rfl, rfl, rfl⟩, M⟩ ?_
  rintro _ ρ8 w7 ⟨k_, c_, s_, f1_, f2_, ⟨hi9, rfl⟩, hρ, M⟩
  obtain ⟨ρ8, rfl⟩ := hρ.know
  clear hρ
  have sl10 : IsSl c_ := SlAt.isSl (own_slAt (M.chunk 0 rfl).inv)
  have sl11 : IsSl s_ := SlAt.isSl (own_slAt (M.chunk 1 rfl).inv)
  have hj1_ := cntJ_in hin k_
  have hj2_ := sumJ_in hin k_
  obtain ⟨hj3_, hj4_, hj5_⟩ := lenJ (l.take k_)
  have hj6_ : (l.take k_).length ≤ k_ := by rw [List.length_take]; omega
  refine W.seq' ?_
  refine W.region rfl ?_
  refine WL.step (v := (Value.bool (decide ((↑k_ : Int) < (↑l.length : Int))))) rfl (Step.pure (by kernel_rfl)) ?_
  refine WL.nil ?_
  refine W.seq' ?_
  refine W.cond (t := decide ((↑k_ : Int) < (↑l.length : Int))) rfl (fun h12 => ?_) (fun h12 => ?_)
  ·
    have h12p := of_decide_eq_true h12
    refine W.skip ?_
    refine W.seq' ?_
    refine W.block ?_
    refine W.seq' ?_
    refine W.region rfl ?_
    obtain ⟨cap14, hb13⟩ := SlAt.base (M.rep 0 rfl) (by omega)
    obtain ⟨x15, hx15⟩ := elem_of_lt (xs := l) (i := k_) (by omega)
    refine WL.step (v := (Value.pointer (some ⟨(sBlk v), sOff v + k_ * 4, none⟩))) rfl (Step.indexAddr (i := k_) (Try.un130).run Try.el32.sized rfl rfl (by omega) hb13 (by omega)) ?_
    refine WL.step (v := (Value.agg #[(Value.int .i64 x15.count), (Value.int .i64 x15.sum), (Value.int .i64 x15.min), (Value.int .i64 x15.max)])) rfl (Step.loadEN (k := 0) (cs' := [(Value.int .i64 x15.count), (Value.int .i64 x15.sum), (Value.int .i64 x15.min), (Value.int .i64 x15.max)]) Try.ag32 (flat_ec (M.rep 0 rfl) hx15 aggE_len) (by decide) rfl rfl rfl) ?_
    refine WL.alloc (c := #[(Value.int .i64 0), (Value.int .i64 0), (Value.int .i64 0), (Value.int .i64 0)]) M rfl Try.el32.zero rfl (fun b16 w17 hb16 M => ?_)
    refine WL.store (v := (Value.agg #[(Value.int .i64 x15.count), (Value.int .i64 x15.sum), (Value.int .i64 x15.min), (Value.int .i64 x15.max)])) (cs := [(Value.int .i64 x15.count), (Value.int .i64 x15.sum), (Value.int .i64 x15.min), (Value.int .i64 x15.max)]) (c' := #[(Value.int .i64 x15.count), (Value.int .i64 x15.sum), (Value.int .i64 x15.min), (Value.int .i64 x15.max)]) M 0 rfl rfl Try.el32.sized rfl rfl rfl rfl (Nat.le_of_ble_eq_true rfl) (cel_cons rfl (cel_cons rfl (cel_cons rfl (cel_cons rfl cel_nil)))) rfl rfl (fun w18 M => ?_)
    refine WL.nil ?_
    refine W.seq' ?_
    refine W.seq' ?_
    refine W.region rfl ?_
    refine WL.step (v := (Value.agg #[(Value.int .i64 x15.count), (Value.int .i64 x15.sum), (Value.int .i64 x15.min), (Value.int .i64 x15.max)])) rfl (Step.loadN Try.ag32 rfl (M.blk 0 rfl) (Nat.le_of_ble_eq_true rfl) rfl) ?_
    refine WL.callX rfl (agg_blank x15 (M.enterW0 trivial)) (CallsF.func Try.en85 rfl) ?_
    rintro _ w19 ⟨rfl, m⟩
    replace M := M.leaveW0 m
    clear m
    replace M : Mem _ _ _ [blk b16 (.cells #[(Value.int .i64 x15.count), (Value.int .i64 x15.sum), (Value.int .i64 x15.min), (Value.int .i64 x15.max)] 32), own 2 1 c_ ((cntJ (l.take k_)).length) ((cntJ (l.take k_)).flatMap intE), own 2 1 s_ ((sumJ (l.take k_)).length) ((sumJ (l.take k_)).flatMap intE), blk b5 (.cells #[(Value.int .i64 f1_), (Value.int .i64 f2_), (Value.int .i64 (minJ (l.take k_))), (Value.int .i64 (maxJ (l.take k_)))] 32), blk b3 (.cells #[(Value.int .i64 0), (Value.int .i64 0), (Value.int .i64 0), (Value.int .i64 0)] 32)] [SlAt 4 v l.length (l.flatMap aggE)] _ := M
    refine WL.nil ?_
    refine W.cond (t := decide (x15 = aggZ)) rfl (fun h20 => ?_) (fun h20 => ?_)
    ·
      have h20p := of_decide_eq_true h20
      refine W.exit ?_
      refine thn_exit ?_
      refine inBlk_hit ?_
      refine W.region rfl ?_
      refine WL.step (v := (Value.int .i64 (↑k_ + 1))) rfl (Step.add rfl rfl (wrap_i64 (by omega))) ?_
      refine WL.step (v := (Value.int .i64 (↑k_ + 1))) rfl (Step.move rfl) ?_
      refine WL.nil ?_
      replace M := M.rechunk 1 (c' := own 2 1 c_ ((cntJ (l.take (k_ + 1))).length) ((cntJ (l.take (k_ + 1))).flatMap intE)) rfl (by rw [cntJ_pass hx15 (by simpa using h20)])
      replace M : Mem _ _ _ [blk b16 (.cells #[(Value.int .i64 x15.count), (Value.int .i64 x15.sum), (Value.int .i64 x15.min), (Value.int .i64 x15.max)] 32), own 2 1 c_ ((cntJ (l.take (k_ + 1))).length) ((cntJ (l.take (k_ + 1))).flatMap intE), own 2 1 s_ ((sumJ (l.take k_)).length) ((sumJ (l.take k_)).flatMap intE), blk b5 (.cells #[(Value.int .i64 f1_), (Value.int .i64 f2_), (Value.int .i64 (minJ (l.take k_))), (Value.int .i64 (maxJ (l.take k_)))] 32), blk b3 (.cells #[(Value.int .i64 0), (Value.int .i64 0), (Value.int .i64 0), (Value.int .i64 0)] 32)] [SlAt 4 v l.length (l.flatMap aggE)] _ := M
      replace M := M.rechunk 2 (c' := own 2 1 s_ ((sumJ (l.take (k_ + 1))).length) ((sumJ (l.take (k_ + 1))).flatMap intE)) rfl (by rw [sumJ_pass hx15 (by simpa using h20)])
      replace M : Mem _ _ _ [blk b16 (.cells #[(Value.int .i64 x15.count), (Value.int .i64 x15.sum), (Value.int .i64 x15.min), (Value.int .i64 x15.max)] 32), own 2 1 c_ ((cntJ (l.take (k_ + 1))).length) ((cntJ (l.take (k_ + 1))).flatMap intE), own 2 1 s_ ((sumJ (l.take (k_ + 1))).length) ((sumJ (l.take (k_ + 1))).flatMap intE), blk b5 (.cells #[(Value.int .i64 f1_), (Value.int .i64 f2_), (Value.int .i64 (minJ (l.take k_))), (Value.int .i64 (maxJ (l.take k_)))] 32), blk b3 (.cells #[(Value.int .i64 0), (Value.int .i64 0), (Value.int .i64 0), (Value.int .i64 0)] 32)] [SlAt 4 v l.length (l.flatMap aggE)] _ := M
      have hminJ_ : minJ (l.take (k_ + 1)) = (minJ (l.take k_) : Int) := by rw [minJ_pass hx15 (by simpa using h20)]
      have hmaxJ_ : maxJ (l.take (k_ + 1)) = (maxJ (l.take k_) : Int) := by rw [maxJ_pass hx15 (by simpa using h20)]
      replace M := M.rechunk 3 (c' := blk b5 (.cells #[(Value.int .i64 f1_), (Value.int .i64 f2_), (Value.int .i64 (minJ (l.take (k_ + 1)))), (Value.int .i64 (maxJ (l.take (k_ + 1))))] 32)) rfl (by rw [hminJ_, hmaxJ_])
      replace M : Mem _ _ _ [blk b16 (.cells #[(Value.int .i64 x15.count), (Value.int .i64 x15.sum), (Value.int .i64 x15.min), (Value.int .i64 x15.max)] 32), own 2 1 c_ ((cntJ (l.take (k_ + 1))).length) ((cntJ (l.take (k_ + 1))).flatMap intE), own 2 1 s_ ((sumJ (l.take (k_ + 1))).length) ((sumJ (l.take (k_ + 1))).flatMap intE), blk b5 (.cells #[(Value.int .i64 f1_), (Value.int .i64 f2_), (Value.int .i64 (minJ (l.take (k_ + 1)))), (Value.int .i64 (maxJ (l.take (k_ + 1))))] 32), blk b3 (.cells #[(Value.int .i64 0), (Value.int .i64 0), (Value.int .i64 0), (Value.int .i64 0)] 32)] [SlAt 4 v l.length (l.flatMap aggE)] _ := M
      replace M := M.sel (L' := [own 2 1 c_ ((cntJ (l.take (k_ + 1))).length) ((cntJ (l.take (k_ + 1))).flatMap intE), own 2 1 s_ ((sumJ (l.take (k_ + 1))).length) ((sumJ (l.take (k_ + 1))).flatMap intE), blk b5 (.cells #[(Value.int .i64 f1_), (Value.int .i64 f2_), (Value.int .i64 (minJ (l.take (k_ + 1)))), (Value.int .i64 (maxJ (l.take (k_ + 1))))] 32), blk b3 (.cells #[(Value.int .i64 0), (Value.int .i64 0), (Value.int .i64 0), (Value.int .i64 0)] 32)]) [1, 2, 3, 4] rfl (by decide)
      exact ⟨_, (by omega), k_ + 1, _, _, f1_, f2_, ⟨(by omega), rfl⟩, ⟨rfl, rfl, rfl, rfl, rfl, rfl, rfl, rfl, rfl, rfl⟩, M⟩
    ·
      have h20p := of_decide_eq_false h20
      refine W.skip ?_
      refine W.seq' ?_
      refine W.seq' ?_
      refine W.region rfl ?_
      refine WL.step (v := s_) rfl (Step.move rfl) ?_
      refine WL.step (v := (Value.int .i64 (↑((sumJ (l.take k_)).length)))) rfl (Step.lenSl Try.un121 rfl (own_slAt (M.chunk 2 rfl).inv)) ?_
      refine WL.step (v := (Value.bool ((↑((sumJ (l.take k_)).length) : Int) == (0 : Int)))) rfl (Step.pure (by kernel_rfl)) ?_
      refine WL.nil ?_
      refine W.cond (t := (↑((sumJ (l.take k_)).length) : Int) == (0 : Int)) rfl (fun h21 => ?_) (fun h21 => ?_)
      ·
        have h21p : (↑((sumJ (l.take k_)).length) : Int) = (0 : Int) := by simpa using h21
        refine W.region rfl ?_
        refine WL.step (v := (Value.agg #[(Value.int .i64 x15.count), (Value.int .i64 x15.sum), (Value.int .i64 x15.min), (Value.int .i64 x15.max)])) rfl (Step.loadN Try.ag32 rfl (M.blk 0 rfl) (Nat.le_of_ble_eq_true rfl) rfl) ?_
        refine WL.store (v := (Value.agg #[(Value.int .i64 x15.count), (Value.int .i64 x15.sum), (Value.int .i64 x15.min), (Value.int .i64 x15.max)])) (cs := [(Value.int .i64 x15.count), (Value.int .i64 x15.sum), (Value.int .i64 x15.min), (Value.int .i64 x15.max)]) (c' := #[(Value.int .i64 x15.count), (Value.int .i64 x15.sum), (Value.int .i64 x15.min), (Value.int .i64 x15.max)]) M 3 rfl rfl Try.el32.sized rfl rfl rfl rfl (Nat.le_of_ble_eq_true rfl) (cel_cons rfl (cel_cons rfl (cel_cons rfl (cel_cons rfl cel_nil)))) rfl rfl (fun w22 M => ?_)
        refine WL.nil ?_
        refine W.seq' ?_
        refine W.drawn M [0, 1, 2, 5, 6, 7, 3, 4, 8, 9, 10, 11] [4, 9] [3, 8] [blk b16 (.cells #[(Value.int .i64 x15.count), (Value.int .i64 x15.sum), (Value.int .i64 x15.min), (Value.int .i64 x15.max)] 32), blk b5 (.cells #[(Value.int .i64 x15.count), (Value.int .i64 x15.sum), (Value.int .i64 x15.min), (Value.int .i64 x15.max)] 32), blk b3 (.cells #[(Value.int .i64 0), (Value.int .i64 0), (Value.int .i64 0), (Value.int .i64 0)] 32)] [SlAt 4 v l.length (l.flatMap aggE)] (List.Sublist.cons_cons _ (List.Sublist.cons _ (List.Sublist.cons _ (List.Sublist.cons_cons _ (List.Sublist.cons_cons _ List.Sublist.slnil))))) (fun _ h => h) Try.mixed (by kernel_rfl) ?_
        refine TW.pure (v := c_) rfl (by decide) (by decide) rfl (fun w => (Step.move rfl)) ?_
        refine TW.pure (v := (Value.pointer (some ⟨b16, 0, none⟩))) rfl (by decide) (by decide) rfl (fun w => (Step.pure (by kernel_rfl))) ?_
        refine TW.read (v := (Value.int .i64 x15.count)) rfl (by decide) (by decide) rfl (fun A w M => (Step.load1 Try.sc2 rfl ((M.cell 1 rfl 0).trans rfl))) ?_
        refine TW.pure (v := s_) rfl (by decide) (by decide) rfl (fun w => (Step.move rfl)) ?_
        refine TW.pure (v := (Value.pointer (some ⟨b16, 1, none⟩))) rfl (by decide) (by decide) rfl (fun w => (Step.pure (by kernel_rfl))) ?_
        refine TW.read (v := (Value.int .i64 x15.sum)) rfl (by decide) (by decide) rfl (fun A w M => (Step.load1 Try.sc2 rfl ((M.cell 1 rfl 1).trans rfl))) ?_
        refine TW.new (obj := .cells #[(Value.int .i64 x15.count)] 2) (fun b => .slice (some ⟨b, 0, none⟩) 1 1) rfl (by decide) (by decide) rfl (fun w => Step.make (by kernel_rfl)) (fun b39 => ?_)
        refine TW.doesM (fun v_ => own 2 1 v_ (((cntJ (l.take k_)) ++ ([x15.count] : List Int)).length) (((cntJ (l.take k_)) ++ ([x15.count] : List Int)).flatMap intE)) 2 rfl rfl (by decide) rfl (fun v_ => (List.Sublist.cons _ (List.Sublist.cons_cons _ (List.Sublist.cons _ (List.Sublist.cons _ (List.Sublist.cons_cons _ (List.Sublist.cons_cons _ List.Sublist.slnil))))))) (fun r h => h) (fun A w M => M.appendF' (cntJ (l.take k_)) ([x15.count] : List Int) (sv := (Value.slice (some ⟨b39, 0, none⟩) 1 1)) 3 Try.un121 Try.el2 rfl (by decide) rfl rfl rfl (SlAt.of_blk (M.blk 1 rfl) rfl (by decide)) intE_cel (by have := hj5_; simp only [maxLen, List.length_nil, List.length_cons, List.length_append]; omega) (by have := hj5_; (try simp only [List.length_nil, List.length_cons, List.length_append]); omega)) (fun v40 hin => ?_)
        obtain ⟨_, _, hin⟩ := hin
        have sl42 : IsSl v40 := SlAt.isSl (own_slAt (Mem.chunk hin 3 rfl).inv)
        clear hin
        change TW _ _ _ _ _ _ _ _ (MemA _ _ _ [blk b39 (.cells #[(Value.int .i64 x15.count)] 2), blk b16 (.cells #[(Value.int .i64 x15.count), (Value.int .i64 x15.sum), (Value.int .i64 x15.min), (Value.int .i64 x15.max)] 32), own 2 1 v40 (((cntJ (l.take k_)) ++ ([x15.count] : List Int)).length) (((cntJ (l.take k_)) ++ ([x15.count] : List Int)).flatMap intE), own 2 1 s_ ((sumJ (l.take k_)).length) ((sumJ (l.take k_)).flatMap intE), blk b5 (.cells #[(Value.int .i64 x15.count), (Value.int .i64 x15.sum), (Value.int .i64 x15.min), (Value.int .i64 x15.max)] 32), blk b3 (.cells #[(Value.int .i64 0), (Value.int .i64 0), (Value.int .i64 0), (Value.int .i64 0)] 32)] [SlAt 4 v l.length (l.flatMap aggE)])
        refine TW.new (obj := .cells #[(Value.int .i64 x15.sum)] 2) (fun b => .slice (some ⟨b, 0, none⟩) 1 1) rfl (by decide) (by decide) rfl (fun w => Step.make (by kernel_rfl)) (fun b43 => ?_)
        refine TW.doesM (fun v_ => own 2 1 v_ (((sumJ (l.take k_)) ++ ([x15.sum] : List Int)).length) (((sumJ (l.take k_)) ++ ([x15.sum] : List Int)).flatMap intE)) 4 rfl rfl (by decide) rfl (fun v_ => (List.Sublist.cons _ (List.Sublist.cons _ (List.Sublist.cons_cons _ (List.Sublist.cons _ (List.Sublist.cons _ (List.Sublist.cons_cons _ (List.Sublist.cons_cons _ List.Sublist.slnil)))))))) (fun r h => h) (fun A w M => M.appendF' (sumJ (l.take k_)) ([x15.sum] : List Int) (sv := (Value.slice (some ⟨b43, 0, none⟩) 1 1)) 5 Try.un121 Try.el2 rfl (by decide) rfl rfl rfl (SlAt.of_blk (M.blk 1 rfl) rfl (by decide)) intE_cel (by have := hj5_; simp only [maxLen, List.length_nil, List.length_cons, List.length_append]; omega) (by have := hj5_; (try simp only [List.length_nil, List.length_cons, List.length_append]); omega)) (fun v44 hin => ?_)
        obtain ⟨_, _, hin⟩ := hin
        have sl46 : IsSl v44 := SlAt.isSl (own_slAt (Mem.chunk hin 5 rfl).inv)
        clear hin
        change TW _ _ _ _ _ _ _ _ (MemA _ _ _ [blk b43 (.cells #[(Value.int .i64 x15.sum)] 2), blk b39 (.cells #[(Value.int .i64 x15.count)] 2), blk b16 (.cells #[(Value.int .i64 x15.count), (Value.int .i64 x15.sum), (Value.int .i64 x15.min), (Value.int .i64 x15.max)] 32), own 2 1 v40 (((cntJ (l.take k_)) ++ ([x15.count] : List Int)).length) (((cntJ (l.take k_)) ++ ([x15.count] : List Int)).flatMap intE), own 2 1 v44 (((sumJ (l.take k_)) ++ ([x15.sum] : List Int)).length) (((sumJ (l.take k_)) ++ ([x15.sum] : List Int)).flatMap intE), blk b5 (.cells #[(Value.int .i64 x15.count), (Value.int .i64 x15.sum), (Value.int .i64 x15.min), (Value.int .i64 x15.max)] 32), blk b3 (.cells #[(Value.int .i64 0), (Value.int .i64 0), (Value.int .i64 0), (Value.int .i64 0)] 32)] [SlAt 4 v l.length (l.flatMap aggE)])
        refine TW.pure (v := v40) rfl (by decide) (by decide) rfl (fun w => (Step.assign rfl)) ?_
        refine TW.pure (v := v44) rfl (by decide) (by decide) rfl (fun w => (Step.assign rfl)) ?_
        refine TW.done (fun w47 M => ?_)
        refine W.drawn M [0, 1, 2, 3, 4, 5, 6, 7, 8, 9, 10, 11, 12, 13] [1, 6, 11, 13] [1, 6] [blk b43 (.cells #[(Value.int .i64 x15.sum)] 2), blk b39 (.cells #[(Value.int .i64 x15.count)] 2), blk b16 (.cells #[(Value.int .i64 x15.count), (Value.int .i64 x15.sum), (Value.int .i64 x15.min), (Value.int .i64 x15.max)] 32), own 2 1 v40 (((cntJ (l.take k_)) ++ ([x15.count] : List Int)).length) (((cntJ (l.take k_)) ++ ([x15.count] : List Int)).flatMap intE), own 2 1 v44 (((sumJ (l.take k_)) ++ ([x15.sum] : List Int)).length) (((sumJ (l.take k_)) ++ ([x15.sum] : List Int)).flatMap intE), blk b3 (.cells #[(Value.int .i64 0), (Value.int .i64 0), (Value.int .i64 0), (Value.int .i64 0)] 32)] [SlAt 4 v l.length (l.flatMap aggE)] (List.Sublist.cons_cons _ (List.Sublist.cons_cons _ (List.Sublist.cons_cons _ (List.Sublist.cons_cons _ (List.Sublist.cons_cons _ (List.Sublist.cons _ (List.Sublist.cons_cons _ List.Sublist.slnil))))))) (fun _ h => h) Try.mixed (by kernel_rfl) ?_
        refine TW.pure (v := (Value.pointer (some ⟨b5, 2, none⟩))) rfl (by decide) (by decide) rfl (fun w => (Step.pure (by kernel_rfl))) ?_
        refine TW.readP (v := (Value.int .i64 x15.min)) rfl (by decide) (by decide) rfl (fun A w M => (Step.load1 Try.sc2 rfl ((M.cell 6 rfl 2).trans rfl))) ?_
        refine TW.pure (v := (Value.pointer (some ⟨b16, 2, none⟩))) rfl (by decide) (by decide) rfl (fun w => (Step.pure (by kernel_rfl))) ?_
        refine TW.read (v := (Value.int .i64 x15.min)) rfl (by decide) (by decide) rfl (fun A w M => (Step.load1 Try.sc2 rfl ((M.cell 3 rfl 2).trans rfl))) ?_
        refine TW.pure (v := (Value.int .i64 (min (x15.min : Int) (x15.min : Int)))) rfl (by decide) (by decide) rfl (fun w => (Step.minI rfl rfl)) ?_
        refine TW.pure (v := (Value.pointer (some ⟨b5, 3, none⟩))) rfl (by decide) (by decide) rfl (fun w => (Step.pure (by kernel_rfl))) ?_
        refine TW.readP (v := (Value.int .i64 x15.max)) rfl (by decide) (by decide) rfl (fun A w M => (Step.load1 Try.sc2 rfl ((M.cell 6 rfl 3).trans rfl))) ?_
        refine TW.pure (v := (Value.pointer (some ⟨b16, 3, none⟩))) rfl (by decide) (by decide) rfl (fun w => (Step.pure (by kernel_rfl))) ?_
        refine TW.read (v := (Value.int .i64 x15.max)) rfl (by decide) (by decide) rfl (fun A w M => (Step.load1 Try.sc2 rfl ((M.cell 3 rfl 3).trans rfl))) ?_
        refine TW.pure (v := (Value.int .i64 (max (x15.max : Int) (x15.max : Int)))) rfl (by decide) (by decide) rfl (fun w => (Step.maxI rfl rfl)) ?_
        refine TW.pure (v := (Value.pointer (some ⟨b5, 2, none⟩))) rfl (by decide) (by decide) rfl (fun w => (Step.pure (by kernel_rfl))) ?_
        refine TW.store (v := (Value.int .i64 (min (x15.min : Int) (x15.min : Int)))) (cs := [(Value.int .i64 (min (x15.min : Int) (x15.min : Int)))]) (c' := #[(Value.int .i64 x15.count), (Value.int .i64 x15.sum), (Value.int .i64 (min (x15.min : Int) (x15.min : Int))), (Value.int .i64 x15.max)]) 5 rfl rfl (by decide) rfl Try.el2.sized rfl rfl rfl rfl (Nat.le_of_ble_eq_true rfl) (cel_cons rfl cel_nil) rfl rfl (List.Sublist.cons_cons _ (List.Sublist.cons_cons _ (List.Sublist.cons_cons _ (List.Sublist.cons_cons _ (List.Sublist.cons_cons _ (List.Sublist.cons _ (List.Sublist.cons_cons _ List.Sublist.slnil))))))) (fun r h => h) ?_
        refine TW.pure (v := (Value.pointer (some ⟨b5, 3, none⟩))) rfl (by decide) (by decide) rfl (fun w => (Step.pure (by kernel_rfl))) ?_
        refine TW.store (v := (Value.int .i64 (max (x15.max : Int) (x15.max : Int)))) (cs := [(Value.int .i64 (max (x15.max : Int) (x15.max : Int)))]) (c' := #[(Value.int .i64 x15.count), (Value.int .i64 x15.sum), (Value.int .i64 (min (x15.min : Int) (x15.min : Int))), (Value.int .i64 (max (x15.max : Int) (x15.max : Int)))]) 5 rfl rfl (by decide) rfl Try.el2.sized rfl rfl rfl rfl (Nat.le_of_ble_eq_true rfl) (cel_cons rfl cel_nil) rfl rfl (List.Sublist.cons_cons _ (List.Sublist.cons_cons _ (List.Sublist.cons_cons _ (List.Sublist.cons_cons _ (List.Sublist.cons_cons _ (List.Sublist.cons _ (List.Sublist.cons_cons _ List.Sublist.slnil))))))) (fun r h => h) ?_
        refine TW.done (fun w52 M => ?_)
        refine W.region rfl ?_
        refine WL.step (v := (Value.int .i64 (↑k_ + 1))) rfl (Step.add rfl rfl (wrap_i64 (by omega))) ?_
        refine WL.step (v := (Value.int .i64 (↑k_ + 1))) rfl (Step.move rfl) ?_
        refine WL.nil ?_
        replace M := M.rechunk 3 (c' := own 2 1 v40 ((cntJ (l.take (k_ + 1))).length) ((cntJ (l.take (k_ + 1))).flatMap intE)) rfl (by rw [cntJ_hit hx15 (by simpa using h20)])
        replace M : Mem _ _ _ [blk b43 (.cells #[(Value.int .i64 x15.sum)] 2), blk b39 (.cells #[(Value.int .i64 x15.count)] 2), blk b16 (.cells #[(Value.int .i64 x15.count), (Value.int .i64 x15.sum), (Value.int .i64 x15.min), (Value.int .i64 x15.max)] 32), own 2 1 v40 ((cntJ (l.take (k_ + 1))).length) ((cntJ (l.take (k_ + 1))).flatMap intE), own 2 1 v44 (((sumJ (l.take k_)) ++ ([x15.sum] : List Int)).length) (((sumJ (l.take k_)) ++ ([x15.sum] : List Int)).flatMap intE), blk b5 (.cells #[(Value.int .i64 x15.count), (Value.int .i64 x15.sum), (Value.int .i64 (min (x15.min : Int) (x15.min : Int))), (Value.int .i64 (max (x15.max : Int) (x15.max : Int)))] 32), blk b3 (.cells #[(Value.int .i64 0), (Value.int .i64 0), (Value.int .i64 0), (Value.int .i64 0)] 32)] [SlAt 4 v l.length (l.flatMap aggE)] _ := M
        replace M := M.rechunk 4 (c' := own 2 1 v44 ((sumJ (l.take (k_ + 1))).length) ((sumJ (l.take (k_ + 1))).flatMap intE)) rfl (by rw [sumJ_hit hx15 (by simpa using h20)])
        replace M : Mem _ _ _ [blk b43 (.cells #[(Value.int .i64 x15.sum)] 2), blk b39 (.cells #[(Value.int .i64 x15.count)] 2), blk b16 (.cells #[(Value.int .i64 x15.count), (Value.int .i64 x15.sum), (Value.int .i64 x15.min), (Value.int .i64 x15.max)] 32), own 2 1 v40 ((cntJ (l.take (k_ + 1))).length) ((cntJ (l.take (k_ + 1))).flatMap intE), own 2 1 v44 ((sumJ (l.take (k_ + 1))).length) ((sumJ (l.take (k_ + 1))).flatMap intE), blk b5 (.cells #[(Value.int .i64 x15.count), (Value.int .i64 x15.sum), (Value.int .i64 (min (x15.min : Int) (x15.min : Int))), (Value.int .i64 (max (x15.max : Int) (x15.max : Int)))] 32), blk b3 (.cells #[(Value.int .i64 0), (Value.int .i64 0), (Value.int .i64 0), (Value.int .i64 0)] 32)] [SlAt 4 v l.length (l.flatMap aggE)] _ := M
        have hminJ_ : minJ (l.take (k_ + 1)) = (min (x15.min : Int) (x15.min : Int) : Int) := by rw [minJ_hit hx15 (by simpa using h20)]; (repeat split) <;> omega
        have hmaxJ_ : maxJ (l.take (k_ + 1)) = (max (x15.max : Int) (x15.max : Int) : Int) := by rw [maxJ_hit hx15 (by simpa using h20)]; (repeat split) <;> omega
        replace M := M.rechunk 5 (c' := blk b5 (.cells #[(Value.int .i64 x15.count), (Value.int .i64 x15.sum), (Value.int .i64 (minJ (l.take (k_ + 1)))), (Value.int .i64 (maxJ (l.take (k_ + 1))))] 32)) rfl (by rw [hminJ_, hmaxJ_])
        replace M : Mem _ _ _ [blk b43 (.cells #[(Value.int .i64 x15.sum)] 2), blk b39 (.cells #[(Value.int .i64 x15.count)] 2), blk b16 (.cells #[(Value.int .i64 x15.count), (Value.int .i64 x15.sum), (Value.int .i64 x15.min), (Value.int .i64 x15.max)] 32), own 2 1 v40 ((cntJ (l.take (k_ + 1))).length) ((cntJ (l.take (k_ + 1))).flatMap intE), own 2 1 v44 ((sumJ (l.take (k_ + 1))).length) ((sumJ (l.take (k_ + 1))).flatMap intE), blk b5 (.cells #[(Value.int .i64 x15.count), (Value.int .i64 x15.sum), (Value.int .i64 (minJ (l.take (k_ + 1)))), (Value.int .i64 (maxJ (l.take (k_ + 1))))] 32), blk b3 (.cells #[(Value.int .i64 0), (Value.int .i64 0), (Value.int .i64 0), (Value.int .i64 0)] 32)] [SlAt 4 v l.length (l.flatMap aggE)] _ := M
        replace M := M.sel (L' := [own 2 1 v40 ((cntJ (l.take (k_ + 1))).length) ((cntJ (l.take (k_ + 1))).flatMap intE), own 2 1 v44 ((sumJ (l.take (k_ + 1))).length) ((sumJ (l.take (k_ + 1))).flatMap intE), blk b5 (.cells #[(Value.int .i64 x15.count), (Value.int .i64 x15.sum), (Value.int .i64 (minJ (l.take (k_ + 1)))), (Value.int .i64 (maxJ (l.take (k_ + 1))))] 32), blk b3 (.cells #[(Value.int .i64 0), (Value.int .i64 0), (Value.int .i64 0), (Value.int .i64 0)] 32)]) [3, 4, 5, 6] rfl (by decide)
        exact ⟨_, (by omega), k_ + 1, _, _, x15.count, x15.sum, ⟨(by omega), rfl⟩, ⟨rfl, rfl, rfl, rfl, rfl, rfl, rfl, rfl, rfl, rfl⟩, M⟩
      ·
        have h21p : ¬ (↑((sumJ (l.take k_)).length) : Int) = (0 : Int) := by simpa using h21
        refine W.skip ?_
        refine W.seq' ?_
        refine W.drawn M [0, 1, 2, 5, 6, 7, 3, 4, 8, 9, 10, 11] [4, 9] [3, 8] [blk b16 (.cells #[(Value.int .i64 x15.count), (Value.int .i64 x15.sum), (Value.int .i64 x15.min), (Value.int .i64 x15.max)] 32), blk b5 (.cells #[(Value.int .i64 f1_), (Value.int .i64 f2_), (Value.int .i64 (minJ (l.take k_))), (Value.int .i64 (maxJ (l.take k_)))] 32), blk b3 (.cells #[(Value.int .i64 0), (Value.int .i64 0), (Value.int .i64 0), (Value.int .i64 0)] 32)] [SlAt 4 v l.length (l.flatMap aggE)] (List.Sublist.cons_cons _ (List.Sublist.cons _ (List.Sublist.cons _ (List.Sublist.cons_cons _ (List.Sublist.cons_cons _ List.Sublist.slnil))))) (fun _ h => h) Try.mixed (by kernel_rfl) ?_
        refine TW.pure (v := c_) rfl (by decide) (by decide) rfl (fun w => (Step.move rfl)) ?_
        refine TW.pure (v := (Value.pointer (some ⟨b16, 0, none⟩))) rfl (by decide) (by decide) rfl (fun w => (Step.pure (by kernel_rfl))) ?_
        refine TW.read (v := (Value.int .i64 x15.count)) rfl (by decide) (by decide) rfl (fun A w M => (Step.load1 Try.sc2 rfl ((M.cell 1 rfl 0).trans rfl))) ?_
        refine TW.pure (v := s_) rfl (by decide) (by decide) rfl (fun w => (Step.move rfl)) ?_
        refine TW.pure (v := (Value.pointer (some ⟨b16, 1, none⟩))) rfl (by decide) (by decide) rfl (fun w => (Step.pure (by kernel_rfl))) ?_
        refine TW.read (v := (Value.int .i64 x15.sum)) rfl (by decide) (by decide) rfl (fun A w M => (Step.load1 Try.sc2 rfl ((M.cell 1 rfl 1).trans rfl))) ?_
        refine TW.new (obj := .cells #[(Value.int .i64 x15.count)] 2) (fun b => .slice (some ⟨b, 0, none⟩) 1 1) rfl (by decide) (by decide) rfl (fun w => Step.make (by kernel_rfl)) (fun b69 => ?_)
        refine TW.doesM (fun v_ => own 2 1 v_ (((cntJ (l.take k_)) ++ ([x15.count] : List Int)).length) (((cntJ (l.take k_)) ++ ([x15.count] : List Int)).flatMap intE)) 2 rfl rfl (by decide) rfl (fun v_ => (List.Sublist.cons _ (List.Sublist.cons_cons _ (List.Sublist.cons _ (List.Sublist.cons _ (List.Sublist.cons_cons _ (List.Sublist.cons_cons _ List.Sublist.slnil))))))) (fun r h => h) (fun A w M => M.appendF' (cntJ (l.take k_)) ([x15.count] : List Int) (sv := (Value.slice (some ⟨b69, 0, none⟩) 1 1)) 3 Try.un121 Try.el2 rfl (by decide) rfl rfl rfl (SlAt.of_blk (M.blk 1 rfl) rfl (by decide)) intE_cel (by have := hj5_; simp only [maxLen, List.length_nil, List.length_cons, List.length_append]; omega) (by have := hj5_; (try simp only [List.length_nil, List.length_cons, List.length_append]); omega)) (fun v70 hin => ?_)
        obtain ⟨_, _, hin⟩ := hin
        have sl72 : IsSl v70 := SlAt.isSl (own_slAt (Mem.chunk hin 3 rfl).inv)
        clear hin
        change TW _ _ _ _ _ _ _ _ (MemA _ _ _ [blk b69 (.cells #[(Value.int .i64 x15.count)] 2), blk b16 (.cells #[(Value.int .i64 x15.count), (Value.int .i64 x15.sum), (Value.int .i64 x15.min), (Value.int .i64 x15.max)] 32), own 2 1 v70 (((cntJ (l.take k_)) ++ ([x15.count] : List Int)).length) (((cntJ (l.take k_)) ++ ([x15.count] : List Int)).flatMap intE), own 2 1 s_ ((sumJ (l.take k_)).length) ((sumJ (l.take k_)).flatMap intE), blk b5 (.cells #[(Value.int .i64 f1_), (Value.int .i64 f2_), (Value.int .i64 (minJ (l.take k_))), (Value.int .i64 (maxJ (l.take k_)))] 32), blk b3 (.cells #[(Value.int .i64 0), (Value.int .i64 0), (Value.int .i64 0), (Value.int .i64 0)] 32)] [SlAt 4 v l.length (l.flatMap aggE)])
        refine TW.new (obj := .cells #[(Value.int .i64 x15.sum)] 2) (fun b => .slice (some ⟨b, 0, none⟩) 1 1) rfl (by decide) (by decide) rfl (fun w => Step.make (by kernel_rfl)) (fun b73 => ?_)
        refine TW.doesM (fun v_ => own 2 1 v_ (((sumJ (l.take k_)) ++ ([x15.sum] : List Int)).length) (((sumJ (l.take k_)) ++ ([x15.sum] : List Int)).flatMap intE)) 4 rfl rfl (by decide) rfl (fun v_ => (List.Sublist.cons _ (List.Sublist.cons _ (List.Sublist.cons_cons _ (List.Sublist.cons _ (List.Sublist.cons _ (List.Sublist.cons_cons _ (List.Sublist.cons_cons _ List.Sublist.slnil)))))))) (fun r h => h) (fun A w M => M.appendF' (sumJ (l.take k_)) ([x15.sum] : List Int) (sv := (Value.slice (some ⟨b73, 0, none⟩) 1 1)) 5 Try.un121 Try.el2 rfl (by decide) rfl rfl rfl (SlAt.of_blk (M.blk 1 rfl) rfl (by decide)) intE_cel (by have := hj5_; simp only [maxLen, List.length_nil, List.length_cons, List.length_append]; omega) (by have := hj5_; (try simp only [List.length_nil, List.length_cons, List.length_append]); omega)) (fun v74 hin => ?_)
        obtain ⟨_, _, hin⟩ := hin
        have sl76 : IsSl v74 := SlAt.isSl (own_slAt (Mem.chunk hin 5 rfl).inv)
        clear hin
        change TW _ _ _ _ _ _ _ _ (MemA _ _ _ [blk b73 (.cells #[(Value.int .i64 x15.sum)] 2), blk b69 (.cells #[(Value.int .i64 x15.count)] 2), blk b16 (.cells #[(Value.int .i64 x15.count), (Value.int .i64 x15.sum), (Value.int .i64 x15.min), (Value.int .i64 x15.max)] 32), own 2 1 v70 (((cntJ (l.take k_)) ++ ([x15.count] : List Int)).length) (((cntJ (l.take k_)) ++ ([x15.count] : List Int)).flatMap intE), own 2 1 v74 (((sumJ (l.take k_)) ++ ([x15.sum] : List Int)).length) (((sumJ (l.take k_)) ++ ([x15.sum] : List Int)).flatMap intE), blk b5 (.cells #[(Value.int .i64 f1_), (Value.int .i64 f2_), (Value.int .i64 (minJ (l.take k_))), (Value.int .i64 (maxJ (l.take k_)))] 32), blk b3 (.cells #[(Value.int .i64 0), (Value.int .i64 0), (Value.int .i64 0), (Value.int .i64 0)] 32)] [SlAt 4 v l.length (l.flatMap aggE)])
        refine TW.pure (v := v70) rfl (by decide) (by decide) rfl (fun w => (Step.assign rfl)) ?_
        refine TW.pure (v := v74) rfl (by decide) (by decide) rfl (fun w => (Step.assign rfl)) ?_
        refine TW.done (fun w77 M => ?_)
        refine W.drawn M [0, 1, 2, 3, 4, 5, 6, 7, 8, 9, 10, 11, 12, 13] [1, 6, 11, 13] [1, 6] [blk b73 (.cells #[(Value.int .i64 x15.sum)] 2), blk b69 (.cells #[(Value.int .i64 x15.count)] 2), blk b16 (.cells #[(Value.int .i64 x15.count), (Value.int .i64 x15.sum), (Value.int .i64 x15.min), (Value.int .i64 x15.max)] 32), own 2 1 v70 (((cntJ (l.take k_)) ++ ([x15.count] : List Int)).length) (((cntJ (l.take k_)) ++ ([x15.count] : List Int)).flatMap intE), own 2 1 v74 (((sumJ (l.take k_)) ++ ([x15.sum] : List Int)).length) (((sumJ (l.take k_)) ++ ([x15.sum] : List Int)).flatMap intE), blk b3 (.cells #[(Value.int .i64 0), (Value.int .i64 0), (Value.int .i64 0), (Value.int .i64 0)] 32)] [SlAt 4 v l.length (l.flatMap aggE)] (List.Sublist.cons_cons _ (List.Sublist.cons_cons _ (List.Sublist.cons_cons _ (List.Sublist.cons_cons _ (List.Sublist.cons_cons _ (List.Sublist.cons _ (List.Sublist.cons_cons _ List.Sublist.slnil))))))) (fun _ h => h) Try.mixed (by kernel_rfl) ?_
        refine TW.pure (v := (Value.pointer (some ⟨b5, 2, none⟩))) rfl (by decide) (by decide) rfl (fun w => (Step.pure (by kernel_rfl))) ?_
        refine TW.readP (v := (Value.int .i64 (minJ (l.take k_)))) rfl (by decide) (by decide) rfl (fun A w M => (Step.load1 Try.sc2 rfl ((M.cell 6 rfl 2).trans rfl))) ?_
        refine TW.pure (v := (Value.pointer (some ⟨b16, 2, none⟩))) rfl (by decide) (by decide) rfl (fun w => (Step.pure (by kernel_rfl))) ?_
        refine TW.read (v := (Value.int .i64 x15.min)) rfl (by decide) (by decide) rfl (fun A w M => (Step.load1 Try.sc2 rfl ((M.cell 3 rfl 2).trans rfl))) ?_
        refine TW.pure (v := (Value.int .i64 (min (minJ (l.take k_) : Int) (x15.min : Int)))) rfl (by decide) (by decide) rfl (fun w => (Step.minI rfl rfl)) ?_
        refine TW.pure (v := (Value.pointer (some ⟨b5, 3, none⟩))) rfl (by decide) (by decide) rfl (fun w => (Step.pure (by kernel_rfl))) ?_
        refine TW.readP (v := (Value.int .i64 (maxJ (l.take k_)))) rfl (by decide) (by decide) rfl (fun A w M => (Step.load1 Try.sc2 rfl ((M.cell 6 rfl 3).trans rfl))) ?_
        refine TW.pure (v := (Value.pointer (some ⟨b16, 3, none⟩))) rfl (by decide) (by decide) rfl (fun w => (Step.pure (by kernel_rfl))) ?_
        refine TW.read (v := (Value.int .i64 x15.max)) rfl (by decide) (by decide) rfl (fun A w M => (Step.load1 Try.sc2 rfl ((M.cell 3 rfl 3).trans rfl))) ?_
        refine TW.pure (v := (Value.int .i64 (max (maxJ (l.take k_) : Int) (x15.max : Int)))) rfl (by decide) (by decide) rfl (fun w => (Step.maxI rfl rfl)) ?_
        refine TW.pure (v := (Value.pointer (some ⟨b5, 2, none⟩))) rfl (by decide) (by decide) rfl (fun w => (Step.pure (by kernel_rfl))) ?_
        refine TW.store (v := (Value.int .i64 (min (minJ (l.take k_) : Int) (x15.min : Int)))) (cs := [(Value.int .i64 (min (minJ (l.take k_) : Int) (x15.min : Int)))]) (c' := #[(Value.int .i64 f1_), (Value.int .i64 f2_), (Value.int .i64 (min (minJ (l.take k_) : Int) (x15.min : Int))), (Value.int .i64 (maxJ (l.take k_)))]) 5 rfl rfl (by decide) rfl Try.el2.sized rfl rfl rfl rfl (Nat.le_of_ble_eq_true rfl) (cel_cons rfl cel_nil) rfl rfl (List.Sublist.cons_cons _ (List.Sublist.cons_cons _ (List.Sublist.cons_cons _ (List.Sublist.cons_cons _ (List.Sublist.cons_cons _ (List.Sublist.cons _ (List.Sublist.cons_cons _ List.Sublist.slnil))))))) (fun r h => h) ?_
        refine TW.pure (v := (Value.pointer (some ⟨b5, 3, none⟩))) rfl (by decide) (by decide) rfl (fun w => (Step.pure (by kernel_rfl))) ?_
        refine TW.store (v := (Value.int .i64 (max (maxJ (l.take k_) : Int) (x15.max : Int)))) (cs := [(Value.int .i64 (max (maxJ (l.take k_) : Int) (x15.max : Int)))]) (c' := #[(Value.int .i64 f1_), (Value.int .i64 f2_), (Value.int .i64 (min (minJ (l.take k_) : Int) (x15.min : Int))), (Value.int .i64 (max (maxJ (l.take k_) : Int) (x15.max : Int)))]) 5 rfl rfl (by decide) rfl Try.el2.sized rfl rfl rfl rfl (Nat.le_of_ble_eq_true rfl) (cel_cons rfl cel_nil) rfl rfl (List.Sublist.cons_cons _ (List.Sublist.cons_cons _ (List.Sublist.cons_cons _ (List.Sublist.cons_cons _ (List.Sublist.cons_cons _ (List.Sublist.cons _ (List.Sublist.cons_cons _ List.Sublist.slnil))))))) (fun r h => h) ?_
        refine TW.done (fun w82 M => ?_)
        refine W.region rfl ?_
        refine WL.step (v := (Value.int .i64 (↑k_ + 1))) rfl (Step.add rfl rfl (wrap_i64 (by omega))) ?_
        refine WL.step (v := (Value.int .i64 (↑k_ + 1))) rfl (Step.move rfl) ?_
        refine WL.nil ?_
        replace M := M.rechunk 3 (c' := own 2 1 v70 ((cntJ (l.take (k_ + 1))).length) ((cntJ (l.take (k_ + 1))).flatMap intE)) rfl (by rw [cntJ_hit hx15 (by simpa using h20)])
        replace M : Mem _ _ _ [blk b73 (.cells #[(Value.int .i64 x15.sum)] 2), blk b69 (.cells #[(Value.int .i64 x15.count)] 2), blk b16 (.cells #[(Value.int .i64 x15.count), (Value.int .i64 x15.sum), (Value.int .i64 x15.min), (Value.int .i64 x15.max)] 32), own 2 1 v70 ((cntJ (l.take (k_ + 1))).length) ((cntJ (l.take (k_ + 1))).flatMap intE), own 2 1 v74 (((sumJ (l.take k_)) ++ ([x15.sum] : List Int)).length) (((sumJ (l.take k_)) ++ ([x15.sum] : List Int)).flatMap intE), blk b5 (.cells #[(Value.int .i64 f1_), (Value.int .i64 f2_), (Value.int .i64 (min (minJ (l.take k_) : Int) (x15.min : Int))), (Value.int .i64 (max (maxJ (l.take k_) : Int) (x15.max : Int)))] 32), blk b3 (.cells #[(Value.int .i64 0), (Value.int .i64 0), (Value.int .i64 0), (Value.int .i64 0)] 32)] [SlAt 4 v l.length (l.flatMap aggE)] _ := M
        replace M := M.rechunk 4 (c' := own 2 1 v74 ((sumJ (l.take (k_ + 1))).length) ((sumJ (l.take (k_ + 1))).flatMap intE)) rfl (by rw [sumJ_hit hx15 (by simpa using h20)])
        replace M : Mem _ _ _ [blk b73 (.cells #[(Value.int .i64 x15.sum)] 2), blk b69 (.cells #[(Value.int .i64 x15.count)] 2), blk b16 (.cells #[(Value.int .i64 x15.count), (Value.int .i64 x15.sum), (Value.int .i64 x15.min), (Value.int .i64 x15.max)] 32), own 2 1 v70 ((cntJ (l.take (k_ + 1))).length) ((cntJ (l.take (k_ + 1))).flatMap intE), own 2 1 v74 ((sumJ (l.take (k_ + 1))).length) ((sumJ (l.take (k_ + 1))).flatMap intE), blk b5 (.cells #[(Value.int .i64 f1_), (Value.int .i64 f2_), (Value.int .i64 (min (minJ (l.take k_) : Int) (x15.min : Int))), (Value.int .i64 (max (maxJ (l.take k_) : Int) (x15.max : Int)))] 32), blk b3 (.cells #[(Value.int .i64 0), (Value.int .i64 0), (Value.int .i64 0), (Value.int .i64 0)] 32)] [SlAt 4 v l.length (l.flatMap aggE)] _ := M
        have hminJ_ : minJ (l.take (k_ + 1)) = (min (minJ (l.take k_) : Int) (x15.min : Int) : Int) := by rw [minJ_hit hx15 (by simpa using h20)]; (repeat split) <;> omega
        have hmaxJ_ : maxJ (l.take (k_ + 1)) = (max (maxJ (l.take k_) : Int) (x15.max : Int) : Int) := by rw [maxJ_hit hx15 (by simpa using h20)]; (repeat split) <;> omega
        replace M := M.rechunk 5 (c' := blk b5 (.cells #[(Value.int .i64 f1_), (Value.int .i64 f2_), (Value.int .i64 (minJ (l.take (k_ + 1)))), (Value.int .i64 (maxJ (l.take (k_ + 1))))] 32)) rfl (by rw [hminJ_, hmaxJ_])
        replace M : Mem _ _ _ [blk b73 (.cells #[(Value.int .i64 x15.sum)] 2), blk b69 (.cells #[(Value.int .i64 x15.count)] 2), blk b16 (.cells #[(Value.int .i64 x15.count), (Value.int .i64 x15.sum), (Value.int .i64 x15.min), (Value.int .i64 x15.max)] 32), own 2 1 v70 ((cntJ (l.take (k_ + 1))).length) ((cntJ (l.take (k_ + 1))).flatMap intE), own 2 1 v74 ((sumJ (l.take (k_ + 1))).length) ((sumJ (l.take (k_ + 1))).flatMap intE), blk b5 (.cells #[(Value.int .i64 f1_), (Value.int .i64 f2_), (Value.int .i64 (minJ (l.take (k_ + 1)))), (Value.int .i64 (maxJ (l.take (k_ + 1))))] 32), blk b3 (.cells #[(Value.int .i64 0), (Value.int .i64 0), (Value.int .i64 0), (Value.int .i64 0)] 32)] [SlAt 4 v l.length (l.flatMap aggE)] _ := M
        replace M := M.sel (L' := [own 2 1 v70 ((cntJ (l.take (k_ + 1))).length) ((cntJ (l.take (k_ + 1))).flatMap intE), own 2 1 v74 ((sumJ (l.take (k_ + 1))).length) ((sumJ (l.take (k_ + 1))).flatMap intE), blk b5 (.cells #[(Value.int .i64 f1_), (Value.int .i64 f2_), (Value.int .i64 (minJ (l.take (k_ + 1)))), (Value.int .i64 (maxJ (l.take (k_ + 1))))] 32), blk b3 (.cells #[(Value.int .i64 0), (Value.int .i64 0), (Value.int .i64 0), (Value.int .i64 0)] 32)]) [3, 4, 5, 6] rfl (by decide)
        exact ⟨_, (by omega), k_ + 1, _, _, f1_, f2_, ⟨(by omega), rfl⟩, ⟨rfl, rfl, rfl, rfl, rfl, rfl, rfl, rfl, rfl, rfl⟩, M⟩
  ·
    have h12p := of_decide_eq_false h12
    refine W.exit ?_
    refine thn_exit ?_
    refine thn_exit ?_
    refine inBlk_hit ?_
    refine W.seq' ?_
    refine W.region rfl ?_
    refine WL.step (v := (Value.int .i64 0)) rfl (Step.assign rfl) ?_
    refine WL.step (v := (Value.int .i64 0)) rfl (Step.assign rfl) ?_
    refine WL.nil ?_
    refine W.seq' ?_
    refine W.region rfl ?_
    refine WL.step (v := c_) rfl (Step.move rfl) ?_
    refine WL.callX rfl (num_sum c_ (cntJ (l.take k_)) (by first | omega | assumption | decide | (simp only [List.length_nil, List.length_cons, List.length_take, List.length_drop]; omega)) (by first | assumption | decide) (M.enterW0 ⟨((M.wideC0 0 rfl).imp fun _ h => own_slAt h), trivial⟩)) (CallsF.func Try.en116 rfl) ?_
    rintro _ w83 ⟨rfl, m⟩
    replace M := M.leaveW0 m
    clear m
    replace M : Mem _ _ _ [own 2 1 c_ ((cntJ (l.take k_)).length) ((cntJ (l.take k_)).flatMap intE), own 2 1 s_ ((sumJ (l.take k_)).length) ((sumJ (l.take k_)).flatMap intE), blk b5 (.cells #[(Value.int .i64 f1_), (Value.int .i64 f2_), (Value.int .i64 (minJ (l.take k_))), (Value.int .i64 (maxJ (l.take k_)))] 32), blk b3 (.cells #[(Value.int .i64 0), (Value.int .i64 0), (Value.int .i64 0), (Value.int .i64 0)] 32)] [SlAt 4 v l.length (l.flatMap aggE)] _ := M
    refine WL.step (v := (Value.tuple #[(Value.int .i64 ((sumV (cntJ (l.take k_))).1)), (Value.int .i64 ((sumV (cntJ (l.take k_))).2))])) rfl (Step.move rfl) ?_
    refine WL.step (v := (Value.int .i64 ((sumV (cntJ (l.take k_))).1))) rfl (Step.pure (by kernel_rfl)) ?_
    refine WL.step (v := (Value.int .i64 ((sumV (cntJ (l.take k_))).2))) rfl (Step.pure (by kernel_rfl)) ?_
    refine WL.step (v := (Value.pointer (some ⟨b5, 0, none⟩))) rfl (Step.pure (by kernel_rfl)) ?_
    refine WL.store (v := (Value.int .i64 ((sumV (cntJ (l.take k_))).1))) (cs := [(Value.int .i64 ((sumV (cntJ (l.take k_))).1))]) (c' := #[(Value.int .i64 ((sumV (cntJ (l.take k_))).1)), (Value.int .i64 f2_), (Value.int .i64 (minJ (l.take k_))), (Value.int .i64 (maxJ (l.take k_)))]) M 2 rfl rfl Try.el2.sized rfl rfl rfl rfl (Nat.le_of_ble_eq_true rfl) (cel_cons rfl cel_nil) rfl rfl (fun w84 M => ?_)
    refine WL.step (v := (Value.int .i64 ((sumV (cntJ (l.take k_))).2))) rfl (Step.assign rfl) ?_
    refine WL.nil ?_
    refine W.seq' ?_
    refine W.region rfl ?_
    refine WL.step (v := s_) rfl (Step.move rfl) ?_
    refine WL.callX rfl (num_sum s_ (sumJ (l.take k_)) (by first | omega | assumption | decide | (simp only [List.length_nil, List.length_cons, List.length_take, List.length_drop]; omega)) (by first | assumption | decide) (M.enterW0 ⟨((M.wideC0 1 rfl).imp fun _ h => own_slAt h), trivial⟩)) (CallsF.func Try.en116 rfl) ?_
    rintro _ w85 ⟨rfl, m⟩
    replace M := M.leaveW0 m
    clear m
    replace M : Mem _ _ _ [own 2 1 c_ ((cntJ (l.take k_)).length) ((cntJ (l.take k_)).flatMap intE), own 2 1 s_ ((sumJ (l.take k_)).length) ((sumJ (l.take k_)).flatMap intE), blk b5 (.cells #[(Value.int .i64 ((sumV (cntJ (l.take k_))).1)), (Value.int .i64 f2_), (Value.int .i64 (minJ (l.take k_))), (Value.int .i64 (maxJ (l.take k_)))] 32), blk b3 (.cells #[(Value.int .i64 0), (Value.int .i64 0), (Value.int .i64 0), (Value.int .i64 0)] 32)] [SlAt 4 v l.length (l.flatMap aggE)] _ := M
    refine WL.step (v := (Value.tuple #[(Value.int .i64 ((sumV (sumJ (l.take k_))).1)), (Value.int .i64 ((sumV (sumJ (l.take k_))).2))])) rfl (Step.move rfl) ?_
    refine WL.step (v := (Value.int .i64 ((sumV (sumJ (l.take k_))).1))) rfl (Step.pure (by kernel_rfl)) ?_
    refine WL.step (v := (Value.int .i64 ((sumV (sumJ (l.take k_))).2))) rfl (Step.pure (by kernel_rfl)) ?_
    refine WL.step (v := (Value.pointer (some ⟨b5, 1, none⟩))) rfl (Step.pure (by kernel_rfl)) ?_
    refine WL.store (v := (Value.int .i64 ((sumV (sumJ (l.take k_))).1))) (cs := [(Value.int .i64 ((sumV (sumJ (l.take k_))).1))]) (c' := #[(Value.int .i64 ((sumV (cntJ (l.take k_))).1)), (Value.int .i64 ((sumV (sumJ (l.take k_))).1)), (Value.int .i64 (minJ (l.take k_))), (Value.int .i64 (maxJ (l.take k_)))]) M 2 rfl rfl Try.el2.sized rfl rfl rfl rfl (Nat.le_of_ble_eq_true rfl) (cel_cons rfl cel_nil) rfl rfl (fun w86 M => ?_)
    refine WL.step (v := (Value.int .i64 ((sumV (sumJ (l.take k_))).2))) rfl (Step.assign rfl) ?_
    refine WL.nil ?_
    refine W.seq' ?_
    refine W.seq' ?_
    refine W.region rfl ?_
    refine WL.step (v := (Value.int .i64 ((sumV (cntJ (l.take k_))).2))) rfl (Step.move rfl) ?_
    refine WL.step (v := (Value.bool (((sumV (cntJ (l.take k_))).2 : Int) != (0 : Int)))) rfl (Step.pure (by kernel_rfl)) ?_
    refine WL.step (v := (Value.bool (((sumV (cntJ (l.take k_))).2 : Int) != (0 : Int)))) rfl (Step.move rfl) ?_
    rcases Bool.eq_false_or_eq_true (((sumV (cntJ (l.take k_))).2 : Int) != (0 : Int)) with h87 | h87
    ·
      have h87p : ¬ ((sumV (cntJ (l.take k_))).2 : Int) = (0 : Int) := by simpa using h87
      rw [h87]
      refine WL.pass rfl ?_
      refine WL.pass rfl ?_
      refine WL.step (v := (Value.bool true)) rfl (Step.pick (t := true) rfl rfl) ?_
      refine WL.nil ?_
      refine W.cond (t := true) rfl (fun _ => ?_) (fun h => by cases h)
      refine W.seq' ?_
      refine W.region rfl ?_
      refine WL.step (v := (Value.agg #[(Value.int .i64 0), (Value.int .i64 0), (Value.int .i64 0), (Value.int .i64 0)])) rfl (Step.pure (by kernel_rfl)) ?_
      refine WL.store (v := (Value.agg #[(Value.int .i64 0), (Value.int .i64 0), (Value.int .i64 0), (Value.int .i64 0)])) (cs := [(Value.int .i64 0), (Value.int .i64 0), (Value.int .i64 0), (Value.int .i64 0)]) (c' := #[(Value.int .i64 0), (Value.int .i64 0), (Value.int .i64 0), (Value.int .i64 0)]) M 3 rfl rfl Try.el32.sized rfl rfl rfl rfl (Nat.le_of_ble_eq_true rfl) (cel_cons rfl (cel_cons rfl (cel_cons rfl (cel_cons rfl cel_nil)))) rfl rfl (fun w88 M => ?_)
      refine WL.step (v := (Value.int .i64 30)) rfl (Step.assign rfl) ?_
      refine WL.nil ?_
      refine W.ret ?_
      refine ⟨.inl rfl, (Value.tuple #[(Value.agg #[(Value.int .i64 0), (Value.int .i64 0), (Value.int .i64 0), (Value.int .i64 0)]), (Value.int .i64 30)]), ?_, ?_⟩
      · exact ⟨rfl, (Res.r2 (RV.cellN Try.ag32 rfl (M.blk 3 rfl) rfl) (show RV _ _ _ (.tmp 3) (Value.int .i64 30) from by exact rfl))⟩
      refine ⟨?_, M.close [] rfl (by decide) trivial⟩
      have hkk : k_ = l.length := by omega
      subst hkk
      simp only [List.take_length] at *
      cases hf1 : fits (sumI (cntJ l)) <;> cases hf2 : fits (sumI (sumJ l)) <;> simp_all [joinL, sumV, aggZ]
    ·
      have h87p : ((sumV (cntJ (l.take k_))).2 : Int) = (0 : Int) := by simpa using h87
      rw [h87]
      refine WL.step (v := (Value.int .i64 ((sumV (sumJ (l.take k_))).2))) rfl (Step.move rfl) ?_
      refine WL.step (v := (Value.bool (((sumV (sumJ (l.take k_))).2 : Int) != (0 : Int)))) rfl (Step.pure (by kernel_rfl)) ?_
      refine WL.step (v := (Value.bool (((sumV (sumJ (l.take k_))).2 : Int) != (0 : Int)))) rfl (Step.pick (t := false) rfl rfl) ?_
      refine WL.nil ?_
      refine W.cond (t := ((sumV (sumJ (l.take k_))).2 : Int) != (0 : Int)) rfl (fun h89 => ?_) (fun h89 => ?_)
      ·
        have h89p : ¬ ((sumV (sumJ (l.take k_))).2 : Int) = (0 : Int) := by simpa using h89
        refine W.seq' ?_
        refine W.region rfl ?_
        refine WL.step (v := (Value.agg #[(Value.int .i64 0), (Value.int .i64 0), (Value.int .i64 0), (Value.int .i64 0)])) rfl (Step.pure (by kernel_rfl)) ?_
        refine WL.store (v := (Value.agg #[(Value.int .i64 0), (Value.int .i64 0), (Value.int .i64 0), (Value.int .i64 0)])) (cs := [(Value.int .i64 0), (Value.int .i64 0), (Value.int .i64 0), (Value.int .i64 0)]) (c' := #[(Value.int .i64 0), (Value.int .i64 0), (Value.int .i64 0), (Value.int .i64 0)]) M 3 rfl rfl Try.el32.sized rfl rfl rfl rfl (Nat.le_of_ble_eq_true rfl) (cel_cons rfl (cel_cons rfl (cel_cons rfl (cel_cons rfl cel_nil)))) rfl rfl (fun w90 M => ?_)
        refine WL.step (v := (Value.int .i64 30)) rfl (Step.assign rfl) ?_
        refine WL.nil ?_
        refine W.ret ?_
        refine ⟨.inl rfl, (Value.tuple #[(Value.agg #[(Value.int .i64 0), (Value.int .i64 0), (Value.int .i64 0), (Value.int .i64 0)]), (Value.int .i64 30)]), ?_, ?_⟩
        · exact ⟨rfl, (Res.r2 (RV.cellN Try.ag32 rfl (M.blk 3 rfl) rfl) (show RV _ _ _ (.tmp 3) (Value.int .i64 30) from by exact rfl))⟩
        refine ⟨?_, M.close [] rfl (by decide) trivial⟩
        have hkk : k_ = l.length := by omega
        subst hkk
        simp only [List.take_length] at *
        cases hf1 : fits (sumI (cntJ l)) <;> cases hf2 : fits (sumI (sumJ l)) <;> simp_all [joinL, sumV, aggZ]
      ·
        have h89p : ((sumV (sumJ (l.take k_))).2 : Int) = (0 : Int) := by simpa using h89
        refine W.skip ?_
        refine W.seq' ?_
        refine W.region rfl ?_
        refine WL.step (v := (Value.agg #[(Value.int .i64 ((sumV (cntJ (l.take k_))).1)), (Value.int .i64 ((sumV (sumJ (l.take k_))).1)), (Value.int .i64 (minJ (l.take k_))), (Value.int .i64 (maxJ (l.take k_)))])) rfl (Step.loadN Try.ag32 rfl (M.blk 2 rfl) (Nat.le_of_ble_eq_true rfl) rfl) ?_
        refine WL.store (v := (Value.agg #[(Value.int .i64 ((sumV (cntJ (l.take k_))).1)), (Value.int .i64 ((sumV (sumJ (l.take k_))).1)), (Value.int .i64 (minJ (l.take k_))), (Value.int .i64 (maxJ (l.take k_)))])) (cs := [(Value.int .i64 ((sumV (cntJ (l.take k_))).1)), (Value.int .i64 ((sumV (sumJ (l.take k_))).1)), (Value.int .i64 (minJ (l.take k_))), (Value.int .i64 (maxJ (l.take k_)))]) (c' := #[(Value.int .i64 ((sumV (cntJ (l.take k_))).1)), (Value.int .i64 ((sumV (sumJ (l.take k_))).1)), (Value.int .i64 (minJ (l.take k_))), (Value.int .i64 (maxJ (l.take k_)))]) M 3 rfl rfl Try.el32.sized rfl rfl rfl rfl (Nat.le_of_ble_eq_true rfl) (cel_cons rfl (cel_cons rfl (cel_cons rfl (cel_cons rfl cel_nil)))) rfl rfl (fun w91 M => ?_)
        refine WL.step (v := (Value.int .i64 0)) rfl (Step.assign rfl) ?_
        refine WL.nil ?_
        refine W.ret ?_
        refine ⟨.inl rfl, (Value.tuple #[(Value.agg #[(Value.int .i64 ((sumV (cntJ (l.take k_))).1)), (Value.int .i64 ((sumV (sumJ (l.take k_))).1)), (Value.int .i64 (minJ (l.take k_))), (Value.int .i64 (maxJ (l.take k_)))]), (Value.int .i64 0)]), ?_, ?_⟩
        · exact ⟨rfl, (Res.r2 (RV.cellN Try.ag32 rfl (M.blk 3 rfl) rfl) (show RV _ _ _ (.tmp 3) (Value.int .i64 0) from by exact rfl))⟩
        refine ⟨?_, M.close [] rfl (by decide) trivial⟩
        have hkk : k_ = l.length := by omega
        subst hkk
        simp only [List.take_length] at *
        cases hf1 : fits (sumI (cntJ l)) <;> cases hf2 : fits (sumI (sumJ l)) <;> simp_all [joinL, sumV, aggZ]
end Go.Proofs
