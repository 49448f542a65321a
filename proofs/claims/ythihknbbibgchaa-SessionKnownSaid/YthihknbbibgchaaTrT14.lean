/- Walks. -/
import Derived.Test.YthihknbbibgchaaTrT13
set_option maxRecDepth 100000
set_option linter.all false
namespace Go.Proofs
open Go Tp
theorem Try.en7 : Enters Try.prog 7 := fun _ _ => by kernel_rfl
theorem Try.en8 : Enters Try.prog 8 := fun _ _ => by kernel_rfl
theorem Try.en42 : Enters Try.prog 42 := fun _ _ => by kernel_rfl

set_option maxHeartbeats 4000000 in
theorem law17_known {G : Nat → Prop} {w : World}    (M : Mem G (fun _ => False) w [] [] w) : Rets Try.prog 9 #[] w fun r w' => r = (Value.bool true) ∧ Mem G (fun _ => False) w [] [] w' := by
  refine Rets.enter 163 _ Try.func9 rfl Try.ntmps9 Try.results9 (by simp) ?_
  refine W.seq' ?_
  refine W.region rfl ?_
  refine WL.step (v := (Value.bool false)) rfl (Step.assign rfl) ?_
  refine WL.nil ?_
  refine W.seq' ?_
  refine W.seq' ?_
  refine W.region rfl ?_
  refine WL.step (v := (Value.int .i64 0)) rfl (Step.assign rfl) ?_
  refine WL.nil ?_
  refine W.block ?_
  refine W.loop (fun kk ρ w' => ∃ (n_ : Nat), ((n_ ≤ 1296) ∧ kk = 1296 - n_) ∧ ρ.has [(1, (Value.int .i64 ↑n_))] ∧ Mem G (fun _ => False) w [] []  w') _ ⟨0, ⟨(Nat.zero_le _), rfl⟩, ⟨rfl, rfl, rfl⟩, M⟩ ?_
  rintro _ ρ2 w1 ⟨n_, ⟨hi3, rfl⟩, hρ, M⟩
  obtain ⟨ρ2, rfl⟩ := hρ.know
  clear hρ
  refine W.seq' ?_
  refine W.seq' ?_
  refine W.region rfl ?_
  refine WL.step (v := (Value.int .i64 ↑n_)) rfl (Step.move rfl) ?_
  refine WL.step (v := (Value.bool (decide ((↑n_ : Int) < (1296 : Int))))) rfl (Step.pure (by kernel_rfl)) ?_
  refine WL.nil ?_
  refine W.cond (t := decide ((↑n_ : Int) < (1296 : Int))) rfl (fun h4 => ?_) (fun h4 => ?_)
  ·
    have h4p := of_decide_eq_true h4
    refine W.skip ?_
    refine W.seq' ?_
    refine W.block ?_
    refine W.seq' ?_
    refine W.region rfl ?_
    refine WL.step (v := (Value.int .i64 ↑n_)) rfl (Step.move rfl) ?_
    refine WL.step (v := (Value.int .i64 (↑((n_) % 6)))) rfl (Step.cast (congrArg (Value.int .i64) (show ((↑n_ : Int) % 6 : Int) = (((n_) % 6 : Nat) : Int) by omega)) (Step.remN rfl rfl (by omega) (by decide))) ?_
    refine WL.step (v := (Value.int .i64 (↑((((n_) % 6)) * 2)))) rfl (Step.cast (congrArg (Value.int .i64) (show ((↑((n_) % 6)) * 2 : Int) = (((((n_) % 6)) * 2 : Nat) : Int) by omega)) (Step.mul rfl rfl (wrap_i64 (by omega)))) ?_
    refine WL.step (v := (Value.int .i64 ↑n_)) rfl (Step.move rfl) ?_
    refine WL.step (v := (Value.int .i64 (↑((n_) / 6)))) rfl (Step.cast (congrArg (Value.int .i64) (show ((↑n_ : Int) / 6 : Int) = (((n_) / 6 : Nat) : Int) by omega)) (Step.quoN rfl rfl (by omega) (by decide) (wrap_i64 (by omega)))) ?_
    refine WL.step (v := (Value.int .i64 (↑((((n_) / 6)) % 6)))) rfl (Step.cast (congrArg (Value.int .i64) (show ((↑((n_) / 6) : Int) % 6 : Int) = (((((n_) / 6)) % 6 : Nat) : Int) by omega)) (Step.remN rfl rfl (by omega) (by decide))) ?_
    refine WL.step (v := (Value.int .i64 (↑((((((n_) / 6)) % 6)) * 3)))) rfl (Step.cast (congrArg (Value.int .i64) (show ((↑((((n_) / 6)) % 6)) * 3 : Int) = (((((((n_) / 6)) % 6)) * 3 : Nat) : Int) by omega)) (Step.mul rfl rfl (wrap_i64 (by omega)))) ?_
    refine WL.step (v := (Value.int .i64 ↑n_)) rfl (Step.move rfl) ?_
    refine WL.step (v := (Value.int .i64 (↑((n_) / 36)))) rfl (Step.cast (congrArg (Value.int .i64) (show ((↑n_ : Int) / 36 : Int) = (((n_) / 36 : Nat) : Int) by omega)) (Step.quoN rfl rfl (by omega) (by decide) (wrap_i64 (by omega)))) ?_
    refine WL.step (v := (Value.int .i64 (↑((((n_) / 36)) % 6)))) rfl (Step.cast (congrArg (Value.int .i64) (show ((↑((n_) / 36) : Int) % 6 : Int) = (((((n_) / 36)) % 6 : Nat) : Int) by omega)) (Step.remN rfl rfl (by omega) (by decide))) ?_
    refine WL.step (v := (Value.int .i64 (↑((((((n_) / 36)) % 6)) * 5)))) rfl (Step.cast (congrArg (Value.int .i64) (show ((↑((((n_) / 36)) % 6)) * 5 : Int) = (((((((n_) / 36)) % 6)) * 5 : Nat) : Int) by omega)) (Step.mul rfl rfl (wrap_i64 (by omega)))) ?_
    refine WL.step (v := (Value.int .i64 ↑n_)) rfl (Step.move rfl) ?_
    refine WL.step (v := (Value.int .i64 (↑((n_) / 216)))) rfl (Step.cast (congrArg (Value.int .i64) (show ((↑n_ : Int) / 216 : Int) = (((n_) / 216 : Nat) : Int) by omega)) (Step.quoN rfl rfl (by omega) (by decide) (wrap_i64 (by omega)))) ?_
    refine WL.step (v := (Value.int .i64 (↑((((n_) / 216)) * 4)))) rfl (Step.cast (congrArg (Value.int .i64) (show ((↑((n_) / 216)) * 4 : Int) = (((((n_) / 216)) * 4 : Nat) : Int) by omega)) (Step.mul rfl rfl (wrap_i64 (by omega)))) ?_
    refine WL.new (obj := .cells #[(Value.int .i64 (↑((((n_) % 6)) * 2))), (Value.int .i64 (↑((((((n_) / 6)) % 6)) * 3))), (Value.int .i64 (↑((((((n_) / 36)) % 6)) * 5))), (Value.int .i64 (↑((((n_) / 216)) * 4)))] 2) (fun b => .slice (some ⟨b, 0, none⟩) 4 4) M rfl (fun w => Step.make (by kernel_rfl)) (fun b5 w6 hb5 M => ?_)
    refine WL.step (v := (Value.slice (some ⟨b5, 0, none⟩) 4 4)) rfl (Step.assign rfl) ?_
    refine WL.nil ?_
    refine W.seq' ?_
    refine W.region rfl ?_
    refine WL.step (v := (Value.int .i64 ↑n_)) rfl (Step.move rfl) ?_
    refine WL.step (v := (Value.int .i64 (↑((n_) % 7)))) rfl (Step.cast (congrArg (Value.int .i64) (show ((↑n_ : Int) % 7 : Int) = (((n_) % 7 : Nat) : Int) by omega)) (Step.remN rfl rfl (by omega) (by decide))) ?_
    refine WL.step (v := (Value.int .i64 (↑(1 + (((n_) % 7)))))) rfl (Step.cast (congrArg (Value.int .i64) (show (1 + (↑((n_) % 7)) : Int) = ((1 + (((n_) % 7)) : Nat) : Int) by omega)) (Step.add rfl rfl (wrap_i64 (by omega)))) ?_
    refine WL.step (v := (Value.int .i64 (↑(1 + (((n_) % 7)))))) rfl (Step.assign rfl) ?_
    refine WL.nil ?_
    refine W.seq' ?_
    refine W.seq' ?_
    refine W.region rfl ?_
    refine WL.step (v := (Value.int .i64 (↑(1 + (((n_) % 7)))))) rfl (Step.move rfl) ?_
    refine WL.step (v := (Value.slice (some ⟨b5, 0, none⟩) 4 4)) rfl (Step.move rfl) ?_
    refine WL.step (v := (Value.int .i64 ↑n_)) rfl (Step.move rfl) ?_
    refine WL.callX rfl (law17_times (↑(1 + (((n_) % 7)))) (Value.slice (some ⟨b5, 0, none⟩) 4 4) ([(↑((((n_) % 6)) * 2)), (↑((((((n_) / 6)) % 6)) * 3)), (↑((((((n_) / 36)) % 6)) * 5)), (↑((((n_) / 216)) * 4))] : List Int) ↑n_ (M.enterW0 ⟨((M.wideC0 0 rfl).imp fun _ h => SlAt.of_blk (n := 4) (size := 1) h rfl (by decide)), trivial⟩)) (CallsF.func Try.en42 rfl) ?_
    rintro _ w7 ⟨rfl, m⟩
    replace M := M.leaveW0 m
    clear m
    replace M : Mem _ _ _ [blk b5 (.cells #[(Value.int .i64 (↑((((n_) % 6)) * 2))), (Value.int .i64 (↑((((((n_) / 6)) % 6)) * 3))), (Value.int .i64 (↑((((((n_) / 36)) % 6)) * 5))), (Value.int .i64 (↑((((n_) / 216)) * 4)))] 2)] [] _ := M
    refine WL.step (v := (Value.bool false)) rfl (Step.pure (by kernel_rfl)) ?_
    refine WL.nil ?_
    refine W.cond (t := false) rfl (fun h => by cases h) (fun _ => ?_)
    refine W.skip ?_
    refine W.seq' ?_
    refine W.region rfl ?_
    refine WL.step (v := (Value.int .i64 ↑n_)) rfl (Step.move rfl) ?_
    refine WL.step (v := (Value.int .i64 (↑((n_) % 4)))) rfl (Step.cast (congrArg (Value.int .i64) (show ((↑n_ : Int) % 4 : Int) = (((n_) % 4 : Nat) : Int) by omega)) (Step.remN rfl rfl (by omega) (by decide))) ?_
    refine WL.step (v := (Value.bool ((↑((n_) % 4) : Int) == (0 : Int)))) rfl (Step.pure (by kernel_rfl)) ?_
    refine WL.nil ?_
    refine W.cond (t := (↑((n_) % 4) : Int) == (0 : Int)) rfl (fun h8 => ?_) (fun h8 => ?_)
    ·
      have h8p : (↑((n_) % 4) : Int) = (0 : Int) := by simpa using h8
      refine W.seq' ?_
      refine W.region rfl ?_
      refine WL.step (v := (Value.int .i64 (↑(1 + (((n_) % 7)))))) rfl (Step.move rfl) ?_
      refine WL.step (v := (Value.slice (some ⟨b5, 0, none⟩) 4 4)) rfl (Step.move rfl) ?_
      refine WL.step (v := (Value.slice (some ⟨b5, 0, none⟩) 3 4)) rfl (Step.sliceH (h := 3) Try.un70 Try.el2.sized rfl rfl rfl rfl (by omega)) ?_
      refine WL.callX rfl (ses_of (↑(1 + (((n_) % 7)))) (Value.slice (some ⟨b5, 0, none⟩) 3 4) ([(↑((((n_) % 6)) * 2)), (↑((((((n_) / 6)) % 6)) * 3)), (↑((((((n_) / 36)) % 6)) * 5))] : List Int) (by first | omega | assumption | decide | (simp only [List.length_nil, List.length_cons, List.length_take, List.length_drop]; omega)) (show (mayB (↑(1 + (((n_) % 7)))) ([(↑((((n_) % 6)) * 2)), (↑((((((n_) / 6)) % 6)) * 3)), (↑((((((n_) / 36)) % 6)) * 5))] : List Int)) = true from mayB_of ⟨by omega, by omega⟩ (times3 (by omega) (by omega) (by omega))) (M.enterW0 ⟨((M.wideC0 0 rfl).imp fun _ h => SlAt.of_blkT (n := 3) (cap := 4) (size := 1) h (by decide) (by decide) rfl), trivial⟩)) (CallsF.func Try.en35 rfl) ?_
      rintro _ w10 ⟨v9, rfl, m⟩
      replace M := M.leaveW0 m
      clear m
      replace M : Mem _ _ _ [own 65 2 v9 ((ofT (↑(1 + (((n_) % 7)))) (sortT ([(↑((((n_) % 6)) * 2)), (↑((((((n_) / 6)) % 6)) * 3)), (↑((((((n_) / 36)) % 6)) * 5))] : List Int))).length) ((ofT (↑(1 + (((n_) % 7)))) (sortT ([(↑((((n_) % 6)) * 2)), (↑((((((n_) / 6)) % 6)) * 3)), (↑((((((n_) / 36)) % 6)) * 5))] : List Int))).flatMap spanE), blk b5 (.cells #[(Value.int .i64 (↑((((n_) % 6)) * 2))), (Value.int .i64 (↑((((((n_) / 6)) % 6)) * 3))), (Value.int .i64 (↑((((((n_) / 36)) % 6)) * 5))), (Value.int .i64 (↑((((n_) / 216)) * 4)))] 2)] [] _ := M
      have sl11 : IsSl v9 := SlAt.isSl (own_slAt (Mem.chunk M 0 rfl).inv)
      have hle12 := SlAt.le' (own_slAt (Mem.chunk M 0 rfl).inv)
      have hSk_ := sesT_in (gap := (↑(1 + (((n_) % 7))))) ⟨by omega, by omega⟩ (ts := ([(↑((((n_) % 6)) * 2)), (↑((((((n_) / 6)) % 6)) * 3)), (↑((((((n_) / 36)) % 6)) * 5))] : List Int)) (times3 (by omega) (by omega) (by omega))
      have hSl_ := sesT_len (gap := (↑(1 + (((n_) % 7))))) (by omega) ([(↑((((n_) % 6)) * 2)), (↑((((((n_) / 6)) % 6)) * 3)), (↑((((((n_) / 36)) % 6)) * 5))] : List Int)
      replace M := M.rechunk 0 (c' := own 65 2 v9 ((sesT (↑(1 + (((n_) % 7)))) ([(↑((((n_) % 6)) * 2)), (↑((((((n_) / 6)) % 6)) * 3)), (↑((((((n_) / 36)) % 6)) * 5))] : List Int)).length) ((sesT (↑(1 + (((n_) % 7)))) ([(↑((((n_) % 6)) * 2)), (↑((((((n_) / 6)) % 6)) * 3)), (↑((((((n_) / 36)) % 6)) * 5))] : List Int)).flatMap spanE)) rfl rfl
      replace M : Mem _ _ _ [own 65 2 v9 ((sesT (↑(1 + (((n_) % 7)))) ([(↑((((n_) % 6)) * 2)), (↑((((((n_) / 6)) % 6)) * 3)), (↑((((((n_) / 36)) % 6)) * 5))] : List Int)).length) ((sesT (↑(1 + (((n_) % 7)))) ([(↑((((n_) % 6)) * 2)), (↑((((((n_) / 6)) % 6)) * 3)), (↑((((((n_) / 36)) % 6)) * 5))] : List Int)).flatMap spanE), blk b5 (.cells #[(Value.int .i64 (↑((((n_) % 6)) * 2))), (Value.int .i64 (↑((((((n_) / 6)) % 6)) * 3))), (Value.int .i64 (↑((((((n_) / 36)) % 6)) * 5))), (Value.int .i64 (↑((((n_) / 216)) * 4)))] 2)] [] _ := M
      refine WL.step (v := (Value.tuple #[v9, (Value.int .i64 0)])) rfl (Step.move rfl) ?_
      refine WL.step (v := v9) rfl (Step.pure (by kernel_rfl)) ?_
      refine WL.step (v := (Value.int .i64 0)) rfl (Step.pure (by kernel_rfl)) ?_
      refine WL.step (v := v9) rfl (Step.assign rfl) ?_
      refine WL.step (v := (Value.int .i64 0)) rfl (Step.assign rfl) ?_
      refine WL.nil ?_
      refine W.seq' ?_
      refine W.region rfl ?_
      refine WL.step (v := (Value.int .i64 (↑(1 + (((n_) % 7)))))) rfl (Step.move rfl) ?_
      refine WL.step (v := (Value.slice (some ⟨b5, 0, none⟩) 4 4)) rfl (Step.move rfl) ?_
      refine WL.step (v := (Value.pointer (some ⟨b5, 3, none⟩))) rfl (Step.indexAddr (i := 3) (Try.un70).run Try.el2.sized rfl rfl rfl rfl (by omega)) ?_
      refine WL.step (v := (Value.int .i64 (↑((((n_) / 216)) * 4)))) rfl (Step.load1 Try.sc2 rfl ((M.cell 1 rfl 3).trans rfl)) ?_
      refine WL.step (v := (Value.slice (some ⟨b5, 0, none⟩) 4 4)) rfl (Step.move rfl) ?_
      refine WL.step (v := v9) rfl (Step.move rfl) ?_
      refine WL.callX rfl (law17_of (↑(1 + (((n_) % 7)))) (↑((((n_) / 216)) * 4)) (Value.slice (some ⟨b5, 0, none⟩) 4 4) ([(↑((((n_) % 6)) * 2)), (↑((((((n_) / 6)) % 6)) * 3)), (↑((((((n_) / 36)) % 6)) * 5)), (↑((((n_) / 216)) * 4))] : List Int) v9 (sesT (↑(1 + (((n_) % 7)))) ([(↑((((n_) % 6)) * 2)), (↑((((((n_) / 6)) % 6)) * 3)), (↑((((((n_) / 36)) % 6)) * 5))] : List Int)) (by first | assumption | decide) (by first | assumption | (unfold in64; omega)) (M.enterW0 ⟨((M.wideC0 1 rfl).imp fun _ h => SlAt.of_blk (n := 4) (size := 1) h rfl (by decide)), ((M.wideC0 0 rfl).imp fun _ h => own_slAt h), trivial⟩)) (CallsF.func Try.en8 rfl) ?_
      rintro _ w13 ⟨rfl, m⟩
      replace M := M.leaveW0 m
      clear m
      replace M : Mem _ _ _ [own 65 2 v9 ((sesT (↑(1 + (((n_) % 7)))) ([(↑((((n_) % 6)) * 2)), (↑((((((n_) / 6)) % 6)) * 3)), (↑((((((n_) / 36)) % 6)) * 5))] : List Int)).length) ((sesT (↑(1 + (((n_) % 7)))) ([(↑((((n_) % 6)) * 2)), (↑((((((n_) / 6)) % 6)) * 3)), (↑((((((n_) / 36)) % 6)) * 5))] : List Int)).flatMap spanE), blk b5 (.cells #[(Value.int .i64 (↑((((n_) % 6)) * 2))), (Value.int .i64 (↑((((((n_) / 6)) % 6)) * 3))), (Value.int .i64 (↑((((((n_) / 36)) % 6)) * 5))), (Value.int .i64 (↑((((n_) / 216)) * 4)))] 2)] [] _ := M
      refine WL.step (v := (Value.bool false)) rfl (Step.pure (by kernel_rfl)) ?_
      refine WL.step (v := (Value.bool false)) rfl (Step.move rfl) ?_
      refine WL.step (v := (Value.int .i64 (↑(1 + (((n_) % 7)))))) rfl (Step.move rfl) ?_
      refine WL.step (v := (Value.slice (some ⟨b5, 0, none⟩) 4 4)) rfl (Step.move rfl) ?_
      refine WL.step (v := (Value.pointer (some ⟨b5, 3, none⟩))) rfl (Step.indexAddr (i := 3) (Try.un70).run Try.el2.sized rfl rfl rfl rfl (by omega)) ?_
      refine WL.step (v := (Value.int .i64 (↑((((n_) / 216)) * 4)))) rfl (Step.load1 Try.sc2 rfl ((M.cell 1 rfl 3).trans rfl)) ?_
      refine WL.step (v := v9) rfl (Step.move rfl) ?_
      refine WL.callX rfl (law17_inserts (↑(1 + (((n_) % 7)))) (↑((((n_) / 216)) * 4)) v9 (sesT (↑(1 + (((n_) % 7)))) ([(↑((((n_) % 6)) * 2)), (↑((((((n_) / 6)) % 6)) * 3)), (↑((((((n_) / 36)) % 6)) * 5))] : List Int)) (by first | assumption | decide) (by first | assumption | (unfold in64; omega)) (M.enterW0 ⟨((M.wideC0 0 rfl).imp fun _ h => own_slAt h), trivial⟩)) (CallsF.func Try.en7 rfl) ?_
      rintro _ w14 ⟨rfl, m⟩
      replace M := M.leaveW0 m
      clear m
      replace M : Mem _ _ _ [own 65 2 v9 ((sesT (↑(1 + (((n_) % 7)))) ([(↑((((n_) % 6)) * 2)), (↑((((((n_) / 6)) % 6)) * 3)), (↑((((((n_) / 36)) % 6)) * 5))] : List Int)).length) ((sesT (↑(1 + (((n_) % 7)))) ([(↑((((n_) % 6)) * 2)), (↑((((((n_) / 6)) % 6)) * 3)), (↑((((((n_) / 36)) % 6)) * 5))] : List Int)).flatMap spanE), blk b5 (.cells #[(Value.int .i64 (↑((((n_) % 6)) * 2))), (Value.int .i64 (↑((((((n_) / 6)) % 6)) * 3))), (Value.int .i64 (↑((((((n_) / 36)) % 6)) * 5))), (Value.int .i64 (↑((((n_) / 216)) * 4)))] 2)] [] _ := M
      refine WL.step (v := (Value.bool false)) rfl (Step.pure (by kernel_rfl)) ?_
      refine WL.step (v := (Value.bool false)) rfl (Step.pick (t := false) rfl rfl) ?_
      refine WL.step (v := (Value.bool false)) rfl (Step.move rfl) ?_
      refine WL.step (v := (Value.int .i64 (↑(1 + (((n_) % 7)))))) rfl (Step.move rfl) ?_
      refine WL.step (v := (Value.int .i64 (↑(1 + (((n_) % 7))) + 1))) rfl (Step.add rfl rfl (wrap_i64 (by omega))) ?_
      refine WL.step (v := (Value.slice (some ⟨b5, 0, none⟩) 4 4)) rfl (Step.move rfl) ?_
      refine WL.step (v := (Value.pointer (some ⟨b5, 3, none⟩))) rfl (Step.indexAddr (i := 3) (Try.un70).run Try.el2.sized rfl rfl rfl rfl (by omega)) ?_
      refine WL.step (v := (Value.int .i64 (↑((((n_) / 216)) * 4)))) rfl (Step.load1 Try.sc2 rfl ((M.cell 1 rfl 3).trans rfl)) ?_
      refine WL.step (v := v9) rfl (Step.move rfl) ?_
      refine WL.callX rfl (law17_inserts (↑(1 + (((n_) % 7))) + 1) (↑((((n_) / 216)) * 4)) v9 (sesT (↑(1 + (((n_) % 7)))) ([(↑((((n_) % 6)) * 2)), (↑((((((n_) / 6)) % 6)) * 3)), (↑((((((n_) / 36)) % 6)) * 5))] : List Int)) (by first | assumption | decide) (by first | assumption | (unfold in64; omega)) (M.enterW0 ⟨((M.wideC0 0 rfl).imp fun _ h => own_slAt h), trivial⟩)) (CallsF.func Try.en7 rfl) ?_
      rintro _ w15 ⟨rfl, m⟩
      replace M := M.leaveW0 m
      clear m
      replace M : Mem _ _ _ [own 65 2 v9 ((sesT (↑(1 + (((n_) % 7)))) ([(↑((((n_) % 6)) * 2)), (↑((((((n_) / 6)) % 6)) * 3)), (↑((((((n_) / 36)) % 6)) * 5))] : List Int)).length) ((sesT (↑(1 + (((n_) % 7)))) ([(↑((((n_) % 6)) * 2)), (↑((((((n_) / 6)) % 6)) * 3)), (↑((((((n_) / 36)) % 6)) * 5))] : List Int)).flatMap spanE), blk b5 (.cells #[(Value.int .i64 (↑((((n_) % 6)) * 2))), (Value.int .i64 (↑((((((n_) / 6)) % 6)) * 3))), (Value.int .i64 (↑((((((n_) / 36)) % 6)) * 5))), (Value.int .i64 (↑((((n_) / 216)) * 4)))] 2)] [] _ := M
      refine WL.step (v := (Value.bool false)) rfl (Step.pure (by kernel_rfl)) ?_
      refine WL.step (v := (Value.bool false)) rfl (Step.pick (t := false) rfl rfl) ?_
      refine WL.nil ?_
      refine W.cond (t := false) rfl (fun h => by cases h) (fun _ => ?_)
      refine W.skip ?_
      refine W.region rfl ?_
      refine WL.step (v := (Value.int .i64 ↑n_)) rfl (Step.move rfl) ?_
      refine WL.step (v := (Value.int .i64 (↑n_ + 1))) rfl (Step.add rfl rfl (wrap_i64 (by omega))) ?_
      refine WL.step (v := (Value.int .i64 (↑n_ + 1))) rfl (Step.assign rfl) ?_
      refine WL.nil ?_
      replace M := M.sel (L' := []) [] rfl (by decide)
      exact ⟨_, (by omega), n_ + 1, ⟨(by omega), rfl⟩, ⟨rfl, rfl, rfl⟩, M⟩
    ·
      have h8p : ¬ (↑((n_) % 4) : Int) = (0 : Int) := by simpa using h8
      refine W.skip ?_
      refine W.region rfl ?_
      refine WL.step (v := (Value.int .i64 ↑n_)) rfl (Step.move rfl) ?_
      refine WL.step (v := (Value.int .i64 (↑n_ + 1))) rfl (Step.add rfl rfl (wrap_i64 (by omega))) ?_
      refine WL.step (v := (Value.int .i64 (↑n_ + 1))) rfl (Step.assign rfl) ?_
      refine WL.nil ?_
      replace M := M.sel (L' := []) [] rfl (by decide)
      exact ⟨_, (by omega), n_ + 1, ⟨(by omega), rfl⟩, ⟨rfl, rfl, rfl⟩, M⟩
  ·
    have h4p := of_decide_eq_false h4
    refine W.exit ?_
    refine thn_exit ?_
    refine thn_exit ?_
    refine inBlk_hit ?_
    refine W.seq' ?_
    refine W.region rfl ?_
    refine WL.step (v := (Value.int .i64 1099511627776)) rfl (Step.assign rfl) ?_
    refine WL.nil ?_
    refine W.seq' ?_
    refine W.region rfl ?_
    refine WL.step (v := (Value.int .i64 1099511627776)) rfl (Step.move rfl) ?_
    refine WL.step (v := (Value.int .i64 1099511627776)) rfl (Step.move rfl) ?_
    refine WL.step (v := (Value.int .i64 (-1099511627776))) rfl (Step.pure (by kernel_rfl)) ?_
    refine WL.step (v := (Value.int .i64 1099511627776)) rfl (Step.move rfl) ?_
    refine WL.step (v := (Value.int .i64 1099511627777)) rfl (Step.pure (by kernel_rfl)) ?_
    refine WL.step (v := (Value.int .i64 1099511627776)) rfl (Step.move rfl) ?_
    refine WL.step (v := (Value.int .i64 (-1099511627776))) rfl (Step.pure (by kernel_rfl)) ?_
    refine WL.step (v := (Value.int .i64 (-1099511627777))) rfl (Step.pure (by kernel_rfl)) ?_
    refine WL.new (obj := .cells #[(Value.int .i64 0), (Value.int .i64 1), (Value.int .i64 (-1)), (Value.int .i64 1048576), (Value.int .i64 1048577), (Value.int .i64 1099511627776), (Value.int .i64 (-1099511627776)), (Value.int .i64 1099511627777), (Value.int .i64 (-1099511627777)), (Value.int .i64 9223372036854775807), (Value.int .i64 (-9223372036854775808))] 2) (fun b => .slice (some ⟨b, 0, none⟩) 11 11) M rfl (fun w => Step.make (by kernel_rfl)) (fun b16 w17 hb16 M => ?_)
    refine WL.step (v := (Value.slice (some ⟨b16, 0, none⟩) 11 11)) rfl (Step.assign rfl) ?_
    refine WL.nil ?_
    refine W.seq' ?_
    refine W.seq' ?_
    refine W.region rfl ?_
    refine WL.step (v := (Value.int .i64 0)) rfl (Step.assign rfl) ?_
    refine WL.nil ?_
    refine W.block ?_
    replace M := M.ownBlk 0 (n := 11) (size := 1) rfl rfl (by decide)
    replace M : Mem _ _ _ [own 2 1 (Value.slice (some ⟨b16, 0, none⟩) 11 11) (([0, 1, (-1), 1048576, 1048577, 1099511627776, (-1099511627776), 1099511627777, (-1099511627777), 9223372036854775807, (-9223372036854775808)] : List Int).length) (([0, 1, (-1), 1048576, 1048577, 1099511627776, (-1099511627776), 1099511627777, (-1099511627777), 9223372036854775807, (-9223372036854775808)] : List Int).flatMap intE)] [] _ := M
    replace M := M.rechunk 0 (c' := own 2 1 (Value.slice (some ⟨b16, 0, none⟩) 11 11) bndL.length (bndL.flatMap intE)) rfl rfl
    replace M : Mem _ _ _ [own 2 1 (Value.slice (some ⟨b16, 0, none⟩) 11 11) bndL.length (bndL.flatMap intE)] [] _ := M
    replace M := M.shareOwn 0 rfl
    replace M : Mem _ _ _ [] [SlAt 1 (Value.slice (some ⟨b16, 0, none⟩) 11 11) bndL.length (bndL.flatMap intE)] _ := M
    refine W.loop (fun kk ρ w' => ∃ (i_ : Nat) (vv_ : Value), ((i_ ≤ 11) ∧ kk = 11 - i_) ∧ ρ.has [(7, vv_), (8, (Value.int .i64 ↑i_))] ∧ Mem G (fun _ => False) w [] [SlAt 1 vv_ bndL.length (bndL.flatMap intE)]  w') _ ⟨0, _, ⟨(by decide), rfl⟩, ⟨rfl, rfl, rfl, rfl⟩, M⟩ ?_
    rintro _ ρ19 w18 ⟨i_, vv_, ⟨hi20, rfl⟩, hρ, M⟩
    obtain ⟨ρ19, rfl⟩ := hρ.know
    clear hρ
    have sl21 : IsSl vv_ := SlAt.isSl (M.rep 0 rfl)
    have hvl_ : bndL.length = 11 := rfl
    refine W.seq' ?_
    refine W.seq' ?_
    refine W.region rfl ?_
    refine WL.step (v := (Value.int .i64 ↑i_)) rfl (Step.move rfl) ?_
    refine WL.step (v := vv_) rfl (Step.move rfl) ?_
    refine WL.step (v := (Value.int .i64 ↑bndL.length)) rfl (Step.lenSl Try.un70 rfl (M.rep 0 rfl)) ?_
    refine WL.step (v := (Value.bool (decide ((↑i_ : Int) < (↑bndL.length : Int))))) rfl (Step.pure (by kernel_rfl)) ?_
    refine WL.nil ?_
    refine W.cond (t := decide ((↑i_ : Int) < (↑bndL.length : Int))) rfl (fun h22 => ?_) (fun h22 => ?_)
    ·
      have h22p := of_decide_eq_true h22
      refine W.skip ?_
      refine W.seq' ?_
      refine W.block ?_
      refine W.seq' ?_
      refine W.region rfl ?_
      refine WL.step (v := (Value.int .i64 0)) rfl (Step.assign rfl) ?_
      refine WL.nil ?_
      refine W.block ?_
      refine W.loop (fun kk ρ w' => ∃ (k_ : Nat), ((k_ ≤ 11) ∧ kk = 11 - k_) ∧ ρ.has [(7, vv_), (8, (Value.int .i64 ↑i_)), (9, (Value.int .i64 ↑k_)), (84, (Value.int .i64 ↑i_)), (85, vv_), (86, (Value.int .i64 ↑bndL.length)), (87, (Value.bool (decide ((↑i_ : Int) < (↑bndL.length : Int)))))] ∧ Mem G (fun _ => False) w [] [SlAt 1 vv_ bndL.length (bndL.flatMap intE)]  w') _ ⟨0, ⟨(by decide), rfl⟩, ⟨rfl, rfl, rfl, rfl, rfl, rfl, rfl, rfl, rfl⟩, M⟩ ?_
      rintro _ ρ24 w23 ⟨k_, ⟨hi25, rfl⟩, hρ, M⟩
      obtain ⟨ρ24, rfl⟩ := hρ.know
      clear hρ
      refine W.seq' ?_
      refine W.seq' ?_
      refine W.region rfl ?_
      refine WL.step (v := (Value.int .i64 ↑k_)) rfl (Step.move rfl) ?_
      refine WL.step (v := vv_) rfl (Step.move rfl) ?_
      refine WL.step (v := (Value.int .i64 ↑bndL.length)) rfl (Step.lenSl Try.un70 rfl (M.rep 0 rfl)) ?_
      refine WL.step (v := (Value.bool (decide ((↑k_ : Int) < (↑bndL.length : Int))))) rfl (Step.pure (by kernel_rfl)) ?_
      refine WL.nil ?_
      refine W.cond (t := decide ((↑k_ : Int) < (↑bndL.length : Int))) rfl (fun h26 => ?_) (fun h26 => ?_)
      ·
        have h26p := of_decide_eq_true h26
        refine W.skip ?_
        refine W.seq' ?_
        refine W.block ?_
        refine W.seq' ?_
        obtain ⟨cap28, hb27⟩ := SlAt.base (M.rep 0 rfl) (by omega)
        obtain ⟨x29, hx29⟩ := elem_of_lt (xs := bndL) (i := i_) (by omega)
        have hnhx29 := bnd_in _ (List.mem_of_getElem? hx29)
        obtain ⟨x30, hx30⟩ := elem_of_lt (xs := bndL) (i := k_) (by omega)
        have hnhx30 := bnd_in _ (List.mem_of_getElem? hx30)
        obtain ⟨x31, hx31⟩ := elem_of_lt (xs := bndL) (i := (i_ + 1) % 11) (by omega)
        have hnhx31 := bnd_in _ (List.mem_of_getElem? hx31)
        refine W.drawn M [0, 1, 2, 3, 4, 5, 6, 7, 8, 9, 10, 11, 12, 13, 14, 15, 16, 17, 18, 19, 20, 21] [] [20] [] [SlAt 1 vv_ bndL.length (bndL.flatMap intE)] List.Sublist.slnil (fun _ h => h) Try.mixed (by kernel_rfl) ?_
        refine TW.pure (v := vv_) rfl (by decide) (by decide) rfl (fun w => (Step.move rfl)) ?_
        refine TW.pure (v := (Value.int .i64 ↑i_)) rfl (by decide) (by decide) rfl (fun w => (Step.move rfl)) ?_
        refine TW.pure (v := (Value.pointer (some ⟨(sBlk vv_), sOff vv_ + i_ * 1, none⟩))) rfl (by decide) (by decide) rfl (fun w => (Step.indexAddr (i := i_) (Try.un70).run Try.el2.sized rfl rfl (by omega) hb27 (by omega))) ?_
        refine TW.read (v := (Value.int .i64 x29)) rfl (by decide) (by decide) rfl (fun A w M => (Step.loadE (k := 0) Try.sc2 (flat_ec (M.rep 0 rfl) hx29 intE_len) (by decide) rfl rfl)) ?_
        refine TW.pure (v := vv_) rfl (by decide) (by decide) rfl (fun w => (Step.move rfl)) ?_
        refine TW.pure (v := (Value.int .i64 ↑k_)) rfl (by decide) (by decide) rfl (fun w => (Step.move rfl)) ?_
        refine TW.pure (v := (Value.pointer (some ⟨(sBlk vv_), sOff vv_ + k_ * 1, none⟩))) rfl (by decide) (by decide) rfl (fun w => (Step.indexAddr (i := k_) (Try.un70).run Try.el2.sized rfl rfl (by omega) hb27 (by omega))) ?_
        refine TW.read (v := (Value.int .i64 x30)) rfl (by decide) (by decide) rfl (fun A w M => (Step.loadE (k := 0) Try.sc2 (flat_ec (M.rep 0 rfl) hx30 intE_len) (by decide) rfl rfl)) ?_
        refine TW.pure (v := (Value.agg #[(Value.int .i64 x29), (Value.int .i64 x30)])) rfl (by decide) (by decide) rfl (fun w => (Step.pure (by kernel_rfl))) ?_
        refine TW.pure (v := vv_) rfl (by decide) (by decide) rfl (fun w => (Step.move rfl)) ?_
        refine TW.pure (v := (Value.int .i64 ↑k_)) rfl (by decide) (by decide) rfl (fun w => (Step.move rfl)) ?_
        refine TW.pure (v := (Value.pointer (some ⟨(sBlk vv_), sOff vv_ + k_ * 1, none⟩))) rfl (by decide) (by decide) rfl (fun w => (Step.indexAddr (i := k_) (Try.un70).run Try.el2.sized rfl rfl (by omega) hb27 (by omega))) ?_
        refine TW.read (v := (Value.int .i64 x30)) rfl (by decide) (by decide) rfl (fun A w M => (Step.loadE (k := 0) Try.sc2 (flat_ec (M.rep 0 rfl) hx30 intE_len) (by decide) rfl rfl)) ?_
        refine TW.pure (v := vv_) rfl (by decide) (by decide) rfl (fun w => (Step.move rfl)) ?_
        refine TW.pure (v := (Value.int .i64 ↑i_)) rfl (by decide) (by decide) rfl (fun w => (Step.move rfl)) ?_
        refine TW.pure (v := (Value.int .i64 (↑i_ + 1))) rfl (by decide) (by decide) rfl (fun w => (Step.add rfl rfl (wrap_i64 (by omega)))) ?_
        refine TW.pure (v := (Value.int .i64 (↑((i_ + 1) % 11)))) rfl (by decide) (by decide) rfl (fun w => (Step.cast (congrArg (Value.int .i64) (show ((↑i_ + 1 : Int) % 11 : Int) = (((i_ + 1) % 11 : Nat) : Int) by omega)) (Step.remN rfl rfl (by omega) (by decide)))) ?_
        refine TW.pure (v := (Value.pointer (some ⟨(sBlk vv_), sOff vv_ + ((i_ + 1) % 11) * 1, none⟩))) rfl (by decide) (by decide) rfl (fun w => (Step.indexAddr (i := (i_ + 1) % 11) (Try.un70).run Try.el2.sized rfl rfl (by omega) hb27 (by omega))) ?_
        refine TW.read (v := (Value.int .i64 x31)) rfl (by decide) (by decide) rfl (fun A w M => (Step.loadE (k := 0) Try.sc2 (flat_ec (M.rep 0 rfl) hx31 intE_len) (by decide) rfl rfl)) ?_
        refine TW.pure (v := (Value.agg #[(Value.int .i64 x30), (Value.int .i64 x31)])) rfl (by decide) (by decide) rfl (fun w => (Step.pure (by kernel_rfl))) ?_
        refine TW.new (obj := .cells #[(Value.int .i64 x29), (Value.int .i64 x30), (Value.int .i64 x30), (Value.int .i64 x31)] 65) (fun b => .slice (some ⟨b, 0, none⟩) 2 2) rfl (by decide) (by decide) rfl (fun w => Step.make (by kernel_rfl)) (fun b36 => ?_)
        refine TW.pure (v := (Value.slice (some ⟨b36, 0, none⟩) 2 2)) rfl (by decide) (by decide) rfl (fun w => (Step.assign rfl)) ?_
        refine TW.done (fun w37 M => ?_)
        refine W.seq' ?_
        have hod_ := odd_in hnhx29 hnhx30 hnhx31
        have hod1_ := odd1_in hnhx29 hnhx30
        refine W.drawn M [0, 1, 2, 3, 4, 5, 6, 7, 8, 9, 10, 11, 13, 12, 14, 15, 16, 17, 18, 19, 20, 21, 22, 23, 24, 25, 26, 27, 28, 29, 30, 31, 32, 33, 34, 35, 36, 37, 38] [14, 27, 36] [12] [blk b36 (.cells #[(Value.int .i64 x29), (Value.int .i64 x30), (Value.int .i64 x30), (Value.int .i64 x31)] 65)] [SlAt 1 vv_ bndL.length (bndL.flatMap intE)] (List.Sublist.cons_cons _ List.Sublist.slnil) (fun _ h => h) Try.mixed (by kernel_rfl) ?_
        refine TW.pure (v := vv_) rfl (by decide) (by decide) rfl (fun w => (Step.move rfl)) ?_
        refine TW.pure (v := (Value.int .i64 ↑i_)) rfl (by decide) (by decide) rfl (fun w => (Step.move rfl)) ?_
        refine TW.pure (v := (Value.pointer (some ⟨(sBlk vv_), sOff vv_ + i_ * 1, none⟩))) rfl (by decide) (by decide) rfl (fun w => (Step.indexAddr (i := i_) (Try.un70).run Try.el2.sized rfl rfl (by omega) hb27 (by omega))) ?_
        refine TW.read (v := (Value.int .i64 x29)) rfl (by decide) (by decide) rfl (fun A w M => (Step.loadE (k := 0) Try.sc2 (flat_ec (M.rep 0 rfl) hx29 intE_len) (by decide) rfl rfl)) ?_
        refine TW.pure (v := vv_) rfl (by decide) (by decide) rfl (fun w => (Step.move rfl)) ?_
        refine TW.pure (v := (Value.int .i64 ↑k_)) rfl (by decide) (by decide) rfl (fun w => (Step.move rfl)) ?_
        refine TW.pure (v := (Value.pointer (some ⟨(sBlk vv_), sOff vv_ + k_ * 1, none⟩))) rfl (by decide) (by decide) rfl (fun w => (Step.indexAddr (i := k_) (Try.un70).run Try.el2.sized rfl rfl (by omega) hb27 (by omega))) ?_
        refine TW.read (v := (Value.int .i64 x30)) rfl (by decide) (by decide) rfl (fun A w M => (Step.loadE (k := 0) Try.sc2 (flat_ec (M.rep 0 rfl) hx30 intE_len) (by decide) rfl rfl)) ?_
        refine TW.pure (v := vv_) rfl (by decide) (by decide) rfl (fun w => (Step.move rfl)) ?_
        refine TW.pure (v := (Value.int .i64 ↑k_)) rfl (by decide) (by decide) rfl (fun w => (Step.move rfl)) ?_
        refine TW.pure (v := (Value.pointer (some ⟨(sBlk vv_), sOff vv_ + k_ * 1, none⟩))) rfl (by decide) (by decide) rfl (fun w => (Step.indexAddr (i := k_) (Try.un70).run Try.el2.sized rfl rfl (by omega) hb27 (by omega))) ?_
        refine TW.read (v := (Value.int .i64 x30)) rfl (by decide) (by decide) rfl (fun A w M => (Step.loadE (k := 0) Try.sc2 (flat_ec (M.rep 0 rfl) hx30 intE_len) (by decide) rfl rfl)) ?_
        refine TW.pure (v := (Value.slice (some ⟨b36, 0, none⟩) 2 2)) rfl (by decide) (by decide) rfl (fun w => (Step.move rfl)) ?_
        refine TW.new (obj := .cells #[(Value.int .i64 x30), (Value.int .i64 5)] 2) (fun b => .slice (some ⟨b, 0, none⟩) 2 2) rfl (by decide) (by decide) rfl (fun w => Step.make (by kernel_rfl)) (fun b42 => ?_)
        refine TW.callX (ι := Unit) (fun jx v_ => v_ = (Value.bool true)) (fun jx => [blk b42 (.cells #[(Value.int .i64 x30), (Value.int .i64 5)] 2), blk b36 (.cells #[(Value.int .i64 x29), (Value.int .i64 x30), (Value.int .i64 x30), (Value.int .i64 x31)] 65)]) (fun jx => [SlAt 1 vv_ bndL.length (bndL.flatMap intE)]) rfl (by decide) rfl (fun jx => (List.Sublist.cons _ (List.Sublist.cons_cons _ List.Sublist.slnil))) (fun jx r h => h) (fun A w M => Rets.mono (law17_of x29 x30 (Value.slice (some ⟨b42, 0, none⟩) 2 2) ([x30, 5] : List Int) (Value.slice (some ⟨b36, 0, none⟩) 2 2) ([(⟨x29, x30⟩ : Span), (⟨x30, x31⟩ : Span)] : List Span) (by first | assumption | decide) (by first | assumption | (unfold in64; omega)) (M.enterW0 ⟨((M.wideC0 1 rfl).imp fun _ h => SlAt.of_blk (n := 2) (size := 1) h rfl (by decide)), ((M.wideC0 2 rfl).imp fun _ h => SlAt.of_blk (n := 2) (size := 2) h rfl (by decide)), trivial⟩)) (fun v_ w_ ⟨e_, m⟩ => ⟨(), e_, (M.leaveW0 m).sel (L' := [fl A, blk b42 (.cells #[(Value.int .i64 x30), (Value.int .i64 5)] 2), blk b36 (.cells #[(Value.int .i64 x29), (Value.int .i64 x30), (Value.int .i64 x30), (Value.int .i64 x31)] 65)]) [0, 1, 2] rfl (by decide), fun b hb => M.keptW0 m (fl A) (List.mem_cons_self ..) b hb⟩)) (fun w => CallsF.func Try.en8 rfl) (fun jx v hp hin => ?_)
        replace hp := hp.symm; subst hp
        clear hin
        change TW _ _ _ _ _ _ _ _ (MemA _ _ _ [blk b42 (.cells #[(Value.int .i64 x30), (Value.int .i64 5)] 2), blk b36 (.cells #[(Value.int .i64 x29), (Value.int .i64 x30), (Value.int .i64 x30), (Value.int .i64 x31)] 65)] [SlAt 1 vv_ bndL.length (bndL.flatMap intE)])
        refine TW.pure (v := (Value.bool false)) rfl (by decide) (by decide) rfl (fun w => (Step.pure (by kernel_rfl))) ?_
        refine TW.pure (v := (Value.bool false)) rfl (by decide) (by decide) rfl (fun w => (Step.move rfl)) ?_
        refine TW.pure (v := vv_) rfl (by decide) (by decide) rfl (fun w => (Step.move rfl)) ?_
        refine TW.pure (v := (Value.int .i64 ↑i_)) rfl (by decide) (by decide) rfl (fun w => (Step.move rfl)) ?_
        refine TW.pure (v := (Value.pointer (some ⟨(sBlk vv_), sOff vv_ + i_ * 1, none⟩))) rfl (by decide) (by decide) rfl (fun w => (Step.indexAddr (i := i_) (Try.un70).run Try.el2.sized rfl rfl (by omega) hb27 (by omega))) ?_
        refine TW.read (v := (Value.int .i64 x29)) rfl (by decide) (by decide) rfl (fun A w M => (Step.loadE (k := 0) Try.sc2 (flat_ec (M.rep 0 rfl) hx29 intE_len) (by decide) rfl rfl)) ?_
        refine TW.pure (v := vv_) rfl (by decide) (by decide) rfl (fun w => (Step.move rfl)) ?_
        refine TW.pure (v := (Value.int .i64 ↑k_)) rfl (by decide) (by decide) rfl (fun w => (Step.move rfl)) ?_
        refine TW.pure (v := (Value.pointer (some ⟨(sBlk vv_), sOff vv_ + k_ * 1, none⟩))) rfl (by decide) (by decide) rfl (fun w => (Step.indexAddr (i := k_) (Try.un70).run Try.el2.sized rfl rfl (by omega) hb27 (by omega))) ?_
        refine TW.read (v := (Value.int .i64 x30)) rfl (by decide) (by decide) rfl (fun A w M => (Step.loadE (k := 0) Try.sc2 (flat_ec (M.rep 0 rfl) hx30 intE_len) (by decide) rfl rfl)) ?_
        refine TW.pure (v := (Value.slice (some ⟨b36, 0, none⟩) 2 2)) rfl (by decide) (by decide) rfl (fun w => (Step.move rfl)) ?_
        refine TW.pure (v := (Value.slice (some ⟨b36, 0, none⟩) 1 2)) rfl (by decide) (by decide) rfl (fun w => (Step.sliceH (h := 1) Try.un58 Try.el65.sized rfl rfl rfl rfl (by omega))) ?_
        refine TW.callX (ι := Unit) (fun jx v_ => v_ = (Value.bool true)) (fun jx => [blk b42 (.cells #[(Value.int .i64 x30), (Value.int .i64 5)] 2), blk b36 (.cells #[(Value.int .i64 x29), (Value.int .i64 x30), (Value.int .i64 x30), (Value.int .i64 x31)] 65)]) (fun jx => [SlAt 1 vv_ bndL.length (bndL.flatMap intE)]) rfl (by decide) rfl (fun jx => (List.Sublist.cons _ (List.Sublist.cons_cons _ List.Sublist.slnil))) (fun jx r h => h) (fun A w M => Rets.mono (law17_inserts x29 x30 (Value.slice (some ⟨b36, 0, none⟩) 1 2) ([(⟨x29, x30⟩ : Span)] : List Span) (by first | assumption | decide) (by first | assumption | (unfold in64; omega)) (M.enterW0 ⟨((M.wideC0 2 rfl).imp fun _ h => SlAt.of_blkT (n := 1) (cap := 2) (size := 2) h (by decide) (by decide) rfl), trivial⟩)) (fun v_ w_ ⟨e_, m⟩ => ⟨(), e_, (M.leaveW0 m).sel (L' := [fl A, blk b42 (.cells #[(Value.int .i64 x30), (Value.int .i64 5)] 2), blk b36 (.cells #[(Value.int .i64 x29), (Value.int .i64 x30), (Value.int .i64 x30), (Value.int .i64 x31)] 65)]) [0, 1, 2] rfl (by decide), fun b hb => M.keptW0 m (fl A) (List.mem_cons_self ..) b hb⟩)) (fun w => CallsF.func Try.en7 rfl) (fun jx v hp hin => ?_)
        replace hp := hp.symm; subst hp
        clear hin
        change TW _ _ _ _ _ _ _ _ (MemA _ _ _ [blk b42 (.cells #[(Value.int .i64 x30), (Value.int .i64 5)] 2), blk b36 (.cells #[(Value.int .i64 x29), (Value.int .i64 x30), (Value.int .i64 x30), (Value.int .i64 x31)] 65)] [SlAt 1 vv_ bndL.length (bndL.flatMap intE)])
        refine TW.pure (v := (Value.bool false)) rfl (by decide) (by decide) rfl (fun w => (Step.pure (by kernel_rfl))) ?_
        refine TW.pure (v := (Value.bool false)) rfl (by decide) (by decide) rfl (fun w => (Step.pick (t := false) rfl rfl)) ?_
        refine TW.pure (v := (Value.bool false)) rfl (by decide) (by decide) rfl (fun w => (Step.move rfl)) ?_
        refine TW.pure (v := vv_) rfl (by decide) (by decide) rfl (fun w => (Step.move rfl)) ?_
        refine TW.pure (v := (Value.int .i64 ↑k_)) rfl (by decide) (by decide) rfl (fun w => (Step.move rfl)) ?_
        refine TW.pure (v := (Value.pointer (some ⟨(sBlk vv_), sOff vv_ + k_ * 1, none⟩))) rfl (by decide) (by decide) rfl (fun w => (Step.indexAddr (i := k_) (Try.un70).run Try.el2.sized rfl rfl (by omega) hb27 (by omega))) ?_
        refine TW.read (v := (Value.int .i64 x30)) rfl (by decide) (by decide) rfl (fun A w M => (Step.loadE (k := 0) Try.sc2 (flat_ec (M.rep 0 rfl) hx30 intE_len) (by decide) rfl rfl)) ?_
        refine TW.pure (v := (Value.slice (some ⟨b36, 0, none⟩) 2 2)) rfl (by decide) (by decide) rfl (fun w => (Step.move rfl)) ?_
        refine TW.callX (ι := Unit) (fun jx v_ => v_ = (Value.bool true)) (fun jx => [blk b42 (.cells #[(Value.int .i64 x30), (Value.int .i64 5)] 2), blk b36 (.cells #[(Value.int .i64 x29), (Value.int .i64 x30), (Value.int .i64 x30), (Value.int .i64 x31)] 65)]) (fun jx => [SlAt 1 vv_ bndL.length (bndL.flatMap intE)]) rfl (by decide) rfl (fun jx => (List.Sublist.cons _ (List.Sublist.cons_cons _ List.Sublist.slnil))) (fun jx r h => h) (fun A w M => Rets.mono (law17_inserts 5 x30 (Value.slice (some ⟨b36, 0, none⟩) 2 2) ([(⟨x29, x30⟩ : Span), (⟨x30, x31⟩ : Span)] : List Span) (by first | assumption | decide) (by first | assumption | (unfold in64; omega)) (M.enterW0 ⟨((M.wideC0 2 rfl).imp fun _ h => SlAt.of_blk (n := 2) (size := 2) h rfl (by decide)), trivial⟩)) (fun v_ w_ ⟨e_, m⟩ => ⟨(), e_, (M.leaveW0 m).sel (L' := [fl A, blk b42 (.cells #[(Value.int .i64 x30), (Value.int .i64 5)] 2), blk b36 (.cells #[(Value.int .i64 x29), (Value.int .i64 x30), (Value.int .i64 x30), (Value.int .i64 x31)] 65)]) [0, 1, 2] rfl (by decide), fun b hb => M.keptW0 m (fl A) (List.mem_cons_self ..) b hb⟩)) (fun w => CallsF.func Try.en7 rfl) (fun jx v hp hin => ?_)
        replace hp := hp.symm; subst hp
        clear hin
        change TW _ _ _ _ _ _ _ _ (MemA _ _ _ [blk b42 (.cells #[(Value.int .i64 x30), (Value.int .i64 5)] 2), blk b36 (.cells #[(Value.int .i64 x29), (Value.int .i64 x30), (Value.int .i64 x30), (Value.int .i64 x31)] 65)] [SlAt 1 vv_ bndL.length (bndL.flatMap intE)])
        refine TW.pure (v := (Value.bool false)) rfl (by decide) (by decide) rfl (fun w => (Step.pure (by kernel_rfl))) ?_
        refine TW.pure (v := (Value.bool false)) rfl (by decide) (by decide) rfl (fun w => (Step.pick (t := false) rfl rfl)) ?_
        refine TW.done (fun w43 M => ?_)
        refine W.cond (t := false) rfl (fun h => by cases h) (fun _ => ?_)
        refine W.skip ?_
        refine W.region rfl ?_
        refine WL.step (v := (Value.int .i64 ↑k_)) rfl (Step.move rfl) ?_
        refine WL.step (v := (Value.int .i64 (↑k_ + 1))) rfl (Step.add rfl rfl (wrap_i64 (by omega))) ?_
        refine WL.step (v := (Value.int .i64 (↑k_ + 1))) rfl (Step.assign rfl) ?_
        refine WL.nil ?_
        replace M := M.sel (L' := []) [] rfl (by decide)
        exact ⟨_, (by omega), k_ + 1, ⟨(by omega), rfl⟩, ⟨rfl, rfl, rfl, rfl, rfl, rfl, rfl, rfl, rfl⟩, M⟩
      ·
        have h26p := of_decide_eq_false h26
        refine W.exit ?_
        refine thn_exit ?_
        refine thn_exit ?_
        refine inBlk_hit ?_
        refine W.region rfl ?_
        refine WL.step (v := (Value.int .i64 ↑i_)) rfl (Step.move rfl) ?_
        refine WL.step (v := (Value.int .i64 (↑i_ + 1))) rfl (Step.add rfl rfl (wrap_i64 (by omega))) ?_
        refine WL.step (v := (Value.int .i64 (↑i_ + 1))) rfl (Step.assign rfl) ?_
        refine WL.nil ?_
        exact ⟨_, (by omega), i_ + 1, _, ⟨(by omega), rfl⟩, ⟨rfl, rfl, rfl, rfl⟩, M⟩
    ·
      have h22p := of_decide_eq_false h22
      refine W.exit ?_
      refine thn_exit ?_
      refine thn_exit ?_
      refine inBlk_hit ?_
      refine W.seq' ?_
      refine W.region rfl ?_
      refine WL.callX rfl (law17_of 1 0 (Value.slice none 0 0) ([] : List Int) (Value.slice none 0 0) ([] : List Span) (by first | assumption | decide) (by first | assumption | (unfold in64; omega)) (M.enterW0 ⟨(Sh.pure fun w => SlAt.nil 1 w), (Sh.pure fun w => SlAt.nil 2 w), trivial⟩)) (CallsF.func Try.en8 rfl) ?_
      rintro _ w44 ⟨rfl, m⟩
      replace M := M.leaveW0 m
      clear m
      replace M : Mem _ _ _ [] [SlAt 1 vv_ bndL.length (bndL.flatMap intE)] _ := M
      refine WL.step (v := (Value.bool true)) rfl (Step.move rfl) ?_
      refine WL.callX rfl (law17_times 0 (Value.slice none 0 0) ([] : List Int) 0 (M.enterW0 ⟨(Sh.pure fun w => SlAt.nil 1 w), trivial⟩)) (CallsF.func Try.en42 rfl) ?_
      rintro _ w45 ⟨rfl, m⟩
      replace M := M.leaveW0 m
      clear m
      replace M : Mem _ _ _ [] [SlAt 1 vv_ bndL.length (bndL.flatMap intE)] _ := M
      refine WL.step (v := (Value.bool true)) rfl (Step.pick (t := true) rfl rfl) ?_
      refine WL.step (v := (Value.bool true)) rfl (Step.move rfl) ?_
      refine WL.callX rfl (law17_works  (M.enterW0 trivial)) (CallsF.func Try.en29 rfl) ?_
      rintro _ w46 ⟨rfl, m⟩
      replace M := M.leaveW0 m
      clear m
      replace M : Mem _ _ _ [] [SlAt 1 vv_ bndL.length (bndL.flatMap intE)] _ := M
      refine WL.step (v := (Value.bool true)) rfl (Step.pick (t := true) rfl rfl) ?_
      refine WL.step (v := (Value.bool true)) rfl (Step.assign rfl) ?_
      refine WL.nil ?_
      refine W.ret ?_
      refine ⟨.inl rfl, (Value.bool true), ?_, ?_⟩
      · exact ⟨rfl, (Res.r1 (show RV _ _ _ (.tmp 0) (Value.bool true) from by exact rfl))⟩
      refine ⟨?_, M.close [] rfl (by decide) trivial⟩
      rfl
end Go.Proofs
