/- Walks. -/
import Derived.Test.YtdaafologmjeeaaTpW4
import Derived.Test.YtdaafologmjeeaaTpLaw11
set_option maxRecDepth 100000
set_option linter.all false
namespace Go.Proofs
open Go Tp
theorem Try.en8 : Enters Try.prog 8 := fun _ _ => by kernel_rfl
theorem Try.en9 : Enters Try.prog 9 := fun _ _ => by kernel_rfl
theorem Try.en10 : Enters Try.prog 10 := fun _ _ => by kernel_rfl
theorem Try.en12 : Enters Try.prog 12 := fun _ _ => by kernel_rfl
theorem Try.en13 : Enters Try.prog 13 := fun _ _ => by kernel_rfl
theorem Try.en14 : Enters Try.prog 14 := fun _ _ => by kernel_rfl
theorem Try.en15 : Enters Try.prog 15 := fun _ _ => by kernel_rfl
theorem Try.en20 : Enters Try.prog 20 := fun _ _ => by kernel_rfl

theorem ar_has_p {G X : Nat → Prop} {w : World} (ab : Nat) (l : List RPlace) (S : Nat → Prop) (h : Handle)  (M : Mem G X w [arenaC 71 73 S ab l] [] w) : Rets Try.prog 16 #[(Value.pointer (some ⟨ab, 0, none⟩)), (Value.agg #[(Value.int .i64 h.at_), (Value.int .i64 h.turn)])] w fun r w' => r = (Value.bool (rhas l h)) ∧ Mem G X w [arenaC 71 73 S ab l] [] w' := by
  obtain ⟨i, hK, hS, M⟩ := M.unpack
  exact Rets.mono (ar_has ab l i h hK M) fun r w' ⟨e, m⟩ => ⟨e, by have := Mem.pack (Ls := arenaL 71 73 ab l) (p := fun i => FreeOk i.ks l) i m hK; rwa [← hS] at this⟩

theorem law_works {G : Nat → Prop} {w : World}   (M : Mem G (fun _ => False) w [] [] w) : Rets Try.prog 8 #[] w fun r w' => r = (Value.bool true) ∧ Mem G (fun _ => False) w [] [] w' := by
  refine Rets.enter 88 _ Try.func8 rfl Try.ntmps8 Try.results8 (by simp) ?_
  refine W.seq' ?_
  refine W.region rfl ?_
  refine WL.step (v := (Value.bool false)) rfl (Step.assign rfl) ?_
  refine WL.nil ?_
  refine W.seq' ?_
  refine W.region rfl ?_
  refine WL.callX rfl (ar_new  (M.enterW0 trivial)) (CallsF.func Try.en9 rfl) ?_
  rintro _ w3 ⟨ab1, S2, rfl, m⟩
  replace M := M.leaveW0 m
  clear m
  replace M : Mem _ _ _ [arenaC 71 73 S2 ab1 ([] : List RPlace)] [] _ := M
  refine WL.step (v := (Value.pointer (some ⟨ab1, 0, none⟩))) rfl (Step.assign rfl) ?_
  refine WL.nil ?_
  refine W.seq' ?_
  refine W.region rfl ?_
  refine WL.step (v := (Value.pointer (some ⟨ab1, 0, none⟩))) rfl (Step.move rfl) ?_
  refine WL.step (v := (Value.agg #[(Value.bool false), (Value.slice none 0 0), (Value.slice none 0 0), (Value.slice none 0 0)])) rfl (Step.pure (by kernel_rfl)) ?_
  refine WL.callX rfl (ar_make ab1 ([] : List RPlace) S2 (Value.slice none 0 0) (Value.slice none 0 0) (Value.slice none 0 0) (⟨false, ([] : List ByteArray), ([] : List Handle), ([] : List Int)⟩ : Nd) (by first | assumption | exact smallA_of rfl) (by first | omega | (simp only [List.length_nil, List.length_cons]; omega) | decide) (by first | omega | (simp only [List.length_nil, List.length_cons]; omega) | decide) (by first | omega | (simp only [List.length_nil, List.length_cons]; omega) | decide) (M.enterW (C := [arenaC 71 73 S2 ab1 ([] : List RPlace)]) (D := []) [0] rfl (by decide) ⟨(Sh.pure fun w => SlAt.nil 1 w), (Sh.pure fun w => SlAt.nil 2 w), (Sh.pure fun w => SlAt.nil 1 w), trivial⟩)) (CallsF.func Try.en13 rfl) ?_
  rintro _ w5 ⟨S4, rfl, m⟩
  replace M := M.leaveW (C := [arenaC 71 73 S2 ab1 ([] : List RPlace)]) (D := []) [0] rfl (by decide) m
  clear m
  replace M : Mem _ _ _ [arenaC 71 73 S4 ab1 ((rmake ([] : List RPlace) (⟨false, ([] : List ByteArray), ([] : List Handle), ([] : List Int)⟩ : Nd)).1)] [] _ := M
  replace M := M.rechunk 0 (c' := arenaC 71 73 S4 ab1 ([⟨true, 1, (⟨false, ([] : List ByteArray), ([] : List Handle), ([] : List Int)⟩ : Nd)⟩] : List RPlace)) rfl rfl
  replace M : Mem _ _ _ [arenaC 71 73 S4 ab1 ([⟨true, 1, (⟨false, ([] : List ByteArray), ([] : List Handle), ([] : List Int)⟩ : Nd)⟩] : List RPlace)] [] _ := M
  change WL _ _ _ _ _ (Env.put _ _ (Value.agg #[(Value.int .i64 0), (Value.int .i64 1)])) _
  refine WL.step (v := (Value.pointer (some ⟨ab1, 0, none⟩))) rfl (Step.move rfl) ?_
  refine WL.step (v := (Value.agg #[(Value.bool true), (Value.slice none 0 0), (Value.slice none 0 0), (Value.slice none 0 0)])) rfl (Step.pure (by kernel_rfl)) ?_
  refine WL.callX rfl (ar_make ab1 ([⟨true, 1, (⟨false, ([] : List ByteArray), ([] : List Handle), ([] : List Int)⟩ : Nd)⟩] : List RPlace) S4 (Value.slice none 0 0) (Value.slice none 0 0) (Value.slice none 0 0) (⟨true, ([] : List ByteArray), ([] : List Handle), ([] : List Int)⟩ : Nd) (by first | assumption | exact smallA_of rfl) (by first | omega | (simp only [List.length_nil, List.length_cons]; omega) | decide) (by first | omega | (simp only [List.length_nil, List.length_cons]; omega) | decide) (by first | omega | (simp only [List.length_nil, List.length_cons]; omega) | decide) (M.enterW (C := [arenaC 71 73 S4 ab1 ([⟨true, 1, (⟨false, ([] : List ByteArray), ([] : List Handle), ([] : List Int)⟩ : Nd)⟩] : List RPlace)]) (D := []) [0] rfl (by decide) ⟨(Sh.pure fun w => SlAt.nil 1 w), (Sh.pure fun w => SlAt.nil 2 w), (Sh.pure fun w => SlAt.nil 1 w), trivial⟩)) (CallsF.func Try.en13 rfl) ?_
  rintro _ w7 ⟨S6, rfl, m⟩
  replace M := M.leaveW (C := [arenaC 71 73 S4 ab1 ([⟨true, 1, (⟨false, ([] : List ByteArray), ([] : List Handle), ([] : List Int)⟩ : Nd)⟩] : List RPlace)]) (D := []) [0] rfl (by decide) m
  clear m
  replace M : Mem _ _ _ [arenaC 71 73 S6 ab1 ((rmake ([⟨true, 1, (⟨false, ([] : List ByteArray), ([] : List Handle), ([] : List Int)⟩ : Nd)⟩] : List RPlace) (⟨true, ([] : List ByteArray), ([] : List Handle), ([] : List Int)⟩ : Nd)).1)] [] _ := M
  replace M := M.rechunk 0 (c' := arenaC 71 73 S6 ab1 ([⟨true, 1, (⟨false, ([] : List ByteArray), ([] : List Handle), ([] : List Int)⟩ : Nd)⟩, ⟨true, 1, (⟨true, ([] : List ByteArray), ([] : List Handle), ([] : List Int)⟩ : Nd)⟩] : List RPlace)) rfl rfl
  replace M : Mem _ _ _ [arenaC 71 73 S6 ab1 ([⟨true, 1, (⟨false, ([] : List ByteArray), ([] : List Handle), ([] : List Int)⟩ : Nd)⟩, ⟨true, 1, (⟨true, ([] : List ByteArray), ([] : List Handle), ([] : List Int)⟩ : Nd)⟩] : List RPlace)] [] _ := M
  change WL _ _ _ _ _ (Env.put _ _ (Value.agg #[(Value.int .i64 1), (Value.int .i64 1)])) _
  refine WL.step (v := (Value.pointer (some ⟨ab1, 0, none⟩))) rfl (Step.move rfl) ?_
  refine WL.step (v := (Value.agg #[(Value.bool false), (Value.slice none 0 0), (Value.slice none 0 0), (Value.slice none 0 0)])) rfl (Step.pure (by kernel_rfl)) ?_
  refine WL.callX rfl (ar_make ab1 ([⟨true, 1, (⟨false, ([] : List ByteArray), ([] : List Handle), ([] : List Int)⟩ : Nd)⟩, ⟨true, 1, (⟨true, ([] : List ByteArray), ([] : List Handle), ([] : List Int)⟩ : Nd)⟩] : List RPlace) S6 (Value.slice none 0 0) (Value.slice none 0 0) (Value.slice none 0 0) (⟨false, ([] : List ByteArray), ([] : List Handle), ([] : List Int)⟩ : Nd) (by first | assumption | exact smallA_of rfl) (by first | omega | (simp only [List.length_nil, List.length_cons]; omega) | decide) (by first | omega | (simp only [List.length_nil, List.length_cons]; omega) | decide) (by first | omega | (simp only [List.length_nil, List.length_cons]; omega) | decide) (M.enterW (C := [arenaC 71 73 S6 ab1 ([⟨true, 1, (⟨false, ([] : List ByteArray), ([] : List Handle), ([] : List Int)⟩ : Nd)⟩, ⟨true, 1, (⟨true, ([] : List ByteArray), ([] : List Handle), ([] : List Int)⟩ : Nd)⟩] : List RPlace)]) (D := []) [0] rfl (by decide) ⟨(Sh.pure fun w => SlAt.nil 1 w), (Sh.pure fun w => SlAt.nil 2 w), (Sh.pure fun w => SlAt.nil 1 w), trivial⟩)) (CallsF.func Try.en13 rfl) ?_
  rintro _ w9 ⟨S8, rfl, m⟩
  replace M := M.leaveW (C := [arenaC 71 73 S6 ab1 ([⟨true, 1, (⟨false, ([] : List ByteArray), ([] : List Handle), ([] : List Int)⟩ : Nd)⟩, ⟨true, 1, (⟨true, ([] : List ByteArray), ([] : List Handle), ([] : List Int)⟩ : Nd)⟩] : List RPlace)]) (D := []) [0] rfl (by decide) m
  clear m
  replace M : Mem _ _ _ [arenaC 71 73 S8 ab1 ((rmake ([⟨true, 1, (⟨false, ([] : List ByteArray), ([] : List Handle), ([] : List Int)⟩ : Nd)⟩, ⟨true, 1, (⟨true, ([] : List ByteArray), ([] : List Handle), ([] : List Int)⟩ : Nd)⟩] : List RPlace) (⟨false, ([] : List ByteArray), ([] : List Handle), ([] : List Int)⟩ : Nd)).1)] [] _ := M
  replace M := M.rechunk 0 (c' := arenaC 71 73 S8 ab1 ([⟨true, 1, (⟨false, ([] : List ByteArray), ([] : List Handle), ([] : List Int)⟩ : Nd)⟩, ⟨true, 1, (⟨true, ([] : List ByteArray), ([] : List Handle), ([] : List Int)⟩ : Nd)⟩, ⟨true, 1, (⟨false, ([] : List ByteArray), ([] : List Handle), ([] : List Int)⟩ : Nd)⟩] : List RPlace)) rfl rfl
  replace M : Mem _ _ _ [arenaC 71 73 S8 ab1 ([⟨true, 1, (⟨false, ([] : List ByteArray), ([] : List Handle), ([] : List Int)⟩ : Nd)⟩, ⟨true, 1, (⟨true, ([] : List ByteArray), ([] : List Handle), ([] : List Int)⟩ : Nd)⟩, ⟨true, 1, (⟨false, ([] : List ByteArray), ([] : List Handle), ([] : List Int)⟩ : Nd)⟩] : List RPlace)] [] _ := M
  change WL _ _ _ _ _ (Env.put _ _ (Value.agg #[(Value.int .i64 2), (Value.int .i64 1)])) _
  refine WL.alloc (c := #[(Value.int .i64 0), (Value.int .i64 0)]) M rfl Try.el29.zero rfl (fun b10 w11 hb10 M => ?_)
  refine WL.alloc (c := #[(Value.int .i64 0), (Value.int .i64 0)]) M rfl Try.el29.zero rfl (fun b12 w13 hb12 M => ?_)
  refine WL.alloc (c := #[(Value.int .i64 0), (Value.int .i64 0)]) M rfl Try.el29.zero rfl (fun b14 w15 hb14 M => ?_)
  refine WL.store (v := (Value.agg #[(Value.int .i64 0), (Value.int .i64 1)])) (cs := [(Value.int .i64 0), (Value.int .i64 1)]) (c' := #[(Value.int .i64 0), (Value.int .i64 1)]) M 2 rfl rfl Try.el29.sized rfl rfl rfl rfl (Nat.le_of_ble_eq_true rfl) (cel_cons rfl (cel_cons rfl cel_nil)) rfl rfl (fun w16 M => ?_)
  refine WL.store (v := (Value.agg #[(Value.int .i64 1), (Value.int .i64 1)])) (cs := [(Value.int .i64 1), (Value.int .i64 1)]) (c' := #[(Value.int .i64 1), (Value.int .i64 1)]) M 1 rfl rfl Try.el29.sized rfl rfl rfl rfl (Nat.le_of_ble_eq_true rfl) (cel_cons rfl (cel_cons rfl cel_nil)) rfl rfl (fun w17 M => ?_)
  refine WL.store (v := (Value.agg #[(Value.int .i64 2), (Value.int .i64 1)])) (cs := [(Value.int .i64 2), (Value.int .i64 1)]) (c' := #[(Value.int .i64 2), (Value.int .i64 1)]) M 0 rfl rfl Try.el29.sized rfl rfl rfl rfl (Nat.le_of_ble_eq_true rfl) (cel_cons rfl (cel_cons rfl cel_nil)) rfl rfl (fun w18 M => ?_)
  refine WL.nil ?_
  refine W.seq' ?_
  refine W.region rfl ?_
  refine WL.step (v := (Value.pointer (some ⟨ab1, 0, none⟩))) rfl (Step.move rfl) ?_
  refine WL.step (v := (Value.agg #[(Value.int .i64 1), (Value.int .i64 1)])) rfl (Step.pure (by kernel_rfl)) ?_
  refine WL.new (obj := .cells #[(Value.int .i64 1), (Value.int .i64 1)] 29) (fun b => .slice (some ⟨b, 0, none⟩) 1 1) M rfl (fun w => Step.make (by kernel_rfl)) (fun b19 w20 hb19 M => ?_)
  refine WL.callX rfl (ar_free ab1 ([⟨true, 1, (⟨false, ([] : List ByteArray), ([] : List Handle), ([] : List Int)⟩ : Nd)⟩, ⟨true, 1, (⟨true, ([] : List ByteArray), ([] : List Handle), ([] : List Int)⟩ : Nd)⟩, ⟨true, 1, (⟨false, ([] : List ByteArray), ([] : List Handle), ([] : List Int)⟩ : Nd)⟩] : List RPlace) S8 (Value.slice (some ⟨b19, 0, none⟩) 1 1) ([(⟨1, 1⟩ : Handle)] : List Handle) (by first | assumption | exact smallA_of rfl) (M.enterW (C := [arenaC 71 73 S8 ab1 ([⟨true, 1, (⟨false, ([] : List ByteArray), ([] : List Handle), ([] : List Int)⟩ : Nd)⟩, ⟨true, 1, (⟨true, ([] : List ByteArray), ([] : List Handle), ([] : List Int)⟩ : Nd)⟩, ⟨true, 1, (⟨false, ([] : List ByteArray), ([] : List Handle), ([] : List Int)⟩ : Nd)⟩] : List RPlace)]) (D := [blk b19 (.cells #[(Value.int .i64 1), (Value.int .i64 1)] 29), blk b14 (.cells #[(Value.int .i64 2), (Value.int .i64 1)] 29), blk b12 (.cells #[(Value.int .i64 1), (Value.int .i64 1)] 29), blk b10 (.cells #[(Value.int .i64 0), (Value.int .i64 1)] 29)]) [4, 0, 1, 2, 3] rfl (by decide) ⟨((M.wideC (C := [arenaC 71 73 S8 ab1 ([⟨true, 1, (⟨false, ([] : List ByteArray), ([] : List Handle), ([] : List Int)⟩ : Nd)⟩, ⟨true, 1, (⟨true, ([] : List ByteArray), ([] : List Handle), ([] : List Int)⟩ : Nd)⟩, ⟨true, 1, (⟨false, ([] : List ByteArray), ([] : List Handle), ([] : List Int)⟩ : Nd)⟩] : List RPlace)]) (D := [blk b19 (.cells #[(Value.int .i64 1), (Value.int .i64 1)] 29), blk b14 (.cells #[(Value.int .i64 2), (Value.int .i64 1)] 29), blk b12 (.cells #[(Value.int .i64 1), (Value.int .i64 1)] 29), blk b10 (.cells #[(Value.int .i64 0), (Value.int .i64 1)] 29)]) [4, 0, 1, 2, 3] rfl (by decide) 0 rfl).imp fun _ h => SlAt.of_blk (n := 1) (size := 2) h rfl (by decide)), trivial⟩)) (CallsF.func Try.en12 rfl) ?_
  rintro _ w22 ⟨S21, rfl, m⟩
  replace M := M.leaveW (C := [arenaC 71 73 S8 ab1 ([⟨true, 1, (⟨false, ([] : List ByteArray), ([] : List Handle), ([] : List Int)⟩ : Nd)⟩, ⟨true, 1, (⟨true, ([] : List ByteArray), ([] : List Handle), ([] : List Int)⟩ : Nd)⟩, ⟨true, 1, (⟨false, ([] : List ByteArray), ([] : List Handle), ([] : List Int)⟩ : Nd)⟩] : List RPlace)]) (D := [blk b19 (.cells #[(Value.int .i64 1), (Value.int .i64 1)] 29), blk b14 (.cells #[(Value.int .i64 2), (Value.int .i64 1)] 29), blk b12 (.cells #[(Value.int .i64 1), (Value.int .i64 1)] 29), blk b10 (.cells #[(Value.int .i64 0), (Value.int .i64 1)] 29)]) [4, 0, 1, 2, 3] rfl (by decide) m
  clear m
  replace M : Mem _ _ _ [arenaC 71 73 S21 ab1 ((rfree ([⟨true, 1, (⟨false, ([] : List ByteArray), ([] : List Handle), ([] : List Int)⟩ : Nd)⟩, ⟨true, 1, (⟨true, ([] : List ByteArray), ([] : List Handle), ([] : List Int)⟩ : Nd)⟩, ⟨true, 1, (⟨false, ([] : List ByteArray), ([] : List Handle), ([] : List Int)⟩ : Nd)⟩] : List RPlace) ([(⟨1, 1⟩ : Handle)] : List Handle)).1), blk b19 (.cells #[(Value.int .i64 1), (Value.int .i64 1)] 29), blk b14 (.cells #[(Value.int .i64 2), (Value.int .i64 1)] 29), blk b12 (.cells #[(Value.int .i64 1), (Value.int .i64 1)] 29), blk b10 (.cells #[(Value.int .i64 0), (Value.int .i64 1)] 29)] [] _ := M
  replace M := M.rechunk 0 (c' := arenaC 71 73 S21 ab1 ([⟨true, 1, (⟨false, ([] : List ByteArray), ([] : List Handle), ([] : List Int)⟩ : Nd)⟩, ⟨false, 1, ndZero⟩, ⟨true, 1, (⟨false, ([] : List ByteArray), ([] : List Handle), ([] : List Int)⟩ : Nd)⟩] : List RPlace)) rfl rfl
  replace M : Mem _ _ _ [arenaC 71 73 S21 ab1 ([⟨true, 1, (⟨false, ([] : List ByteArray), ([] : List Handle), ([] : List Int)⟩ : Nd)⟩, ⟨false, 1, ndZero⟩, ⟨true, 1, (⟨false, ([] : List ByteArray), ([] : List Handle), ([] : List Int)⟩ : Nd)⟩] : List RPlace), blk b19 (.cells #[(Value.int .i64 1), (Value.int .i64 1)] 29), blk b14 (.cells #[(Value.int .i64 2), (Value.int .i64 1)] 29), blk b12 (.cells #[(Value.int .i64 1), (Value.int .i64 1)] 29), blk b10 (.cells #[(Value.int .i64 0), (Value.int .i64 1)] 29)] [] _ := M
  change WL _ _ _ _ _ (Env.put _ _ (Value.int .i64 0)) _
  refine WL.step (v := (Value.pointer (some ⟨ab1, 0, none⟩))) rfl (Step.move rfl) ?_
  refine WL.step (v := (Value.agg #[(Value.int .i64 0), (Value.int .i64 1)])) rfl (Step.pure (by kernel_rfl)) ?_
  refine WL.new (obj := .cells #[(Value.int .i64 0), (Value.int .i64 1)] 29) (fun b => .slice (some ⟨b, 0, none⟩) 1 1) M rfl (fun w => Step.make (by kernel_rfl)) (fun b23 w24 hb23 M => ?_)
  refine WL.callX rfl (ar_free ab1 ([⟨true, 1, (⟨false, ([] : List ByteArray), ([] : List Handle), ([] : List Int)⟩ : Nd)⟩, ⟨false, 1, ndZero⟩, ⟨true, 1, (⟨false, ([] : List ByteArray), ([] : List Handle), ([] : List Int)⟩ : Nd)⟩] : List RPlace) S21 (Value.slice (some ⟨b23, 0, none⟩) 1 1) ([(⟨0, 1⟩ : Handle)] : List Handle) (by first | assumption | exact smallA_of rfl) (M.enterW (C := [arenaC 71 73 S21 ab1 ([⟨true, 1, (⟨false, ([] : List ByteArray), ([] : List Handle), ([] : List Int)⟩ : Nd)⟩, ⟨false, 1, ndZero⟩, ⟨true, 1, (⟨false, ([] : List ByteArray), ([] : List Handle), ([] : List Int)⟩ : Nd)⟩] : List RPlace)]) (D := [blk b23 (.cells #[(Value.int .i64 0), (Value.int .i64 1)] 29), blk b19 (.cells #[(Value.int .i64 1), (Value.int .i64 1)] 29), blk b14 (.cells #[(Value.int .i64 2), (Value.int .i64 1)] 29), blk b12 (.cells #[(Value.int .i64 1), (Value.int .i64 1)] 29), blk b10 (.cells #[(Value.int .i64 0), (Value.int .i64 1)] 29)]) [1, 0, 2, 3, 4, 5] rfl (by decide) ⟨((M.wideC (C := [arenaC 71 73 S21 ab1 ([⟨true, 1, (⟨false, ([] : List ByteArray), ([] : List Handle), ([] : List Int)⟩ : Nd)⟩, ⟨false, 1, ndZero⟩, ⟨true, 1, (⟨false, ([] : List ByteArray), ([] : List Handle), ([] : List Int)⟩ : Nd)⟩] : List RPlace)]) (D := [blk b23 (.cells #[(Value.int .i64 0), (Value.int .i64 1)] 29), blk b19 (.cells #[(Value.int .i64 1), (Value.int .i64 1)] 29), blk b14 (.cells #[(Value.int .i64 2), (Value.int .i64 1)] 29), blk b12 (.cells #[(Value.int .i64 1), (Value.int .i64 1)] 29), blk b10 (.cells #[(Value.int .i64 0), (Value.int .i64 1)] 29)]) [1, 0, 2, 3, 4, 5] rfl (by decide) 0 rfl).imp fun _ h => SlAt.of_blk (n := 1) (size := 2) h rfl (by decide)), trivial⟩)) (CallsF.func Try.en12 rfl) ?_
  rintro _ w26 ⟨S25, rfl, m⟩
  replace M := M.leaveW (C := [arenaC 71 73 S21 ab1 ([⟨true, 1, (⟨false, ([] : List ByteArray), ([] : List Handle), ([] : List Int)⟩ : Nd)⟩, ⟨false, 1, ndZero⟩, ⟨true, 1, (⟨false, ([] : List ByteArray), ([] : List Handle), ([] : List Int)⟩ : Nd)⟩] : List RPlace)]) (D := [blk b23 (.cells #[(Value.int .i64 0), (Value.int .i64 1)] 29), blk b19 (.cells #[(Value.int .i64 1), (Value.int .i64 1)] 29), blk b14 (.cells #[(Value.int .i64 2), (Value.int .i64 1)] 29), blk b12 (.cells #[(Value.int .i64 1), (Value.int .i64 1)] 29), blk b10 (.cells #[(Value.int .i64 0), (Value.int .i64 1)] 29)]) [1, 0, 2, 3, 4, 5] rfl (by decide) m
  clear m
  replace M : Mem _ _ _ [arenaC 71 73 S25 ab1 ((rfree ([⟨true, 1, (⟨false, ([] : List ByteArray), ([] : List Handle), ([] : List Int)⟩ : Nd)⟩, ⟨false, 1, ndZero⟩, ⟨true, 1, (⟨false, ([] : List ByteArray), ([] : List Handle), ([] : List Int)⟩ : Nd)⟩] : List RPlace) ([(⟨0, 1⟩ : Handle)] : List Handle)).1), blk b23 (.cells #[(Value.int .i64 0), (Value.int .i64 1)] 29), blk b19 (.cells #[(Value.int .i64 1), (Value.int .i64 1)] 29), blk b14 (.cells #[(Value.int .i64 2), (Value.int .i64 1)] 29), blk b12 (.cells #[(Value.int .i64 1), (Value.int .i64 1)] 29), blk b10 (.cells #[(Value.int .i64 0), (Value.int .i64 1)] 29)] [] _ := M
  replace M := M.rechunk 0 (c' := arenaC 71 73 S25 ab1 ([⟨false, 1, ndZero⟩, ⟨false, 1, ndZero⟩, ⟨true, 1, (⟨false, ([] : List ByteArray), ([] : List Handle), ([] : List Int)⟩ : Nd)⟩] : List RPlace)) rfl rfl
  replace M : Mem _ _ _ [arenaC 71 73 S25 ab1 ([⟨false, 1, ndZero⟩, ⟨false, 1, ndZero⟩, ⟨true, 1, (⟨false, ([] : List ByteArray), ([] : List Handle), ([] : List Int)⟩ : Nd)⟩] : List RPlace), blk b23 (.cells #[(Value.int .i64 0), (Value.int .i64 1)] 29), blk b19 (.cells #[(Value.int .i64 1), (Value.int .i64 1)] 29), blk b14 (.cells #[(Value.int .i64 2), (Value.int .i64 1)] 29), blk b12 (.cells #[(Value.int .i64 1), (Value.int .i64 1)] 29), blk b10 (.cells #[(Value.int .i64 0), (Value.int .i64 1)] 29)] [] _ := M
  change WL _ _ _ _ _ (Env.put _ _ (Value.int .i64 0)) _
  refine WL.step (v := (Value.int .i64 0)) rfl (Step.assign rfl) ?_
  refine WL.step (v := (Value.int .i64 0)) rfl (Step.assign rfl) ?_
  refine WL.nil ?_
  refine W.seq' ?_
  refine W.region rfl ?_
  refine WL.step (v := (Value.pointer (some ⟨ab1, 0, none⟩))) rfl (Step.move rfl) ?_
  refine WL.step (v := (Value.agg #[(Value.bool false), (Value.slice none 0 0), (Value.slice none 0 0), (Value.slice none 0 0)])) rfl (Step.pure (by kernel_rfl)) ?_
  refine WL.callX rfl (ar_make ab1 ([⟨false, 1, ndZero⟩, ⟨false, 1, ndZero⟩, ⟨true, 1, (⟨false, ([] : List ByteArray), ([] : List Handle), ([] : List Int)⟩ : Nd)⟩] : List RPlace) S25 (Value.slice none 0 0) (Value.slice none 0 0) (Value.slice none 0 0) (⟨false, ([] : List ByteArray), ([] : List Handle), ([] : List Int)⟩ : Nd) (by first | assumption | exact smallA_of rfl) (by first | omega | (simp only [List.length_nil, List.length_cons]; omega) | decide) (by first | omega | (simp only [List.length_nil, List.length_cons]; omega) | decide) (by first | omega | (simp only [List.length_nil, List.length_cons]; omega) | decide) (M.enterW (C := [arenaC 71 73 S25 ab1 ([⟨false, 1, ndZero⟩, ⟨false, 1, ndZero⟩, ⟨true, 1, (⟨false, ([] : List ByteArray), ([] : List Handle), ([] : List Int)⟩ : Nd)⟩] : List RPlace)]) (D := [blk b23 (.cells #[(Value.int .i64 0), (Value.int .i64 1)] 29), blk b19 (.cells #[(Value.int .i64 1), (Value.int .i64 1)] 29), blk b14 (.cells #[(Value.int .i64 2), (Value.int .i64 1)] 29), blk b12 (.cells #[(Value.int .i64 1), (Value.int .i64 1)] 29), blk b10 (.cells #[(Value.int .i64 0), (Value.int .i64 1)] 29)]) [0, 1, 2, 3, 4, 5] rfl (by decide) ⟨(Sh.pure fun w => SlAt.nil 1 w), (Sh.pure fun w => SlAt.nil 2 w), (Sh.pure fun w => SlAt.nil 1 w), trivial⟩)) (CallsF.func Try.en13 rfl) ?_
  rintro _ w28 ⟨S27, rfl, m⟩
  replace M := M.leaveW (C := [arenaC 71 73 S25 ab1 ([⟨false, 1, ndZero⟩, ⟨false, 1, ndZero⟩, ⟨true, 1, (⟨false, ([] : List ByteArray), ([] : List Handle), ([] : List Int)⟩ : Nd)⟩] : List RPlace)]) (D := [blk b23 (.cells #[(Value.int .i64 0), (Value.int .i64 1)] 29), blk b19 (.cells #[(Value.int .i64 1), (Value.int .i64 1)] 29), blk b14 (.cells #[(Value.int .i64 2), (Value.int .i64 1)] 29), blk b12 (.cells #[(Value.int .i64 1), (Value.int .i64 1)] 29), blk b10 (.cells #[(Value.int .i64 0), (Value.int .i64 1)] 29)]) [0, 1, 2, 3, 4, 5] rfl (by decide) m
  clear m
  replace M : Mem _ _ _ [arenaC 71 73 S27 ab1 ((rmake ([⟨false, 1, ndZero⟩, ⟨false, 1, ndZero⟩, ⟨true, 1, (⟨false, ([] : List ByteArray), ([] : List Handle), ([] : List Int)⟩ : Nd)⟩] : List RPlace) (⟨false, ([] : List ByteArray), ([] : List Handle), ([] : List Int)⟩ : Nd)).1), blk b23 (.cells #[(Value.int .i64 0), (Value.int .i64 1)] 29), blk b19 (.cells #[(Value.int .i64 1), (Value.int .i64 1)] 29), blk b14 (.cells #[(Value.int .i64 2), (Value.int .i64 1)] 29), blk b12 (.cells #[(Value.int .i64 1), (Value.int .i64 1)] 29), blk b10 (.cells #[(Value.int .i64 0), (Value.int .i64 1)] 29)] [] _ := M
  replace M := M.rechunk 0 (c' := arenaC 71 73 S27 ab1 ([⟨true, 2, (⟨false, ([] : List ByteArray), ([] : List Handle), ([] : List Int)⟩ : Nd)⟩, ⟨false, 1, ndZero⟩, ⟨true, 1, (⟨false, ([] : List ByteArray), ([] : List Handle), ([] : List Int)⟩ : Nd)⟩] : List RPlace)) rfl rfl
  replace M : Mem _ _ _ [arenaC 71 73 S27 ab1 ([⟨true, 2, (⟨false, ([] : List ByteArray), ([] : List Handle), ([] : List Int)⟩ : Nd)⟩, ⟨false, 1, ndZero⟩, ⟨true, 1, (⟨false, ([] : List ByteArray), ([] : List Handle), ([] : List Int)⟩ : Nd)⟩] : List RPlace), blk b23 (.cells #[(Value.int .i64 0), (Value.int .i64 1)] 29), blk b19 (.cells #[(Value.int .i64 1), (Value.int .i64 1)] 29), blk b14 (.cells #[(Value.int .i64 2), (Value.int .i64 1)] 29), blk b12 (.cells #[(Value.int .i64 1), (Value.int .i64 1)] 29), blk b10 (.cells #[(Value.int .i64 0), (Value.int .i64 1)] 29)] [] _ := M
  change WL _ _ _ _ _ (Env.put _ _ (Value.agg #[(Value.int .i64 0), (Value.int .i64 2)])) _
  refine WL.alloc (c := #[(Value.int .i64 0), (Value.int .i64 0)]) M rfl Try.el29.zero rfl (fun b29 w30 hb29 M => ?_)
  refine WL.store (v := (Value.agg #[(Value.int .i64 0), (Value.int .i64 2)])) (cs := [(Value.int .i64 0), (Value.int .i64 2)]) (c' := #[(Value.int .i64 0), (Value.int .i64 2)]) M 0 rfl rfl Try.el29.sized rfl rfl rfl rfl (Nat.le_of_ble_eq_true rfl) (cel_cons rfl (cel_cons rfl cel_nil)) rfl rfl (fun w31 M => ?_)
  refine WL.nil ?_
  refine W.seq' ?_
  refine W.region rfl ?_
  refine WL.step (v := (Value.pointer (some ⟨ab1, 0, none⟩))) rfl (Step.move rfl) ?_
  refine WL.step (v := (Value.agg #[(Value.int .i64 0), (Value.int .i64 1)])) rfl (Step.loadN Try.ag29 rfl (M.blk 6 rfl) (Nat.le_of_ble_eq_true rfl) rfl) ?_
  refine WL.callX rfl (ar_get ab1 ([⟨true, 2, (⟨false, ([] : List ByteArray), ([] : List Handle), ([] : List Int)⟩ : Nd)⟩, ⟨false, 1, ndZero⟩, ⟨true, 1, (⟨false, ([] : List ByteArray), ([] : List Handle), ([] : List Int)⟩ : Nd)⟩] : List RPlace) S27 (⟨0, 1⟩ : Handle) (by first | assumption | exact smallA_of rfl) (M.enterW (C := [arenaC 71 73 S27 ab1 ([⟨true, 2, (⟨false, ([] : List ByteArray), ([] : List Handle), ([] : List Int)⟩ : Nd)⟩, ⟨false, 1, ndZero⟩, ⟨true, 1, (⟨false, ([] : List ByteArray), ([] : List Handle), ([] : List Int)⟩ : Nd)⟩] : List RPlace)]) (D := [blk b29 (.cells #[(Value.int .i64 0), (Value.int .i64 2)] 29), blk b23 (.cells #[(Value.int .i64 0), (Value.int .i64 1)] 29), blk b19 (.cells #[(Value.int .i64 1), (Value.int .i64 1)] 29), blk b14 (.cells #[(Value.int .i64 2), (Value.int .i64 1)] 29), blk b12 (.cells #[(Value.int .i64 1), (Value.int .i64 1)] 29), blk b10 (.cells #[(Value.int .i64 0), (Value.int .i64 1)] 29)]) [1, 0, 2, 3, 4, 5, 6] rfl (by decide) trivial)) (CallsF.func Try.en14 rfl) ?_
  rintro _ w35 ⟨kv32, dv33, vv34, rfl, m⟩
  replace M := M.leaveW (C := [arenaC 71 73 S27 ab1 ([⟨true, 2, (⟨false, ([] : List ByteArray), ([] : List Handle), ([] : List Int)⟩ : Nd)⟩, ⟨false, 1, ndZero⟩, ⟨true, 1, (⟨false, ([] : List ByteArray), ([] : List Handle), ([] : List Int)⟩ : Nd)⟩] : List RPlace)]) (D := [blk b29 (.cells #[(Value.int .i64 0), (Value.int .i64 2)] 29), blk b23 (.cells #[(Value.int .i64 0), (Value.int .i64 1)] 29), blk b19 (.cells #[(Value.int .i64 1), (Value.int .i64 1)] 29), blk b14 (.cells #[(Value.int .i64 2), (Value.int .i64 1)] 29), blk b12 (.cells #[(Value.int .i64 1), (Value.int .i64 1)] 29), blk b10 (.cells #[(Value.int .i64 0), (Value.int .i64 1)] 29)]) [1, 0, 2, 3, 4, 5, 6] rfl (by decide) m
  clear m
  replace M : Mem _ _ _ [arenaC 71 73 S27 ab1 ([⟨true, 2, (⟨false, ([] : List ByteArray), ([] : List Handle), ([] : List Int)⟩ : Nd)⟩, ⟨false, 1, ndZero⟩, ⟨true, 1, (⟨false, ([] : List ByteArray), ([] : List Handle), ([] : List Int)⟩ : Nd)⟩] : List RPlace), own 9 1 kv32 ((((rget ([⟨true, 2, (⟨false, ([] : List ByteArray), ([] : List Handle), ([] : List Int)⟩ : Nd)⟩, ⟨false, 1, ndZero⟩, ⟨true, 1, (⟨false, ([] : List ByteArray), ([] : List Handle), ([] : List Int)⟩ : Nd)⟩] : List RPlace) (⟨0, 1⟩ : Handle)).1).keys).length) ((((rget ([⟨true, 2, (⟨false, ([] : List ByteArray), ([] : List Handle), ([] : List Int)⟩ : Nd)⟩, ⟨false, 1, ndZero⟩, ⟨true, 1, (⟨false, ([] : List ByteArray), ([] : List Handle), ([] : List Int)⟩ : Nd)⟩] : List RPlace) (⟨0, 1⟩ : Handle)).1).keys).flatMap strE), own 29 2 dv33 ((((rget ([⟨true, 2, (⟨false, ([] : List ByteArray), ([] : List Handle), ([] : List Int)⟩ : Nd)⟩, ⟨false, 1, ndZero⟩, ⟨true, 1, (⟨false, ([] : List ByteArray), ([] : List Handle), ([] : List Int)⟩ : Nd)⟩] : List RPlace) (⟨0, 1⟩ : Handle)).1).kids).length) ((((rget ([⟨true, 2, (⟨false, ([] : List ByteArray), ([] : List Handle), ([] : List Int)⟩ : Nd)⟩, ⟨false, 1, ndZero⟩, ⟨true, 1, (⟨false, ([] : List ByteArray), ([] : List Handle), ([] : List Int)⟩ : Nd)⟩] : List RPlace) (⟨0, 1⟩ : Handle)).1).kids).flatMap handleE), own 3 1 vv34 ((((rget ([⟨true, 2, (⟨false, ([] : List ByteArray), ([] : List Handle), ([] : List Int)⟩ : Nd)⟩, ⟨false, 1, ndZero⟩, ⟨true, 1, (⟨false, ([] : List ByteArray), ([] : List Handle), ([] : List Int)⟩ : Nd)⟩] : List RPlace) (⟨0, 1⟩ : Handle)).1).vals).length) ((((rget ([⟨true, 2, (⟨false, ([] : List ByteArray), ([] : List Handle), ([] : List Int)⟩ : Nd)⟩, ⟨false, 1, ndZero⟩, ⟨true, 1, (⟨false, ([] : List ByteArray), ([] : List Handle), ([] : List Int)⟩ : Nd)⟩] : List RPlace) (⟨0, 1⟩ : Handle)).1).vals).flatMap intE), blk b29 (.cells #[(Value.int .i64 0), (Value.int .i64 2)] 29), blk b23 (.cells #[(Value.int .i64 0), (Value.int .i64 1)] 29), blk b19 (.cells #[(Value.int .i64 1), (Value.int .i64 1)] 29), blk b14 (.cells #[(Value.int .i64 2), (Value.int .i64 1)] 29), blk b12 (.cells #[(Value.int .i64 1), (Value.int .i64 1)] 29), blk b10 (.cells #[(Value.int .i64 0), (Value.int .i64 1)] 29)] [] _ := M
  have sl36 : IsSl kv32 := SlAt.isSl (own_slAt (Mem.chunk M 1 rfl).inv)
  have hle37 := SlAt.le' (own_slAt (Mem.chunk M 1 rfl).inv)
  have sl38 : IsSl dv33 := SlAt.isSl (own_slAt (Mem.chunk M 2 rfl).inv)
  have hle39 := SlAt.le' (own_slAt (Mem.chunk M 2 rfl).inv)
  have sl40 : IsSl vv34 := SlAt.isSl (own_slAt (Mem.chunk M 3 rfl).inv)
  have hle41 := SlAt.le' (own_slAt (Mem.chunk M 3 rfl).inv)
  change WL _ _ _ _ _ (Env.put _ _ (Value.tuple #[(Value.agg #[(Value.bool (((rget ([⟨true, 2, (⟨false, ([] : List ByteArray), ([] : List Handle), ([] : List Int)⟩ : Nd)⟩, ⟨false, 1, ndZero⟩, ⟨true, 1, (⟨false, ([] : List ByteArray), ([] : List Handle), ([] : List Int)⟩ : Nd)⟩] : List RPlace) (⟨0, 1⟩ : Handle)).1).leaf)), kv32, dv33, vv34]), (Value.int .i64 110)])) _
  refine WL.step (v := (Value.tuple #[(Value.agg #[(Value.bool (((rget ([⟨true, 2, (⟨false, ([] : List ByteArray), ([] : List Handle), ([] : List Int)⟩ : Nd)⟩, ⟨false, 1, ndZero⟩, ⟨true, 1, (⟨false, ([] : List ByteArray), ([] : List Handle), ([] : List Int)⟩ : Nd)⟩] : List RPlace) (⟨0, 1⟩ : Handle)).1).leaf)), kv32, dv33, vv34]), (Value.int .i64 110)])) rfl (Step.move rfl) ?_
  refine WL.step (v := (Value.agg #[(Value.bool (((rget ([⟨true, 2, (⟨false, ([] : List ByteArray), ([] : List Handle), ([] : List Int)⟩ : Nd)⟩, ⟨false, 1, ndZero⟩, ⟨true, 1, (⟨false, ([] : List ByteArray), ([] : List Handle), ([] : List Int)⟩ : Nd)⟩] : List RPlace) (⟨0, 1⟩ : Handle)).1).leaf)), kv32, dv33, vv34])) rfl (Step.pure (by kernel_rfl)) ?_
  refine WL.step (v := (Value.int .i64 110)) rfl (Step.pure (by kernel_rfl)) ?_
  refine WL.alloc (c := #[(Value.bool false), (Value.slice none 0 0), (Value.slice none 0 0), (Value.slice none 0 0)]) M rfl Try.el36.zero rfl (fun b42 w43 hb42 M => ?_)
  refine WL.store (v := (Value.agg #[(Value.bool (((rget ([⟨true, 2, (⟨false, ([] : List ByteArray), ([] : List Handle), ([] : List Int)⟩ : Nd)⟩, ⟨false, 1, ndZero⟩, ⟨true, 1, (⟨false, ([] : List ByteArray), ([] : List Handle), ([] : List Int)⟩ : Nd)⟩] : List RPlace) (⟨0, 1⟩ : Handle)).1).leaf)), kv32, dv33, vv34])) (cs := [(Value.bool (((rget ([⟨true, 2, (⟨false, ([] : List ByteArray), ([] : List Handle), ([] : List Int)⟩ : Nd)⟩, ⟨false, 1, ndZero⟩, ⟨true, 1, (⟨false, ([] : List ByteArray), ([] : List Handle), ([] : List Int)⟩ : Nd)⟩] : List RPlace) (⟨0, 1⟩ : Handle)).1).leaf)), kv32, dv33, vv34]) (c' := #[(Value.bool (((rget ([⟨true, 2, (⟨false, ([] : List ByteArray), ([] : List Handle), ([] : List Int)⟩ : Nd)⟩, ⟨false, 1, ndZero⟩, ⟨true, 1, (⟨false, ([] : List ByteArray), ([] : List Handle), ([] : List Int)⟩ : Nd)⟩] : List RPlace) (⟨0, 1⟩ : Handle)).1).leaf)), kv32, dv33, vv34]) M 0 rfl rfl Try.el36.sized rfl rfl rfl rfl (Nat.le_of_ble_eq_true rfl) (cel_cons rfl (cel_cons (IsSl.cel sl36) (cel_cons (IsSl.cel sl38) (cel_cons (IsSl.cel sl40) cel_nil)))) rfl rfl (fun w44 M => ?_)
  refine WL.step (v := (Value.int .i64 110)) rfl (Step.assign rfl) ?_
  refine WL.nil ?_
  refine W.seq' ?_
  refine W.region rfl ?_
  refine WL.step (v := (Value.pointer (some ⟨ab1, 0, none⟩))) rfl (Step.move rfl) ?_
  refine WL.callX rfl (ar_len ab1 ([⟨true, 2, (⟨false, ([] : List ByteArray), ([] : List Handle), ([] : List Int)⟩ : Nd)⟩, ⟨false, 1, ndZero⟩, ⟨true, 1, (⟨false, ([] : List ByteArray), ([] : List Handle), ([] : List Int)⟩ : Nd)⟩] : List RPlace) S27 (M.enterW (C := [arenaC 71 73 S27 ab1 ([⟨true, 2, (⟨false, ([] : List ByteArray), ([] : List Handle), ([] : List Int)⟩ : Nd)⟩, ⟨false, 1, ndZero⟩, ⟨true, 1, (⟨false, ([] : List ByteArray), ([] : List Handle), ([] : List Int)⟩ : Nd)⟩] : List RPlace)]) (D := [blk b42 (.cells #[(Value.bool (((rget ([⟨true, 2, (⟨false, ([] : List ByteArray), ([] : List Handle), ([] : List Int)⟩ : Nd)⟩, ⟨false, 1, ndZero⟩, ⟨true, 1, (⟨false, ([] : List ByteArray), ([] : List Handle), ([] : List Int)⟩ : Nd)⟩] : List RPlace) (⟨0, 1⟩ : Handle)).1).leaf)), kv32, dv33, vv34] 36), own 9 1 kv32 ((((rget ([⟨true, 2, (⟨false, ([] : List ByteArray), ([] : List Handle), ([] : List Int)⟩ : Nd)⟩, ⟨false, 1, ndZero⟩, ⟨true, 1, (⟨false, ([] : List ByteArray), ([] : List Handle), ([] : List Int)⟩ : Nd)⟩] : List RPlace) (⟨0, 1⟩ : Handle)).1).keys).length) ((((rget ([⟨true, 2, (⟨false, ([] : List ByteArray), ([] : List Handle), ([] : List Int)⟩ : Nd)⟩, ⟨false, 1, ndZero⟩, ⟨true, 1, (⟨false, ([] : List ByteArray), ([] : List Handle), ([] : List Int)⟩ : Nd)⟩] : List RPlace) (⟨0, 1⟩ : Handle)).1).keys).flatMap strE), own 29 2 dv33 ((((rget ([⟨true, 2, (⟨false, ([] : List ByteArray), ([] : List Handle), ([] : List Int)⟩ : Nd)⟩, ⟨false, 1, ndZero⟩, ⟨true, 1, (⟨false, ([] : List ByteArray), ([] : List Handle), ([] : List Int)⟩ : Nd)⟩] : List RPlace) (⟨0, 1⟩ : Handle)).1).kids).length) ((((rget ([⟨true, 2, (⟨false, ([] : List ByteArray), ([] : List Handle), ([] : List Int)⟩ : Nd)⟩, ⟨false, 1, ndZero⟩, ⟨true, 1, (⟨false, ([] : List ByteArray), ([] : List Handle), ([] : List Int)⟩ : Nd)⟩] : List RPlace) (⟨0, 1⟩ : Handle)).1).kids).flatMap handleE), own 3 1 vv34 ((((rget ([⟨true, 2, (⟨false, ([] : List ByteArray), ([] : List Handle), ([] : List Int)⟩ : Nd)⟩, ⟨false, 1, ndZero⟩, ⟨true, 1, (⟨false, ([] : List ByteArray), ([] : List Handle), ([] : List Int)⟩ : Nd)⟩] : List RPlace) (⟨0, 1⟩ : Handle)).1).vals).length) ((((rget ([⟨true, 2, (⟨false, ([] : List ByteArray), ([] : List Handle), ([] : List Int)⟩ : Nd)⟩, ⟨false, 1, ndZero⟩, ⟨true, 1, (⟨false, ([] : List ByteArray), ([] : List Handle), ([] : List Int)⟩ : Nd)⟩] : List RPlace) (⟨0, 1⟩ : Handle)).1).vals).flatMap intE), blk b29 (.cells #[(Value.int .i64 0), (Value.int .i64 2)] 29), blk b23 (.cells #[(Value.int .i64 0), (Value.int .i64 1)] 29), blk b19 (.cells #[(Value.int .i64 1), (Value.int .i64 1)] 29), blk b14 (.cells #[(Value.int .i64 2), (Value.int .i64 1)] 29), blk b12 (.cells #[(Value.int .i64 1), (Value.int .i64 1)] 29), blk b10 (.cells #[(Value.int .i64 0), (Value.int .i64 1)] 29)]) [1, 0, 2, 3, 4, 5, 6, 7, 8, 9, 10] rfl (by decide) trivial)) (CallsF.func Try.en15 rfl) ?_
  rintro _ w45 ⟨rfl, m⟩
  replace M := M.leaveW (C := [arenaC 71 73 S27 ab1 ([⟨true, 2, (⟨false, ([] : List ByteArray), ([] : List Handle), ([] : List Int)⟩ : Nd)⟩, ⟨false, 1, ndZero⟩, ⟨true, 1, (⟨false, ([] : List ByteArray), ([] : List Handle), ([] : List Int)⟩ : Nd)⟩] : List RPlace)]) (D := [blk b42 (.cells #[(Value.bool (((rget ([⟨true, 2, (⟨false, ([] : List ByteArray), ([] : List Handle), ([] : List Int)⟩ : Nd)⟩, ⟨false, 1, ndZero⟩, ⟨true, 1, (⟨false, ([] : List ByteArray), ([] : List Handle), ([] : List Int)⟩ : Nd)⟩] : List RPlace) (⟨0, 1⟩ : Handle)).1).leaf)), kv32, dv33, vv34] 36), own 9 1 kv32 ((((rget ([⟨true, 2, (⟨false, ([] : List ByteArray), ([] : List Handle), ([] : List Int)⟩ : Nd)⟩, ⟨false, 1, ndZero⟩, ⟨true, 1, (⟨false, ([] : List ByteArray), ([] : List Handle), ([] : List Int)⟩ : Nd)⟩] : List RPlace) (⟨0, 1⟩ : Handle)).1).keys).length) ((((rget ([⟨true, 2, (⟨false, ([] : List ByteArray), ([] : List Handle), ([] : List Int)⟩ : Nd)⟩, ⟨false, 1, ndZero⟩, ⟨true, 1, (⟨false, ([] : List ByteArray), ([] : List Handle), ([] : List Int)⟩ : Nd)⟩] : List RPlace) (⟨0, 1⟩ : Handle)).1).keys).flatMap strE), own 29 2 dv33 ((((rget ([⟨true, 2, (⟨false, ([] : List ByteArray), ([] : List Handle), ([] : List Int)⟩ : Nd)⟩, ⟨false, 1, ndZero⟩, ⟨true, 1, (⟨false, ([] : List ByteArray), ([] : List Handle), ([] : List Int)⟩ : Nd)⟩] : List RPlace) (⟨0, 1⟩ : Handle)).1).kids).length) ((((rget ([⟨true, 2, (⟨false, ([] : List ByteArray), ([] : List Handle), ([] : List Int)⟩ : Nd)⟩, ⟨false, 1, ndZero⟩, ⟨true, 1, (⟨false, ([] : List ByteArray), ([] : List Handle), ([] : List Int)⟩ : Nd)⟩] : List RPlace) (⟨0, 1⟩ : Handle)).1).kids).flatMap handleE), own 3 1 vv34 ((((rget ([⟨true, 2, (⟨false, ([] : List ByteArray), ([] : List Handle), ([] : List Int)⟩ : Nd)⟩, ⟨false, 1, ndZero⟩, ⟨true, 1, (⟨false, ([] : List ByteArray), ([] : List Handle), ([] : List Int)⟩ : Nd)⟩] : List RPlace) (⟨0, 1⟩ : Handle)).1).vals).length) ((((rget ([⟨true, 2, (⟨false, ([] : List ByteArray), ([] : List Handle), ([] : List Int)⟩ : Nd)⟩, ⟨false, 1, ndZero⟩, ⟨true, 1, (⟨false, ([] : List ByteArray), ([] : List Handle), ([] : List Int)⟩ : Nd)⟩] : List RPlace) (⟨0, 1⟩ : Handle)).1).vals).flatMap intE), blk b29 (.cells #[(Value.int .i64 0), (Value.int .i64 2)] 29), blk b23 (.cells #[(Value.int .i64 0), (Value.int .i64 1)] 29), blk b19 (.cells #[(Value.int .i64 1), (Value.int .i64 1)] 29), blk b14 (.cells #[(Value.int .i64 2), (Value.int .i64 1)] 29), blk b12 (.cells #[(Value.int .i64 1), (Value.int .i64 1)] 29), blk b10 (.cells #[(Value.int .i64 0), (Value.int .i64 1)] 29)]) [1, 0, 2, 3, 4, 5, 6, 7, 8, 9, 10] rfl (by decide) m
  replace M := M.sel (L' := [blk b42 (.cells #[(Value.bool (((rget ([⟨true, 2, (⟨false, ([] : List ByteArray), ([] : List Handle), ([] : List Int)⟩ : Nd)⟩, ⟨false, 1, ndZero⟩, ⟨true, 1, (⟨false, ([] : List ByteArray), ([] : List Handle), ([] : List Int)⟩ : Nd)⟩] : List RPlace) (⟨0, 1⟩ : Handle)).1).leaf)), kv32, dv33, vv34] 36), arenaC 71 73 S27 ab1 ([⟨true, 2, (⟨false, ([] : List ByteArray), ([] : List Handle), ([] : List Int)⟩ : Nd)⟩, ⟨false, 1, ndZero⟩, ⟨true, 1, (⟨false, ([] : List ByteArray), ([] : List Handle), ([] : List Int)⟩ : Nd)⟩] : List RPlace), own 9 1 kv32 ((((rget ([⟨true, 2, (⟨false, ([] : List ByteArray), ([] : List Handle), ([] : List Int)⟩ : Nd)⟩, ⟨false, 1, ndZero⟩, ⟨true, 1, (⟨false, ([] : List ByteArray), ([] : List Handle), ([] : List Int)⟩ : Nd)⟩] : List RPlace) (⟨0, 1⟩ : Handle)).1).keys).length) ((((rget ([⟨true, 2, (⟨false, ([] : List ByteArray), ([] : List Handle), ([] : List Int)⟩ : Nd)⟩, ⟨false, 1, ndZero⟩, ⟨true, 1, (⟨false, ([] : List ByteArray), ([] : List Handle), ([] : List Int)⟩ : Nd)⟩] : List RPlace) (⟨0, 1⟩ : Handle)).1).keys).flatMap strE), own 29 2 dv33 ((((rget ([⟨true, 2, (⟨false, ([] : List ByteArray), ([] : List Handle), ([] : List Int)⟩ : Nd)⟩, ⟨false, 1, ndZero⟩, ⟨true, 1, (⟨false, ([] : List ByteArray), ([] : List Handle), ([] : List Int)⟩ : Nd)⟩] : List RPlace) (⟨0, 1⟩ : Handle)).1).kids).length) ((((rget ([⟨true, 2, (⟨false, ([] : List ByteArray), ([] : List Handle), ([] : List Int)⟩ : Nd)⟩, ⟨false, 1, ndZero⟩, ⟨true, 1, (⟨false, ([] : List ByteArray), ([] : List Handle), ([] : List Int)⟩ : Nd)⟩] : List RPlace) (⟨0, 1⟩ : Handle)).1).kids).flatMap handleE), own 3 1 vv34 ((((rget ([⟨true, 2, (⟨false, ([] : List ByteArray), ([] : List Handle), ([] : List Int)⟩ : Nd)⟩, ⟨false, 1, ndZero⟩, ⟨true, 1, (⟨false, ([] : List ByteArray), ([] : List Handle), ([] : List Int)⟩ : Nd)⟩] : List RPlace) (⟨0, 1⟩ : Handle)).1).vals).length) ((((rget ([⟨true, 2, (⟨false, ([] : List ByteArray), ([] : List Handle), ([] : List Int)⟩ : Nd)⟩, ⟨false, 1, ndZero⟩, ⟨true, 1, (⟨false, ([] : List ByteArray), ([] : List Handle), ([] : List Int)⟩ : Nd)⟩] : List RPlace) (⟨0, 1⟩ : Handle)).1).vals).flatMap intE), blk b29 (.cells #[(Value.int .i64 0), (Value.int .i64 2)] 29), blk b23 (.cells #[(Value.int .i64 0), (Value.int .i64 1)] 29), blk b19 (.cells #[(Value.int .i64 1), (Value.int .i64 1)] 29), blk b14 (.cells #[(Value.int .i64 2), (Value.int .i64 1)] 29), blk b12 (.cells #[(Value.int .i64 1), (Value.int .i64 1)] 29), blk b10 (.cells #[(Value.int .i64 0), (Value.int .i64 1)] 29)]) [1, 0, 2, 3, 4, 5, 6, 7, 8, 9, 10] rfl (by decide)
  clear m
  replace M : Mem _ _ _ [blk b42 (.cells #[(Value.bool (((rget ([⟨true, 2, (⟨false, ([] : List ByteArray), ([] : List Handle), ([] : List Int)⟩ : Nd)⟩, ⟨false, 1, ndZero⟩, ⟨true, 1, (⟨false, ([] : List ByteArray), ([] : List Handle), ([] : List Int)⟩ : Nd)⟩] : List RPlace) (⟨0, 1⟩ : Handle)).1).leaf)), kv32, dv33, vv34] 36), arenaC 71 73 S27 ab1 ([⟨true, 2, (⟨false, ([] : List ByteArray), ([] : List Handle), ([] : List Int)⟩ : Nd)⟩, ⟨false, 1, ndZero⟩, ⟨true, 1, (⟨false, ([] : List ByteArray), ([] : List Handle), ([] : List Int)⟩ : Nd)⟩] : List RPlace), own 9 1 kv32 ((((rget ([⟨true, 2, (⟨false, ([] : List ByteArray), ([] : List Handle), ([] : List Int)⟩ : Nd)⟩, ⟨false, 1, ndZero⟩, ⟨true, 1, (⟨false, ([] : List ByteArray), ([] : List Handle), ([] : List Int)⟩ : Nd)⟩] : List RPlace) (⟨0, 1⟩ : Handle)).1).keys).length) ((((rget ([⟨true, 2, (⟨false, ([] : List ByteArray), ([] : List Handle), ([] : List Int)⟩ : Nd)⟩, ⟨false, 1, ndZero⟩, ⟨true, 1, (⟨false, ([] : List ByteArray), ([] : List Handle), ([] : List Int)⟩ : Nd)⟩] : List RPlace) (⟨0, 1⟩ : Handle)).1).keys).flatMap strE), own 29 2 dv33 ((((rget ([⟨true, 2, (⟨false, ([] : List ByteArray), ([] : List Handle), ([] : List Int)⟩ : Nd)⟩, ⟨false, 1, ndZero⟩, ⟨true, 1, (⟨false, ([] : List ByteArray), ([] : List Handle), ([] : List Int)⟩ : Nd)⟩] : List RPlace) (⟨0, 1⟩ : Handle)).1).kids).length) ((((rget ([⟨true, 2, (⟨false, ([] : List ByteArray), ([] : List Handle), ([] : List Int)⟩ : Nd)⟩, ⟨false, 1, ndZero⟩, ⟨true, 1, (⟨false, ([] : List ByteArray), ([] : List Handle), ([] : List Int)⟩ : Nd)⟩] : List RPlace) (⟨0, 1⟩ : Handle)).1).kids).flatMap handleE), own 3 1 vv34 ((((rget ([⟨true, 2, (⟨false, ([] : List ByteArray), ([] : List Handle), ([] : List Int)⟩ : Nd)⟩, ⟨false, 1, ndZero⟩, ⟨true, 1, (⟨false, ([] : List ByteArray), ([] : List Handle), ([] : List Int)⟩ : Nd)⟩] : List RPlace) (⟨0, 1⟩ : Handle)).1).vals).length) ((((rget ([⟨true, 2, (⟨false, ([] : List ByteArray), ([] : List Handle), ([] : List Int)⟩ : Nd)⟩, ⟨false, 1, ndZero⟩, ⟨true, 1, (⟨false, ([] : List ByteArray), ([] : List Handle), ([] : List Int)⟩ : Nd)⟩] : List RPlace) (⟨0, 1⟩ : Handle)).1).vals).flatMap intE), blk b29 (.cells #[(Value.int .i64 0), (Value.int .i64 2)] 29), blk b23 (.cells #[(Value.int .i64 0), (Value.int .i64 1)] 29), blk b19 (.cells #[(Value.int .i64 1), (Value.int .i64 1)] 29), blk b14 (.cells #[(Value.int .i64 2), (Value.int .i64 1)] 29), blk b12 (.cells #[(Value.int .i64 1), (Value.int .i64 1)] 29), blk b10 (.cells #[(Value.int .i64 0), (Value.int .i64 1)] 29)] [] _ := M
  change WL _ _ _ _ _ (Env.put _ _ (Value.tuple #[(Value.int .i64 2), (Value.int .i64 3)])) _
  refine WL.step (v := (Value.tuple #[(Value.int .i64 2), (Value.int .i64 3)])) rfl (Step.move rfl) ?_
  refine WL.step (v := (Value.int .i64 2)) rfl (Step.pure (by kernel_rfl)) ?_
  refine WL.step (v := (Value.int .i64 3)) rfl (Step.pure (by kernel_rfl)) ?_
  refine WL.step (v := (Value.int .i64 2)) rfl (Step.assign rfl) ?_
  refine WL.step (v := (Value.int .i64 3)) rfl (Step.assign rfl) ?_
  refine WL.nil ?_
  refine W.seq' ?_
  refine W.region rfl ?_
  refine WL.step (v := (Value.agg #[(Value.int .i64 0), (Value.int .i64 1)])) rfl (Step.loadN Try.ag29 rfl (M.blk 10 rfl) (Nat.le_of_ble_eq_true rfl) rfl) ?_
  refine WL.step (v := (Value.agg #[(Value.int .i64 0), (Value.int .i64 1)])) rfl (Step.pure (by kernel_rfl)) ?_
  refine WL.step (v := (Value.bool true)) rfl (Step.cast (congrArg Value.bool (show (((0 : Int) == (0 : Int)) && (((1 : Int) == (1 : Int)) && true)) = true from rfl)) (Step.eqAgg Try.eg29 rfl rfl rfl (Try.eq29 9998 (0 : Int) (1 : Int) (0 : Int) (1 : Int)))) ?_
  refine WL.step (v := (Value.bool true)) rfl (Step.move rfl) ?_
  refine WL.step (v := (Value.agg #[(Value.int .i64 1), (Value.int .i64 1)])) rfl (Step.loadN Try.ag29 rfl (M.blk 9 rfl) (Nat.le_of_ble_eq_true rfl) rfl) ?_
  refine WL.step (v := (Value.agg #[(Value.int .i64 1), (Value.int .i64 1)])) rfl (Step.pure (by kernel_rfl)) ?_
  refine WL.step (v := (Value.bool true)) rfl (Step.cast (congrArg Value.bool (show (((1 : Int) == (1 : Int)) && (((1 : Int) == (1 : Int)) && true)) = true from rfl)) (Step.eqAgg Try.eg29 rfl rfl rfl (Try.eq29 9998 (1 : Int) (1 : Int) (1 : Int) (1 : Int)))) ?_
  refine WL.step (v := (Value.bool true)) rfl (Step.pick (t := true) rfl rfl) ?_
  refine WL.step (v := (Value.bool true)) rfl (Step.move rfl) ?_
  refine WL.step (v := (Value.agg #[(Value.int .i64 2), (Value.int .i64 1)])) rfl (Step.loadN Try.ag29 rfl (M.blk 8 rfl) (Nat.le_of_ble_eq_true rfl) rfl) ?_
  refine WL.step (v := (Value.agg #[(Value.int .i64 2), (Value.int .i64 1)])) rfl (Step.pure (by kernel_rfl)) ?_
  refine WL.step (v := (Value.bool true)) rfl (Step.cast (congrArg Value.bool (show (((2 : Int) == (2 : Int)) && (((1 : Int) == (1 : Int)) && true)) = true from rfl)) (Step.eqAgg Try.eg29 rfl rfl rfl (Try.eq29 9998 (2 : Int) (1 : Int) (2 : Int) (1 : Int)))) ?_
  refine WL.step (v := (Value.bool true)) rfl (Step.pick (t := true) rfl rfl) ?_
  refine WL.step (v := (Value.bool true)) rfl (Step.move rfl) ?_
  refine WL.step (v := (Value.int .i64 0)) rfl (Step.move rfl) ?_
  refine WL.step (v := (Value.bool true)) rfl (Step.pure (by kernel_rfl)) ?_
  refine WL.step (v := (Value.bool true)) rfl (Step.pick (t := true) rfl rfl) ?_
  refine WL.step (v := (Value.bool true)) rfl (Step.move rfl) ?_
  refine WL.step (v := (Value.int .i64 0)) rfl (Step.move rfl) ?_
  refine WL.step (v := (Value.bool true)) rfl (Step.pure (by kernel_rfl)) ?_
  refine WL.step (v := (Value.bool true)) rfl (Step.pick (t := true) rfl rfl) ?_
  refine WL.step (v := (Value.bool true)) rfl (Step.move rfl) ?_
  refine WL.step (v := (Value.agg #[(Value.int .i64 0), (Value.int .i64 2)])) rfl (Step.loadN Try.ag29 rfl (M.blk 5 rfl) (Nat.le_of_ble_eq_true rfl) rfl) ?_
  refine WL.step (v := (Value.agg #[(Value.int .i64 0), (Value.int .i64 2)])) rfl (Step.pure (by kernel_rfl)) ?_
  refine WL.step (v := (Value.bool true)) rfl (Step.cast (congrArg Value.bool (show (((0 : Int) == (0 : Int)) && (((2 : Int) == (2 : Int)) && true)) = true from rfl)) (Step.eqAgg Try.eg29 rfl rfl rfl (Try.eq29 9998 (0 : Int) (2 : Int) (0 : Int) (2 : Int)))) ?_
  refine WL.step (v := (Value.bool true)) rfl (Step.pick (t := true) rfl rfl) ?_
  refine WL.step (v := (Value.bool true)) rfl (Step.move rfl) ?_
  refine WL.step (v := (Value.int .i64 110)) rfl (Step.move rfl) ?_
  refine WL.step (v := (Value.bool true)) rfl (Step.pure (by kernel_rfl)) ?_
  refine WL.step (v := (Value.bool true)) rfl (Step.pick (t := true) rfl rfl) ?_
  refine WL.step (v := (Value.bool true)) rfl (Step.move rfl) ?_
  refine WL.step (v := (Value.pointer (some ⟨ab1, 0, none⟩))) rfl (Step.move rfl) ?_
  refine WL.step (v := (Value.agg #[(Value.int .i64 1), (Value.int .i64 1)])) rfl (Step.loadN Try.ag29 rfl (M.blk 9 rfl) (Nat.le_of_ble_eq_true rfl) rfl) ?_
  refine WL.callX rfl (ar_has_p ab1 ([⟨true, 2, (⟨false, ([] : List ByteArray), ([] : List Handle), ([] : List Int)⟩ : Nd)⟩, ⟨false, 1, ndZero⟩, ⟨true, 1, (⟨false, ([] : List ByteArray), ([] : List Handle), ([] : List Int)⟩ : Nd)⟩] : List RPlace) S27 (⟨1, 1⟩ : Handle) (M.enterW (C := [arenaC 71 73 S27 ab1 ([⟨true, 2, (⟨false, ([] : List ByteArray), ([] : List Handle), ([] : List Int)⟩ : Nd)⟩, ⟨false, 1, ndZero⟩, ⟨true, 1, (⟨false, ([] : List ByteArray), ([] : List Handle), ([] : List Int)⟩ : Nd)⟩] : List RPlace)]) (D := [blk b42 (.cells #[(Value.bool (((rget ([⟨true, 2, (⟨false, ([] : List ByteArray), ([] : List Handle), ([] : List Int)⟩ : Nd)⟩, ⟨false, 1, ndZero⟩, ⟨true, 1, (⟨false, ([] : List ByteArray), ([] : List Handle), ([] : List Int)⟩ : Nd)⟩] : List RPlace) (⟨0, 1⟩ : Handle)).1).leaf)), kv32, dv33, vv34] 36), own 9 1 kv32 ((((rget ([⟨true, 2, (⟨false, ([] : List ByteArray), ([] : List Handle), ([] : List Int)⟩ : Nd)⟩, ⟨false, 1, ndZero⟩, ⟨true, 1, (⟨false, ([] : List ByteArray), ([] : List Handle), ([] : List Int)⟩ : Nd)⟩] : List RPlace) (⟨0, 1⟩ : Handle)).1).keys).length) ((((rget ([⟨true, 2, (⟨false, ([] : List ByteArray), ([] : List Handle), ([] : List Int)⟩ : Nd)⟩, ⟨false, 1, ndZero⟩, ⟨true, 1, (⟨false, ([] : List ByteArray), ([] : List Handle), ([] : List Int)⟩ : Nd)⟩] : List RPlace) (⟨0, 1⟩ : Handle)).1).keys).flatMap strE), own 29 2 dv33 ((((rget ([⟨true, 2, (⟨false, ([] : List ByteArray), ([] : List Handle), ([] : List Int)⟩ : Nd)⟩, ⟨false, 1, ndZero⟩, ⟨true, 1, (⟨false, ([] : List ByteArray), ([] : List Handle), ([] : List Int)⟩ : Nd)⟩] : List RPlace) (⟨0, 1⟩ : Handle)).1).kids).length) ((((rget ([⟨true, 2, (⟨false, ([] : List ByteArray), ([] : List Handle), ([] : List Int)⟩ : Nd)⟩, ⟨false, 1, ndZero⟩, ⟨true, 1, (⟨false, ([] : List ByteArray), ([] : List Handle), ([] : List Int)⟩ : Nd)⟩] : List RPlace) (⟨0, 1⟩ : Handle)).1).kids).flatMap handleE), own 3 1 vv34 ((((rget ([⟨true, 2, (⟨false, ([] : List ByteArray), ([] : List Handle), ([] : List Int)⟩ : Nd)⟩, ⟨false, 1, ndZero⟩, ⟨true, 1, (⟨false, ([] : List ByteArray), ([] : List Handle), ([] : List Int)⟩ : Nd)⟩] : List RPlace) (⟨0, 1⟩ : Handle)).1).vals).length) ((((rget ([⟨true, 2, (⟨false, ([] : List ByteArray), ([] : List Handle), ([] : List Int)⟩ : Nd)⟩, ⟨false, 1, ndZero⟩, ⟨true, 1, (⟨false, ([] : List ByteArray), ([] : List Handle), ([] : List Int)⟩ : Nd)⟩] : List RPlace) (⟨0, 1⟩ : Handle)).1).vals).flatMap intE), blk b29 (.cells #[(Value.int .i64 0), (Value.int .i64 2)] 29), blk b23 (.cells #[(Value.int .i64 0), (Value.int .i64 1)] 29), blk b19 (.cells #[(Value.int .i64 1), (Value.int .i64 1)] 29), blk b14 (.cells #[(Value.int .i64 2), (Value.int .i64 1)] 29), blk b12 (.cells #[(Value.int .i64 1), (Value.int .i64 1)] 29), blk b10 (.cells #[(Value.int .i64 0), (Value.int .i64 1)] 29)]) [1, 0, 2, 3, 4, 5, 6, 7, 8, 9, 10] rfl (by decide) trivial)) (CallsF.func Try.en16 rfl) ?_
  rintro _ w46 ⟨rfl, m⟩
  replace M := M.leaveW (C := [arenaC 71 73 S27 ab1 ([⟨true, 2, (⟨false, ([] : List ByteArray), ([] : List Handle), ([] : List Int)⟩ : Nd)⟩, ⟨false, 1, ndZero⟩, ⟨true, 1, (⟨false, ([] : List ByteArray), ([] : List Handle), ([] : List Int)⟩ : Nd)⟩] : List RPlace)]) (D := [blk b42 (.cells #[(Value.bool (((rget ([⟨true, 2, (⟨false, ([] : List ByteArray), ([] : List Handle), ([] : List Int)⟩ : Nd)⟩, ⟨false, 1, ndZero⟩, ⟨true, 1, (⟨false, ([] : List ByteArray), ([] : List Handle), ([] : List Int)⟩ : Nd)⟩] : List RPlace) (⟨0, 1⟩ : Handle)).1).leaf)), kv32, dv33, vv34] 36), own 9 1 kv32 ((((rget ([⟨true, 2, (⟨false, ([] : List ByteArray), ([] : List Handle), ([] : List Int)⟩ : Nd)⟩, ⟨false, 1, ndZero⟩, ⟨true, 1, (⟨false, ([] : List ByteArray), ([] : List Handle), ([] : List Int)⟩ : Nd)⟩] : List RPlace) (⟨0, 1⟩ : Handle)).1).keys).length) ((((rget ([⟨true, 2, (⟨false, ([] : List ByteArray), ([] : List Handle), ([] : List Int)⟩ : Nd)⟩, ⟨false, 1, ndZero⟩, ⟨true, 1, (⟨false, ([] : List ByteArray), ([] : List Handle), ([] : List Int)⟩ : Nd)⟩] : List RPlace) (⟨0, 1⟩ : Handle)).1).keys).flatMap strE), own 29 2 dv33 ((((rget ([⟨true, 2, (⟨false, ([] : List ByteArray), ([] : List Handle), ([] : List Int)⟩ : Nd)⟩, ⟨false, 1, ndZero⟩, ⟨true, 1, (⟨false, ([] : List ByteArray), ([] : List Handle), ([] : List Int)⟩ : Nd)⟩] : List RPlace) (⟨0, 1⟩ : Handle)).1).kids).length) ((((rget ([⟨true, 2, (⟨false, ([] : List ByteArray), ([] : List Handle), ([] : List Int)⟩ : Nd)⟩, ⟨false, 1, ndZero⟩, ⟨true, 1, (⟨false, ([] : List ByteArray), ([] : List Handle), ([] : List Int)⟩ : Nd)⟩] : List RPlace) (⟨0, 1⟩ : Handle)).1).kids).flatMap handleE), own 3 1 vv34 ((((rget ([⟨true, 2, (⟨false, ([] : List ByteArray), ([] : List Handle), ([] : List Int)⟩ : Nd)⟩, ⟨false, 1, ndZero⟩, ⟨true, 1, (⟨false, ([] : List ByteArray), ([] : List Handle), ([] : List Int)⟩ : Nd)⟩] : List RPlace) (⟨0, 1⟩ : Handle)).1).vals).length) ((((rget ([⟨true, 2, (⟨false, ([] : List ByteArray), ([] : List Handle), ([] : List Int)⟩ : Nd)⟩, ⟨false, 1, ndZero⟩, ⟨true, 1, (⟨false, ([] : List ByteArray), ([] : List Handle), ([] : List Int)⟩ : Nd)⟩] : List RPlace) (⟨0, 1⟩ : Handle)).1).vals).flatMap intE), blk b29 (.cells #[(Value.int .i64 0), (Value.int .i64 2)] 29), blk b23 (.cells #[(Value.int .i64 0), (Value.int .i64 1)] 29), blk b19 (.cells #[(Value.int .i64 1), (Value.int .i64 1)] 29), blk b14 (.cells #[(Value.int .i64 2), (Value.int .i64 1)] 29), blk b12 (.cells #[(Value.int .i64 1), (Value.int .i64 1)] 29), blk b10 (.cells #[(Value.int .i64 0), (Value.int .i64 1)] 29)]) [1, 0, 2, 3, 4, 5, 6, 7, 8, 9, 10] rfl (by decide) m
  replace M := M.sel (L' := [blk b42 (.cells #[(Value.bool (((rget ([⟨true, 2, (⟨false, ([] : List ByteArray), ([] : List Handle), ([] : List Int)⟩ : Nd)⟩, ⟨false, 1, ndZero⟩, ⟨true, 1, (⟨false, ([] : List ByteArray), ([] : List Handle), ([] : List Int)⟩ : Nd)⟩] : List RPlace) (⟨0, 1⟩ : Handle)).1).leaf)), kv32, dv33, vv34] 36), arenaC 71 73 S27 ab1 ([⟨true, 2, (⟨false, ([] : List ByteArray), ([] : List Handle), ([] : List Int)⟩ : Nd)⟩, ⟨false, 1, ndZero⟩, ⟨true, 1, (⟨false, ([] : List ByteArray), ([] : List Handle), ([] : List Int)⟩ : Nd)⟩] : List RPlace), own 9 1 kv32 ((((rget ([⟨true, 2, (⟨false, ([] : List ByteArray), ([] : List Handle), ([] : List Int)⟩ : Nd)⟩, ⟨false, 1, ndZero⟩, ⟨true, 1, (⟨false, ([] : List ByteArray), ([] : List Handle), ([] : List Int)⟩ : Nd)⟩] : List RPlace) (⟨0, 1⟩ : Handle)).1).keys).length) ((((rget ([⟨true, 2, (⟨false, ([] : List ByteArray), ([] : List Handle), ([] : List Int)⟩ : Nd)⟩, ⟨false, 1, ndZero⟩, ⟨true, 1, (⟨false, ([] : List ByteArray), ([] : List Handle), ([] : List Int)⟩ : Nd)⟩] : List RPlace) (⟨0, 1⟩ : Handle)).1).keys).flatMap strE), own 29 2 dv33 ((((rget ([⟨true, 2, (⟨false, ([] : List ByteArray), ([] : List Handle), ([] : List Int)⟩ : Nd)⟩, ⟨false, 1, ndZero⟩, ⟨true, 1, (⟨false, ([] : List ByteArray), ([] : List Handle), ([] : List Int)⟩ : Nd)⟩] : List RPlace) (⟨0, 1⟩ : Handle)).1).kids).length) ((((rget ([⟨true, 2, (⟨false, ([] : List ByteArray), ([] : List Handle), ([] : List Int)⟩ : Nd)⟩, ⟨false, 1, ndZero⟩, ⟨true, 1, (⟨false, ([] : List ByteArray), ([] : List Handle), ([] : List Int)⟩ : Nd)⟩] : List RPlace) (⟨0, 1⟩ : Handle)).1).kids).flatMap handleE), own 3 1 vv34 ((((rget ([⟨true, 2, (⟨false, ([] : List ByteArray), ([] : List Handle), ([] : List Int)⟩ : Nd)⟩, ⟨false, 1, ndZero⟩, ⟨true, 1, (⟨false, ([] : List ByteArray), ([] : List Handle), ([] : List Int)⟩ : Nd)⟩] : List RPlace) (⟨0, 1⟩ : Handle)).1).vals).length) ((((rget ([⟨true, 2, (⟨false, ([] : List ByteArray), ([] : List Handle), ([] : List Int)⟩ : Nd)⟩, ⟨false, 1, ndZero⟩, ⟨true, 1, (⟨false, ([] : List ByteArray), ([] : List Handle), ([] : List Int)⟩ : Nd)⟩] : List RPlace) (⟨0, 1⟩ : Handle)).1).vals).flatMap intE), blk b29 (.cells #[(Value.int .i64 0), (Value.int .i64 2)] 29), blk b23 (.cells #[(Value.int .i64 0), (Value.int .i64 1)] 29), blk b19 (.cells #[(Value.int .i64 1), (Value.int .i64 1)] 29), blk b14 (.cells #[(Value.int .i64 2), (Value.int .i64 1)] 29), blk b12 (.cells #[(Value.int .i64 1), (Value.int .i64 1)] 29), blk b10 (.cells #[(Value.int .i64 0), (Value.int .i64 1)] 29)]) [1, 0, 2, 3, 4, 5, 6, 7, 8, 9, 10] rfl (by decide)
  clear m
  replace M : Mem _ _ _ [blk b42 (.cells #[(Value.bool (((rget ([⟨true, 2, (⟨false, ([] : List ByteArray), ([] : List Handle), ([] : List Int)⟩ : Nd)⟩, ⟨false, 1, ndZero⟩, ⟨true, 1, (⟨false, ([] : List ByteArray), ([] : List Handle), ([] : List Int)⟩ : Nd)⟩] : List RPlace) (⟨0, 1⟩ : Handle)).1).leaf)), kv32, dv33, vv34] 36), arenaC 71 73 S27 ab1 ([⟨true, 2, (⟨false, ([] : List ByteArray), ([] : List Handle), ([] : List Int)⟩ : Nd)⟩, ⟨false, 1, ndZero⟩, ⟨true, 1, (⟨false, ([] : List ByteArray), ([] : List Handle), ([] : List Int)⟩ : Nd)⟩] : List RPlace), own 9 1 kv32 ((((rget ([⟨true, 2, (⟨false, ([] : List ByteArray), ([] : List Handle), ([] : List Int)⟩ : Nd)⟩, ⟨false, 1, ndZero⟩, ⟨true, 1, (⟨false, ([] : List ByteArray), ([] : List Handle), ([] : List Int)⟩ : Nd)⟩] : List RPlace) (⟨0, 1⟩ : Handle)).1).keys).length) ((((rget ([⟨true, 2, (⟨false, ([] : List ByteArray), ([] : List Handle), ([] : List Int)⟩ : Nd)⟩, ⟨false, 1, ndZero⟩, ⟨true, 1, (⟨false, ([] : List ByteArray), ([] : List Handle), ([] : List Int)⟩ : Nd)⟩] : List RPlace) (⟨0, 1⟩ : Handle)).1).keys).flatMap strE), own 29 2 dv33 ((((rget ([⟨true, 2, (⟨false, ([] : List ByteArray), ([] : List Handle), ([] : List Int)⟩ : Nd)⟩, ⟨false, 1, ndZero⟩, ⟨true, 1, (⟨false, ([] : List ByteArray), ([] : List Handle), ([] : List Int)⟩ : Nd)⟩] : List RPlace) (⟨0, 1⟩ : Handle)).1).kids).length) ((((rget ([⟨true, 2, (⟨false, ([] : List ByteArray), ([] : List Handle), ([] : List Int)⟩ : Nd)⟩, ⟨false, 1, ndZero⟩, ⟨true, 1, (⟨false, ([] : List ByteArray), ([] : List Handle), ([] : List Int)⟩ : Nd)⟩] : List RPlace) (⟨0, 1⟩ : Handle)).1).kids).flatMap handleE), own 3 1 vv34 ((((rget ([⟨true, 2, (⟨false, ([] : List ByteArray), ([] : List Handle), ([] : List Int)⟩ : Nd)⟩, ⟨false, 1, ndZero⟩, ⟨true, 1, (⟨false, ([] : List ByteArray), ([] : List Handle), ([] : List Int)⟩ : Nd)⟩] : List RPlace) (⟨0, 1⟩ : Handle)).1).vals).length) ((((rget ([⟨true, 2, (⟨false, ([] : List ByteArray), ([] : List Handle), ([] : List Int)⟩ : Nd)⟩, ⟨false, 1, ndZero⟩, ⟨true, 1, (⟨false, ([] : List ByteArray), ([] : List Handle), ([] : List Int)⟩ : Nd)⟩] : List RPlace) (⟨0, 1⟩ : Handle)).1).vals).flatMap intE), blk b29 (.cells #[(Value.int .i64 0), (Value.int .i64 2)] 29), blk b23 (.cells #[(Value.int .i64 0), (Value.int .i64 1)] 29), blk b19 (.cells #[(Value.int .i64 1), (Value.int .i64 1)] 29), blk b14 (.cells #[(Value.int .i64 2), (Value.int .i64 1)] 29), blk b12 (.cells #[(Value.int .i64 1), (Value.int .i64 1)] 29), blk b10 (.cells #[(Value.int .i64 0), (Value.int .i64 1)] 29)] [] _ := M
  change WL _ _ _ _ _ (Env.put _ _ (Value.bool false)) _
  refine WL.step (v := (Value.bool true)) rfl (Step.pure (by kernel_rfl)) ?_
  refine WL.step (v := (Value.bool true)) rfl (Step.pick (t := true) rfl rfl) ?_
  refine WL.step (v := (Value.bool true)) rfl (Step.move rfl) ?_
  refine WL.step (v := (Value.int .i64 2)) rfl (Step.move rfl) ?_
  refine WL.step (v := (Value.bool true)) rfl (Step.pure (by kernel_rfl)) ?_
  refine WL.step (v := (Value.bool true)) rfl (Step.pick (t := true) rfl rfl) ?_
  refine WL.step (v := (Value.bool true)) rfl (Step.move rfl) ?_
  refine WL.step (v := (Value.int .i64 3)) rfl (Step.move rfl) ?_
  refine WL.step (v := (Value.bool true)) rfl (Step.pure (by kernel_rfl)) ?_
  refine WL.step (v := (Value.bool true)) rfl (Step.pick (t := true) rfl rfl) ?_
  refine WL.step (v := (Value.bool true)) rfl (Step.assign rfl) ?_
  refine WL.nil ?_
  refine W.ret ?_
  refine ⟨.inl rfl, (Value.bool true), ?_, ?_⟩
  · exact (Res.r1 (show RV _ _ _ (.tmp 0) (Value.bool true) from by exact rfl))
  refine ⟨?_, M.close [] rfl (by decide) trivial⟩
  rfl

theorem law_none {G : Nat → Prop} {w : World} (h : Handle) (kv : Value) (dv : Value) (vv : Value) (n : Nd)  (M : Mem G (fun _ => False) w [] [SlAt 1 kv n.keys.length (n.keys.flatMap strE), SlAt 2 dv n.kids.length (n.kids.flatMap handleE), SlAt 1 vv n.vals.length (n.vals.flatMap intE)] w) : Rets Try.prog 5 #[(Value.agg #[(Value.int .i64 h.at_), (Value.int .i64 h.turn)]), (Value.agg #[(Value.bool n.leaf), kv, dv, vv])] w fun r w' => r = (Value.bool true) ∧ Mem G (fun _ => False) w [] [] w' := by
  refine Rets.enter 67 _ Try.func5 rfl Try.ntmps5 Try.results5 (by simp) ?_
  have hle1 := SlAt.le' (M.rep 0 rfl)
  have hle2 := SlAt.le' (M.rep 1 rfl)
  have hle3 := SlAt.le' (M.rep 2 rfl)
  have sl4 : IsSl kv := SlAt.isSl (Mem.rep M 0 rfl)
  have sl5 : IsSl dv := SlAt.isSl (Mem.rep M 1 rfl)
  have sl6 : IsSl vv := SlAt.isSl (Mem.rep M 2 rfl)
  refine W.seq' ?_
  refine W.region rfl ?_
  refine WL.box (v := (Value.agg #[(Value.int .i64 h.at_), (Value.int .i64 h.turn)])) (c := #[(Value.int .i64 h.at_), (Value.int .i64 h.turn)]) M rfl rfl rfl (fun b7 w8 hb7 M => ?_)
  refine WL.box (v := (Value.agg #[(Value.bool n.leaf), kv, dv, vv])) (c := #[(Value.bool n.leaf), kv, dv, vv]) M rfl rfl rfl (fun b9 w10 hb9 M => ?_)
  refine WL.step (v := (Value.bool false)) rfl (Step.assign rfl) ?_
  refine WL.nil ?_
  refine W.seq' ?_
  refine W.region rfl ?_
  refine WL.step (v := (Value.pointer none)) rfl (Step.assign rfl) ?_
  refine WL.nil ?_
  refine W.seq' ?_
  refine W.region rfl ?_
  refine WL.step (v := (Value.pointer none)) rfl (Step.move rfl) ?_
  refine WL.step (v := (Value.agg #[(Value.int .i64 h.at_), (Value.int .i64 h.turn)])) rfl (Step.loadN Try.ag29 rfl (M.blk 1 rfl) (Nat.le_of_ble_eq_true rfl) rfl) ?_
  refine WL.callX rfl (get_nil h (M.enterW0 trivial)) (CallsF.func Try.en14 rfl) ?_
  rintro _ w11 ⟨rfl, m⟩
  replace M := M.leaveW0 m
  clear m
  replace M : Mem _ _ _ [blk b9 (.cells #[(Value.bool n.leaf), kv, dv, vv] 36), blk b7 (.cells #[(Value.int .i64 h.at_), (Value.int .i64 h.turn)] 29)] [SlAt 1 kv n.keys.length (n.keys.flatMap strE), SlAt 2 dv n.kids.length (n.kids.flatMap handleE), SlAt 1 vv n.vals.length (n.vals.flatMap intE)] _ := M
  refine WL.step (v := (Value.tuple #[(Value.agg #[(Value.bool false), (Value.slice none 0 0), (Value.slice none 0 0), (Value.slice none 0 0)]), (Value.int .i64 1)])) rfl (Step.move rfl) ?_
  refine WL.step (v := (Value.agg #[(Value.bool false), (Value.slice none 0 0), (Value.slice none 0 0), (Value.slice none 0 0)])) rfl (Step.pure (by kernel_rfl)) ?_
  refine WL.step (v := (Value.int .i64 1)) rfl (Step.pure (by kernel_rfl)) ?_
  refine WL.alloc (c := #[(Value.bool false), (Value.slice none 0 0), (Value.slice none 0 0), (Value.slice none 0 0)]) M rfl Try.el36.zero rfl (fun b12 w13 hb12 M => ?_)
  refine WL.store (v := (Value.agg #[(Value.bool false), (Value.slice none 0 0), (Value.slice none 0 0), (Value.slice none 0 0)])) (cs := [(Value.bool false), (Value.slice none 0 0), (Value.slice none 0 0), (Value.slice none 0 0)]) (c' := #[(Value.bool false), (Value.slice none 0 0), (Value.slice none 0 0), (Value.slice none 0 0)]) M 0 rfl rfl Try.el36.sized rfl rfl rfl rfl (Nat.le_of_ble_eq_true rfl) (cel_cons rfl (cel_cons rfl (cel_cons rfl (cel_cons rfl cel_nil)))) rfl rfl (fun w14 M => ?_)
  refine WL.step (v := (Value.int .i64 1)) rfl (Step.assign rfl) ?_
  refine WL.nil ?_
  refine W.seq' ?_
  refine W.region rfl ?_
  refine WL.step (v := (Value.pointer none)) rfl (Step.move rfl) ?_
  refine WL.callX rfl (len_nil  (M.enterW0 trivial)) (CallsF.func Try.en15 rfl) ?_
  rintro _ w15 ⟨rfl, m⟩
  replace M := M.leaveW0 m
  clear m
  replace M : Mem _ _ _ [blk b12 (.cells #[(Value.bool false), (Value.slice none 0 0), (Value.slice none 0 0), (Value.slice none 0 0)] 36), blk b9 (.cells #[(Value.bool n.leaf), kv, dv, vv] 36), blk b7 (.cells #[(Value.int .i64 h.at_), (Value.int .i64 h.turn)] 29)] [SlAt 1 kv n.keys.length (n.keys.flatMap strE), SlAt 2 dv n.kids.length (n.kids.flatMap handleE), SlAt 1 vv n.vals.length (n.vals.flatMap intE)] _ := M
  refine WL.step (v := (Value.tuple #[(Value.int .i64 0), (Value.int .i64 0)])) rfl (Step.move rfl) ?_
  refine WL.step (v := (Value.int .i64 0)) rfl (Step.pure (by kernel_rfl)) ?_
  refine WL.step (v := (Value.int .i64 0)) rfl (Step.pure (by kernel_rfl)) ?_
  refine WL.step (v := (Value.int .i64 0)) rfl (Step.assign rfl) ?_
  refine WL.step (v := (Value.int .i64 0)) rfl (Step.assign rfl) ?_
  refine WL.nil ?_
  refine W.seq' ?_
  refine W.region rfl ?_
  refine WL.step (v := (Value.pointer none)) rfl (Step.move rfl) ?_
  refine WL.step (v := (Value.agg #[(Value.bool n.leaf), kv, dv, vv])) rfl (Step.loadN Try.ag36 rfl (M.blk 1 rfl) (Nat.le_of_ble_eq_true rfl) rfl) ?_
  refine WL.callX rfl (make_nil kv dv vv n (M.enterW0 ⟨(M.wideR0 0 rfl), (M.wideR0 1 rfl), (M.wideR0 2 rfl), trivial⟩)) (CallsF.func Try.en13 rfl) ?_
  rintro _ w16 ⟨rfl, m⟩
  replace M := M.leaveW0 m
  clear m
  replace M : Mem _ _ _ [blk b12 (.cells #[(Value.bool false), (Value.slice none 0 0), (Value.slice none 0 0), (Value.slice none 0 0)] 36), blk b9 (.cells #[(Value.bool n.leaf), kv, dv, vv] 36), blk b7 (.cells #[(Value.int .i64 h.at_), (Value.int .i64 h.turn)] 29)] [SlAt 1 kv n.keys.length (n.keys.flatMap strE), SlAt 2 dv n.kids.length (n.kids.flatMap handleE), SlAt 1 vv n.vals.length (n.vals.flatMap intE)] _ := M
  refine WL.step (v := (Value.agg #[(Value.int .i64 0), (Value.int .i64 0)])) rfl (Step.pure (by kernel_rfl)) ?_
  refine WL.step (v := (Value.bool true)) rfl (Step.cast (congrArg Value.bool (show (((0 : Int) == (0 : Int)) && (((0 : Int) == (0 : Int)) && true)) = true from rfl)) (Step.eqAgg Try.eg29 rfl rfl rfl (Try.eq29 9998 (0 : Int) (0 : Int) (0 : Int) (0 : Int)))) ?_
  refine WL.step (v := (Value.bool true)) rfl (Step.move rfl) ?_
  refine WL.step (v := (Value.int .i64 1)) rfl (Step.move rfl) ?_
  refine WL.step (v := (Value.bool true)) rfl (Step.pure (by kernel_rfl)) ?_
  refine WL.step (v := (Value.bool true)) rfl (Step.pick (t := true) rfl rfl) ?_
  refine WL.step (v := (Value.bool true)) rfl (Step.move rfl) ?_
  refine WL.step (v := (Value.pointer none)) rfl (Step.move rfl) ?_
  refine WL.step (v := (Value.agg #[(Value.int .i64 h.at_), (Value.int .i64 h.turn)])) rfl (Step.loadN Try.ag29 rfl (M.blk 2 rfl) (Nat.le_of_ble_eq_true rfl) rfl) ?_
  refine WL.step (v := (Value.agg #[(Value.bool n.leaf), kv, dv, vv])) rfl (Step.loadN Try.ag36 rfl (M.blk 1 rfl) (Nat.le_of_ble_eq_true rfl) rfl) ?_
  refine WL.callX rfl (put_nil h kv dv vv n (M.enterW0 ⟨(M.wideR0 0 rfl), (M.wideR0 1 rfl), (M.wideR0 2 rfl), trivial⟩)) (CallsF.func Try.en20 rfl) ?_
  rintro _ w17 ⟨rfl, m⟩
  replace M := M.leaveW0 m
  clear m
  replace M : Mem _ _ _ [blk b12 (.cells #[(Value.bool false), (Value.slice none 0 0), (Value.slice none 0 0), (Value.slice none 0 0)] 36), blk b9 (.cells #[(Value.bool n.leaf), kv, dv, vv] 36), blk b7 (.cells #[(Value.int .i64 h.at_), (Value.int .i64 h.turn)] 29)] [SlAt 1 kv n.keys.length (n.keys.flatMap strE), SlAt 2 dv n.kids.length (n.kids.flatMap handleE), SlAt 1 vv n.vals.length (n.vals.flatMap intE)] _ := M
  refine WL.step (v := (Value.bool true)) rfl (Step.pure (by kernel_rfl)) ?_
  refine WL.step (v := (Value.bool true)) rfl (Step.pick (t := true) rfl rfl) ?_
  refine WL.step (v := (Value.bool true)) rfl (Step.move rfl) ?_
  refine WL.step (v := (Value.pointer none)) rfl (Step.move rfl) ?_
  refine WL.step (v := (Value.agg #[(Value.int .i64 h.at_), (Value.int .i64 h.turn)])) rfl (Step.loadN Try.ag29 rfl (M.blk 2 rfl) (Nat.le_of_ble_eq_true rfl) rfl) ?_
  refine WL.new (obj := .cells #[(Value.int .i64 h.at_), (Value.int .i64 h.turn)] 29) (fun b => .slice (some ⟨b, 0, none⟩) 1 1) M rfl (fun w => Step.make (by kernel_rfl)) (fun b18 w19 hb18 M => ?_)
  refine WL.callX rfl (free_nil_ (Value.slice (some ⟨b18, 0, none⟩) 1 1) ([h] : List Handle) (M.enterW0 ⟨((M.wideC0 0 rfl).imp fun _ h => SlAt.of_blk (n := 1) (size := 2) h rfl (by decide)), trivial⟩)) (CallsF.func Try.en12 rfl) ?_
  rintro _ w20 ⟨rfl, m⟩
  replace M := M.leaveW0 m
  clear m
  replace M : Mem _ _ _ [blk b18 (.cells #[(Value.int .i64 h.at_), (Value.int .i64 h.turn)] 29), blk b12 (.cells #[(Value.bool false), (Value.slice none 0 0), (Value.slice none 0 0), (Value.slice none 0 0)] 36), blk b9 (.cells #[(Value.bool n.leaf), kv, dv, vv] 36), blk b7 (.cells #[(Value.int .i64 h.at_), (Value.int .i64 h.turn)] 29)] [SlAt 1 kv n.keys.length (n.keys.flatMap strE), SlAt 2 dv n.kids.length (n.kids.flatMap handleE), SlAt 1 vv n.vals.length (n.vals.flatMap intE)] _ := M
  refine WL.step (v := (Value.bool true)) rfl (Step.pure (by kernel_rfl)) ?_
  refine WL.step (v := (Value.bool true)) rfl (Step.pick (t := true) rfl rfl) ?_
  refine WL.step (v := (Value.bool true)) rfl (Step.move rfl) ?_
  refine WL.step (v := (Value.pointer none)) rfl (Step.move rfl) ?_
  refine WL.step (v := (Value.agg #[(Value.int .i64 h.at_), (Value.int .i64 h.turn)])) rfl (Step.loadN Try.ag29 rfl (M.blk 3 rfl) (Nat.le_of_ble_eq_true rfl) rfl) ?_
  refine WL.callX rfl (has_nil h (M.enterW0 trivial)) (CallsF.func Try.en16 rfl) ?_
  rintro _ w21 ⟨rfl, m⟩
  replace M := M.leaveW0 m
  clear m
  replace M : Mem _ _ _ [blk b18 (.cells #[(Value.int .i64 h.at_), (Value.int .i64 h.turn)] 29), blk b12 (.cells #[(Value.bool false), (Value.slice none 0 0), (Value.slice none 0 0), (Value.slice none 0 0)] 36), blk b9 (.cells #[(Value.bool n.leaf), kv, dv, vv] 36), blk b7 (.cells #[(Value.int .i64 h.at_), (Value.int .i64 h.turn)] 29)] [SlAt 1 kv n.keys.length (n.keys.flatMap strE), SlAt 2 dv n.kids.length (n.kids.flatMap handleE), SlAt 1 vv n.vals.length (n.vals.flatMap intE)] _ := M
  refine WL.step (v := (Value.bool true)) rfl (Step.pure (by kernel_rfl)) ?_
  refine WL.step (v := (Value.bool true)) rfl (Step.pick (t := true) rfl rfl) ?_
  refine WL.step (v := (Value.bool true)) rfl (Step.move rfl) ?_
  refine WL.step (v := (Value.pointer none)) rfl (Step.move rfl) ?_
  refine WL.callX rfl (used_nil  (M.enterW0 trivial)) (CallsF.func Try.en10 rfl) ?_
  rintro v22 w23 ⟨_, rfl, m⟩
  replace M := M.leaveW0 m
  clear m
  replace M : Mem _ _ _ [own 29 2 v22 (([] : List Handle).length) (([] : List Handle).flatMap handleE), blk b18 (.cells #[(Value.int .i64 h.at_), (Value.int .i64 h.turn)] 29), blk b12 (.cells #[(Value.bool false), (Value.slice none 0 0), (Value.slice none 0 0), (Value.slice none 0 0)] 36), blk b9 (.cells #[(Value.bool n.leaf), kv, dv, vv] 36), blk b7 (.cells #[(Value.int .i64 h.at_), (Value.int .i64 h.turn)] 29)] [SlAt 1 kv n.keys.length (n.keys.flatMap strE), SlAt 2 dv n.kids.length (n.kids.flatMap handleE), SlAt 1 vv n.vals.length (n.vals.flatMap intE)] _ := M
  have sl24 : IsSl v22 := SlAt.isSl (own_slAt (Mem.chunk M 0 rfl).inv)
  have hle25 := SlAt.le' (own_slAt (Mem.chunk M 0 rfl).inv)
  refine WL.step (v := (Value.int .i64 (↑(([] : List Handle).length)))) rfl (Step.lenSl Try.un26 rfl (own_slAt (M.chunk 0 rfl).inv)) ?_
  refine WL.step (v := (Value.bool ((↑(([] : List Handle).length) : Int) == (0 : Int)))) rfl (Step.pure (by kernel_rfl)) ?_
  refine WL.step (v := (Value.bool ((↑(([] : List Handle).length) : Int) == (0 : Int)))) rfl (Step.pick (t := true) rfl rfl) ?_
  refine WL.step (v := (Value.bool ((↑(([] : List Handle).length) : Int) == (0 : Int)))) rfl (Step.move rfl) ?_
  rcases Bool.eq_false_or_eq_true ((↑(([] : List Handle).length) : Int) == (0 : Int)) with h26 | h26
  ·
    have h26p : (↑(([] : List Handle).length) : Int) = (0 : Int) := by simpa using h26
    rw [h26]
    refine WL.step (v := (Value.int .i64 0)) rfl (Step.move rfl) ?_
    refine WL.step (v := (Value.bool true)) rfl (Step.pure (by kernel_rfl)) ?_
    refine WL.step (v := (Value.bool true)) rfl (Step.pick (t := true) rfl rfl) ?_
    refine WL.step (v := (Value.bool true)) rfl (Step.move rfl) ?_
    refine WL.step (v := (Value.int .i64 0)) rfl (Step.move rfl) ?_
    refine WL.step (v := (Value.bool true)) rfl (Step.pure (by kernel_rfl)) ?_
    refine WL.step (v := (Value.bool true)) rfl (Step.pick (t := true) rfl rfl) ?_
    refine WL.step (v := (Value.bool true)) rfl (Step.move rfl) ?_
    refine WL.callX rfl (law_works  (M.enterW0 trivial)) (CallsF.func Try.en8 rfl) ?_
    rintro _ w27 ⟨rfl, m⟩
    replace M := M.leaveW0 m
    clear m
    replace M : Mem _ _ _ [own 29 2 v22 (([] : List Handle).length) (([] : List Handle).flatMap handleE), blk b18 (.cells #[(Value.int .i64 h.at_), (Value.int .i64 h.turn)] 29), blk b12 (.cells #[(Value.bool false), (Value.slice none 0 0), (Value.slice none 0 0), (Value.slice none 0 0)] 36), blk b9 (.cells #[(Value.bool n.leaf), kv, dv, vv] 36), blk b7 (.cells #[(Value.int .i64 h.at_), (Value.int .i64 h.turn)] 29)] [SlAt 1 kv n.keys.length (n.keys.flatMap strE), SlAt 2 dv n.kids.length (n.kids.flatMap handleE), SlAt 1 vv n.vals.length (n.vals.flatMap intE)] _ := M
    refine WL.step (v := (Value.bool true)) rfl (Step.pick (t := true) rfl rfl) ?_
    refine WL.step (v := (Value.bool true)) rfl (Step.assign rfl) ?_
    refine WL.nil ?_
    refine W.ret ?_
    refine ⟨.inl rfl, (Value.bool true), ?_, ?_⟩
    · exact (Res.r1 (show RV _ _ _ (.tmp 4) (Value.bool true) from by exact rfl))
    refine ⟨?_, M.close [] rfl (by decide) trivial⟩
    rfl
  ·
    have h26p : ¬ (↑(([] : List Handle).length) : Int) = (0 : Int) := by simpa using h26
    exact absurd rfl h26p
end Go.Proofs
