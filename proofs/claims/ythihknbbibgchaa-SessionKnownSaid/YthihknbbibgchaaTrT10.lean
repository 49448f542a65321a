/- Walks. -/
import Derived.Test.YthihknbbibgchaaTrT9
set_option maxRecDepth 100000
set_option linter.all false
namespace Go.Proofs
open Go Tp
theorem Try.en32 : Enters Try.prog 32 := fun _ _ => by kernel_rfl
theorem Try.en33 : Enters Try.prog 33 := fun _ _ => by kernel_rfl
theorem Try.en35 : Enters Try.prog 35 := fun _ _ => by kernel_rfl
theorem Try.fl65 : (Try.prog.fieldsOf 65).toList = [⟨ "Start", 2, 0, false, "", "", 0⟩, ⟨ "End", 2, 1, false, "", "", 8⟩] := by kernel_rfl
theorem Try.eg65 : Try.prog.eqGuardType Try.prog.depth 65 = false := by kernel_rfl
theorem Try.eq65 (d : Nat) (a0 : Int) (a1 : Int) (b0 : Int) (b1 : Int) : ∀ w, (Op.equalIn (d + 2) 65 (Value.agg #[(Value.int .i64 a0), (Value.int .i64 a1)]) (Value.agg #[(Value.int .i64 b0), (Value.int .i64 b1)])).run Try.prog w = .ok (((a0 : Int) == (b0 : Int)) && (((a1 : Int) == (b1 : Int)) && true)) w :=
  (eq_struct (by kernel_rfl) (by kernel_rfl) (Try.fl65) (eqF_cons (x := (Value.int .i64 a0)) (y := (Value.int .i64 b0)) (by decide) (fun _ => by kernel_rfl) (fun _ => by kernel_rfl) (fun w => run_equalIn_int w _ _ _ .i64 _ _ (by kernel_rfl)) (eqF_cons (x := (Value.int .i64 a1)) (y := (Value.int .i64 b1)) (by decide) (fun _ => by kernel_rfl) (fun _ => by kernel_rfl) (fun w => run_equalIn_int w _ _ _ .i64 _ _ (by kernel_rfl)) eqF_nil)))

theorem law17_works {G : Nat → Prop} {w : World}    (M : Mem G (fun _ => False) w [] [] w) : Rets Try.prog 29 #[] w fun r w' => r = (Value.bool true) ∧ Mem G (fun _ => False) w [] [] w' := by
  refine Rets.enter 80 _ Try.func29 rfl Try.ntmps29 Try.results29 (by simp) ?_
  refine W.seq' ?_
  refine W.region rfl ?_
  refine WL.step (v := (Value.bool false)) rfl (Step.assign rfl) ?_
  refine WL.nil ?_
  refine W.seq' ?_
  refine W.region rfl ?_
  refine WL.new (obj := .cells #[(Value.int .i64 0), (Value.int .i64 5), (Value.int .i64 15), (Value.int .i64 40)] 2) (fun b => .slice (some ⟨b, 0, none⟩) 4 4) M rfl (fun w => Step.make (by kernel_rfl)) (fun b1 w2 hb1 M => ?_)
  refine WL.callX rfl (ses_of 10 (Value.slice (some ⟨b1, 0, none⟩) 4 4) ([0, 5, 15, 40] : List Int) (by first | omega | assumption | decide | (simp only [List.length_nil, List.length_cons, List.length_take, List.length_drop]; omega)) (show (mayB 10 ([0, 5, 15, 40] : List Int)) = true by rfl) (M.enterW0 ⟨((M.wideC0 0 rfl).imp fun _ h => SlAt.of_blk (n := 4) (size := 1) h rfl (by decide)), trivial⟩)) (CallsF.func Try.en35 rfl) ?_
  rintro _ w4 ⟨v3, rfl, m⟩
  replace M := M.leaveW0 m
  clear m
  replace M : Mem _ _ _ [own 65 2 v3 ((ofT 10 (sortT ([0, 5, 15, 40] : List Int))).length) ((ofT 10 (sortT ([0, 5, 15, 40] : List Int))).flatMap spanE), blk b1 (.cells #[(Value.int .i64 0), (Value.int .i64 5), (Value.int .i64 15), (Value.int .i64 40)] 2)] [] _ := M
  have sl5 : IsSl v3 := SlAt.isSl (own_slAt (Mem.chunk M 0 rfl).inv)
  have hle6 := SlAt.le' (own_slAt (Mem.chunk M 0 rfl).inv)
  replace M := M.rechunk 0 (c' := own 65 2 v3 (([⟨0, 15⟩, ⟨15, 25⟩, ⟨40, 50⟩] : List Span).length) (([⟨0, 15⟩, ⟨15, 25⟩, ⟨40, 50⟩] : List Span).flatMap spanE)) rfl (by rw [wk_of])
  replace M : Mem _ _ _ [own 65 2 v3 (([⟨0, 15⟩, ⟨15, 25⟩, ⟨40, 50⟩] : List Span).length) (([⟨0, 15⟩, ⟨15, 25⟩, ⟨40, 50⟩] : List Span).flatMap spanE), blk b1 (.cells #[(Value.int .i64 0), (Value.int .i64 5), (Value.int .i64 15), (Value.int .i64 40)] 2)] [] _ := M
  have hl3_ : ([⟨0, 15⟩, ⟨15, 25⟩, ⟨40, 50⟩] : List Span).length = 3 := rfl
  refine WL.step (v := (Value.tuple #[v3, (Value.int .i64 0)])) rfl (Step.move rfl) ?_
  refine WL.step (v := v3) rfl (Step.pure (by kernel_rfl)) ?_
  refine WL.step (v := (Value.int .i64 0)) rfl (Step.pure (by kernel_rfl)) ?_
  refine WL.step (v := v3) rfl (Step.assign rfl) ?_
  refine WL.step (v := (Value.int .i64 0)) rfl (Step.assign rfl) ?_
  refine WL.nil ?_
  refine W.seq' ?_
  refine W.seq' ?_
  refine W.region rfl ?_
  refine WL.step (v := (Value.int .i64 0)) rfl (Step.move rfl) ?_
  refine WL.step (v := (Value.bool false)) rfl (Step.pure (by kernel_rfl)) ?_
  refine WL.step (v := (Value.bool false)) rfl (Step.move rfl) ?_
  refine WL.step (v := v3) rfl (Step.move rfl) ?_
  refine WL.step (v := (Value.agg #[(Value.int .i64 0), (Value.int .i64 15)])) rfl (Step.pure (by kernel_rfl)) ?_
  refine WL.step (v := (Value.agg #[(Value.int .i64 15), (Value.int .i64 25)])) rfl (Step.pure (by kernel_rfl)) ?_
  refine WL.step (v := (Value.agg #[(Value.int .i64 40), (Value.int .i64 50)])) rfl (Step.pure (by kernel_rfl)) ?_
  refine WL.new (obj := .cells #[(Value.int .i64 0), (Value.int .i64 15), (Value.int .i64 15), (Value.int .i64 25), (Value.int .i64 40), (Value.int .i64 50)] 62) (fun b => .slice (some ⟨b, 0, none⟩) 3 3) M rfl (fun w => Step.make (by kernel_rfl)) (fun b7 w8 hb7 M => ?_)
  refine WL.callX rfl (law17_same v3 ([⟨0, 15⟩, ⟨15, 25⟩, ⟨40, 50⟩] : List Span) (Value.slice (some ⟨b7, 0, none⟩) 3 3) ([(⟨0, 15⟩ : Span), (⟨15, 25⟩ : Span), (⟨40, 50⟩ : Span)] : List Span) (M.enterW0 ⟨((M.wideC0 1 rfl).imp fun _ h => own_slAt h), ((M.wideC0 0 rfl).imp fun _ h => SlAt.of_blk (n := 3) (size := 2) h rfl (by decide)), trivial⟩)) (CallsF.func Try.en33 rfl) ?_
  rintro _ w9 ⟨rfl, m⟩
  replace M := M.leaveW0 m
  clear m
  replace M : Mem _ _ _ [blk b7 (.cells #[(Value.int .i64 0), (Value.int .i64 15), (Value.int .i64 15), (Value.int .i64 25), (Value.int .i64 40), (Value.int .i64 50)] 62), own 65 2 v3 (([⟨0, 15⟩, ⟨15, 25⟩, ⟨40, 50⟩] : List Span).length) (([⟨0, 15⟩, ⟨15, 25⟩, ⟨40, 50⟩] : List Span).flatMap spanE), blk b1 (.cells #[(Value.int .i64 0), (Value.int .i64 5), (Value.int .i64 15), (Value.int .i64 40)] 2)] [] _ := M
  rw [(show (decide (([⟨0, 15⟩, ⟨15, 25⟩, ⟨40, 50⟩] : List Span) = ([(⟨0, 15⟩ : Span), (⟨15, 25⟩ : Span), (⟨40, 50⟩ : Span)] : List Span))) = true by rfl)]
  refine WL.step (v := (Value.bool false)) rfl (Step.pure (by kernel_rfl)) ?_
  refine WL.step (v := (Value.bool false)) rfl (Step.pick (t := false) rfl rfl) ?_
  refine WL.nil ?_
  refine W.cond (t := false) rfl (fun h => by cases h) (fun _ => ?_)
  refine W.skip ?_
  refine W.seq' ?_
  refine W.region rfl ?_
  refine WL.step (v := v3) rfl (Step.move rfl) ?_
  have hsh10 := SlAt.shp (own_slAt (M.chunk 1 rfl).inv)
  have hsh10c := hsh10
  obtain ⟨_, _, hsh10l, hsh10m⟩ := hsh10c
  refine WL.step (v := (vTake 2 v3)) rfl (Step.sliceToP (h := 2) Try.un58 Try.el65.sized rfl rfl rfl hsh10 (by obtain ⟨_, _, _, _⟩ := hsh10; omega)) ?_
  refine WL.callX rfl (ses_ins 10 14 (vTake 2 v3) (([⟨0, 15⟩, ⟨15, 25⟩, ⟨40, 50⟩] : List Span).take 2) (by first | omega | assumption | decide | (simp only [List.length_nil, List.length_cons, List.length_take, List.length_drop]; omega)) (by first | assumption | decide) (show (okI 10 14 (([⟨0, 15⟩, ⟨15, 25⟩, ⟨40, 50⟩] : List Span).take 2)) = true by rfl) (M.enterW0 ⟨((((M.wideC0 1 rfl).imp fun _ h => own_slAt h)).imp fun _ h => slat_take spanE_len h (by omega)), trivial⟩)) (CallsF.func Try.en32 rfl) ?_
  rintro _ w13 ⟨j11, a12, rfl, m⟩
  replace M := M.leaveW0 m
  clear m
  replace M : Mem _ _ _ [own 65 2 j11 ((insJ (([⟨0, 15⟩, ⟨15, 25⟩, ⟨40, 50⟩] : List Span).take 2) (⟨14, 14 + 10⟩ : Span)).length) ((insJ (([⟨0, 15⟩, ⟨15, 25⟩, ⟨40, 50⟩] : List Span).take 2) (⟨14, 14 + 10⟩ : Span)).flatMap spanE), own 65 2 a12 ((insA (([⟨0, 15⟩, ⟨15, 25⟩, ⟨40, 50⟩] : List Span).take 2) (⟨14, 14 + 10⟩ : Span)).length) ((insA (([⟨0, 15⟩, ⟨15, 25⟩, ⟨40, 50⟩] : List Span).take 2) (⟨14, 14 + 10⟩ : Span)).flatMap spanE), blk b7 (.cells #[(Value.int .i64 0), (Value.int .i64 15), (Value.int .i64 15), (Value.int .i64 25), (Value.int .i64 40), (Value.int .i64 50)] 62), own 65 2 v3 (([⟨0, 15⟩, ⟨15, 25⟩, ⟨40, 50⟩] : List Span).length) (([⟨0, 15⟩, ⟨15, 25⟩, ⟨40, 50⟩] : List Span).flatMap spanE), blk b1 (.cells #[(Value.int .i64 0), (Value.int .i64 5), (Value.int .i64 15), (Value.int .i64 40)] 2)] [] _ := M
  have sl14 : IsSl j11 := SlAt.isSl (own_slAt (Mem.chunk M 0 rfl).inv)
  have hle15 := SlAt.le' (own_slAt (Mem.chunk M 0 rfl).inv)
  have sl16 : IsSl a12 := SlAt.isSl (own_slAt (Mem.chunk M 1 rfl).inv)
  have hle17 := SlAt.le' (own_slAt (Mem.chunk M 1 rfl).inv)
  refine WL.step (v := (Value.tuple #[j11, (Value.agg #[(Value.int .i64 ((insN (([⟨0, 15⟩, ⟨15, 25⟩, ⟨40, 50⟩] : List Span).take 2) (⟨14, 14 + 10⟩ : Span)).start)), (Value.int .i64 ((insN (([⟨0, 15⟩, ⟨15, 25⟩, ⟨40, 50⟩] : List Span).take 2) (⟨14, 14 + 10⟩ : Span)).fin))]), a12, (Value.int .i64 0)])) rfl (Step.move rfl) ?_
  refine WL.step (v := j11) rfl (Step.pure (by kernel_rfl)) ?_
  refine WL.step (v := (Value.agg #[(Value.int .i64 ((insN (([⟨0, 15⟩, ⟨15, 25⟩, ⟨40, 50⟩] : List Span).take 2) (⟨14, 14 + 10⟩ : Span)).start)), (Value.int .i64 ((insN (([⟨0, 15⟩, ⟨15, 25⟩, ⟨40, 50⟩] : List Span).take 2) (⟨14, 14 + 10⟩ : Span)).fin))])) rfl (Step.pure (by kernel_rfl)) ?_
  refine WL.step (v := a12) rfl (Step.pure (by kernel_rfl)) ?_
  refine WL.step (v := (Value.int .i64 0)) rfl (Step.pure (by kernel_rfl)) ?_
  refine WL.alloc (c := #[(Value.int .i64 0), (Value.int .i64 0)]) M rfl Try.el65.zero rfl (fun b18 w19 hb18 M => ?_)
  refine WL.step (v := j11) rfl (Step.assign rfl) ?_
  refine WL.store (v := (Value.agg #[(Value.int .i64 ((insN (([⟨0, 15⟩, ⟨15, 25⟩, ⟨40, 50⟩] : List Span).take 2) (⟨14, 14 + 10⟩ : Span)).start)), (Value.int .i64 ((insN (([⟨0, 15⟩, ⟨15, 25⟩, ⟨40, 50⟩] : List Span).take 2) (⟨14, 14 + 10⟩ : Span)).fin))])) (cs := [(Value.int .i64 ((insN (([⟨0, 15⟩, ⟨15, 25⟩, ⟨40, 50⟩] : List Span).take 2) (⟨14, 14 + 10⟩ : Span)).start)), (Value.int .i64 ((insN (([⟨0, 15⟩, ⟨15, 25⟩, ⟨40, 50⟩] : List Span).take 2) (⟨14, 14 + 10⟩ : Span)).fin))]) (c' := #[(Value.int .i64 ((insN (([⟨0, 15⟩, ⟨15, 25⟩, ⟨40, 50⟩] : List Span).take 2) (⟨14, 14 + 10⟩ : Span)).start)), (Value.int .i64 ((insN (([⟨0, 15⟩, ⟨15, 25⟩, ⟨40, 50⟩] : List Span).take 2) (⟨14, 14 + 10⟩ : Span)).fin))]) M 0 rfl rfl Try.el65.sized rfl rfl rfl rfl (Nat.le_of_ble_eq_true rfl) (cel_cons rfl (cel_cons rfl cel_nil)) rfl rfl (fun w20 M => ?_)
  refine WL.step (v := a12) rfl (Step.assign rfl) ?_
  refine WL.step (v := (Value.int .i64 0)) rfl (Step.assign rfl) ?_
  refine WL.nil ?_
  refine W.seq' ?_
  refine W.region rfl ?_
  refine WL.step (v := v3) rfl (Step.move rfl) ?_
  refine WL.step (v := (vSlice 2 2 (([⟨0, 15⟩, ⟨15, 25⟩, ⟨40, 50⟩] : List Span).length) (vCap v3) v3)) rfl (Step.sliceFromP (l := 2) Try.un58 Try.el65.sized rfl rfl rfl hsh10 (by omega)) ?_
  refine WL.callX rfl (ses_ins 10 50 (vSlice 2 2 (([⟨0, 15⟩, ⟨15, 25⟩, ⟨40, 50⟩] : List Span).length) (vCap v3) v3) ((([⟨0, 15⟩, ⟨15, 25⟩, ⟨40, 50⟩] : List Span).drop 2).take ((([⟨0, 15⟩, ⟨15, 25⟩, ⟨40, 50⟩] : List Span).length) - 2)) (by first | omega | assumption | decide | (simp only [List.length_nil, List.length_cons, List.length_take, List.length_drop]; omega)) (by first | assumption | decide) (show (okI 10 50 ((([⟨0, 15⟩, ⟨15, 25⟩, ⟨40, 50⟩] : List Span).drop 2).take ((([⟨0, 15⟩, ⟨15, 25⟩, ⟨40, 50⟩] : List Span).length) - 2))) = true by rfl) (M.enterW0 ⟨((((M.wideC0 4 rfl).imp fun _ h => own_slAt h)).imp fun _ h => slat_sliceF spanE_len (l := 2) (h := ([⟨0, 15⟩, ⟨15, 25⟩, ⟨40, 50⟩] : List Span).length) h (by omega) (by omega) (Nat.le_trans (by omega) (SlAt.cap h).1) (Nat.le_refl _)), trivial⟩)) (CallsF.func Try.en32 rfl) ?_
  rintro _ w23 ⟨j21, a22, rfl, m⟩
  replace M := M.leaveW0 m
  clear m
  replace M : Mem _ _ _ [own 65 2 j21 ((insJ ((([⟨0, 15⟩, ⟨15, 25⟩, ⟨40, 50⟩] : List Span).drop 2).take ((([⟨0, 15⟩, ⟨15, 25⟩, ⟨40, 50⟩] : List Span).length) - 2)) (⟨50, 50 + 10⟩ : Span)).length) ((insJ ((([⟨0, 15⟩, ⟨15, 25⟩, ⟨40, 50⟩] : List Span).drop 2).take ((([⟨0, 15⟩, ⟨15, 25⟩, ⟨40, 50⟩] : List Span).length) - 2)) (⟨50, 50 + 10⟩ : Span)).flatMap spanE), own 65 2 a22 ((insA ((([⟨0, 15⟩, ⟨15, 25⟩, ⟨40, 50⟩] : List Span).drop 2).take ((([⟨0, 15⟩, ⟨15, 25⟩, ⟨40, 50⟩] : List Span).length) - 2)) (⟨50, 50 + 10⟩ : Span)).length) ((insA ((([⟨0, 15⟩, ⟨15, 25⟩, ⟨40, 50⟩] : List Span).drop 2).take ((([⟨0, 15⟩, ⟨15, 25⟩, ⟨40, 50⟩] : List Span).length) - 2)) (⟨50, 50 + 10⟩ : Span)).flatMap spanE), blk b18 (.cells #[(Value.int .i64 ((insN (([⟨0, 15⟩, ⟨15, 25⟩, ⟨40, 50⟩] : List Span).take 2) (⟨14, 14 + 10⟩ : Span)).start)), (Value.int .i64 ((insN (([⟨0, 15⟩, ⟨15, 25⟩, ⟨40, 50⟩] : List Span).take 2) (⟨14, 14 + 10⟩ : Span)).fin))] 65), own 65 2 j11 ((insJ (([⟨0, 15⟩, ⟨15, 25⟩, ⟨40, 50⟩] : List Span).take 2) (⟨14, 14 + 10⟩ : Span)).length) ((insJ (([⟨0, 15⟩, ⟨15, 25⟩, ⟨40, 50⟩] : List Span).take 2) (⟨14, 14 + 10⟩ : Span)).flatMap spanE), own 65 2 a12 ((insA (([⟨0, 15⟩, ⟨15, 25⟩, ⟨40, 50⟩] : List Span).take 2) (⟨14, 14 + 10⟩ : Span)).length) ((insA (([⟨0, 15⟩, ⟨15, 25⟩, ⟨40, 50⟩] : List Span).take 2) (⟨14, 14 + 10⟩ : Span)).flatMap spanE), blk b7 (.cells #[(Value.int .i64 0), (Value.int .i64 15), (Value.int .i64 15), (Value.int .i64 25), (Value.int .i64 40), (Value.int .i64 50)] 62), own 65 2 v3 (([⟨0, 15⟩, ⟨15, 25⟩, ⟨40, 50⟩] : List Span).length) (([⟨0, 15⟩, ⟨15, 25⟩, ⟨40, 50⟩] : List Span).flatMap spanE), blk b1 (.cells #[(Value.int .i64 0), (Value.int .i64 5), (Value.int .i64 15), (Value.int .i64 40)] 2)] [] _ := M
  have sl24 : IsSl j21 := SlAt.isSl (own_slAt (Mem.chunk M 0 rfl).inv)
  have hle25 := SlAt.le' (own_slAt (Mem.chunk M 0 rfl).inv)
  have sl26 : IsSl a22 := SlAt.isSl (own_slAt (Mem.chunk M 1 rfl).inv)
  have hle27 := SlAt.le' (own_slAt (Mem.chunk M 1 rfl).inv)
  refine WL.step (v := (Value.tuple #[j21, (Value.agg #[(Value.int .i64 ((insN ((([⟨0, 15⟩, ⟨15, 25⟩, ⟨40, 50⟩] : List Span).drop 2).take ((([⟨0, 15⟩, ⟨15, 25⟩, ⟨40, 50⟩] : List Span).length) - 2)) (⟨50, 50 + 10⟩ : Span)).start)), (Value.int .i64 ((insN ((([⟨0, 15⟩, ⟨15, 25⟩, ⟨40, 50⟩] : List Span).drop 2).take ((([⟨0, 15⟩, ⟨15, 25⟩, ⟨40, 50⟩] : List Span).length) - 2)) (⟨50, 50 + 10⟩ : Span)).fin))]), a22, (Value.int .i64 0)])) rfl (Step.move rfl) ?_
  refine WL.step (v := j21) rfl (Step.pure (by kernel_rfl)) ?_
  refine WL.step (v := (Value.agg #[(Value.int .i64 ((insN ((([⟨0, 15⟩, ⟨15, 25⟩, ⟨40, 50⟩] : List Span).drop 2).take ((([⟨0, 15⟩, ⟨15, 25⟩, ⟨40, 50⟩] : List Span).length) - 2)) (⟨50, 50 + 10⟩ : Span)).start)), (Value.int .i64 ((insN ((([⟨0, 15⟩, ⟨15, 25⟩, ⟨40, 50⟩] : List Span).drop 2).take ((([⟨0, 15⟩, ⟨15, 25⟩, ⟨40, 50⟩] : List Span).length) - 2)) (⟨50, 50 + 10⟩ : Span)).fin))])) rfl (Step.pure (by kernel_rfl)) ?_
  refine WL.step (v := a22) rfl (Step.pure (by kernel_rfl)) ?_
  refine WL.step (v := (Value.int .i64 0)) rfl (Step.pure (by kernel_rfl)) ?_
  refine WL.alloc (c := #[(Value.int .i64 0), (Value.int .i64 0)]) M rfl Try.el65.zero rfl (fun b28 w29 hb28 M => ?_)
  refine WL.step (v := j21) rfl (Step.assign rfl) ?_
  refine WL.store (v := (Value.agg #[(Value.int .i64 ((insN ((([⟨0, 15⟩, ⟨15, 25⟩, ⟨40, 50⟩] : List Span).drop 2).take ((([⟨0, 15⟩, ⟨15, 25⟩, ⟨40, 50⟩] : List Span).length) - 2)) (⟨50, 50 + 10⟩ : Span)).start)), (Value.int .i64 ((insN ((([⟨0, 15⟩, ⟨15, 25⟩, ⟨40, 50⟩] : List Span).drop 2).take ((([⟨0, 15⟩, ⟨15, 25⟩, ⟨40, 50⟩] : List Span).length) - 2)) (⟨50, 50 + 10⟩ : Span)).fin))])) (cs := [(Value.int .i64 ((insN ((([⟨0, 15⟩, ⟨15, 25⟩, ⟨40, 50⟩] : List Span).drop 2).take ((([⟨0, 15⟩, ⟨15, 25⟩, ⟨40, 50⟩] : List Span).length) - 2)) (⟨50, 50 + 10⟩ : Span)).start)), (Value.int .i64 ((insN ((([⟨0, 15⟩, ⟨15, 25⟩, ⟨40, 50⟩] : List Span).drop 2).take ((([⟨0, 15⟩, ⟨15, 25⟩, ⟨40, 50⟩] : List Span).length) - 2)) (⟨50, 50 + 10⟩ : Span)).fin))]) (c' := #[(Value.int .i64 ((insN ((([⟨0, 15⟩, ⟨15, 25⟩, ⟨40, 50⟩] : List Span).drop 2).take ((([⟨0, 15⟩, ⟨15, 25⟩, ⟨40, 50⟩] : List Span).length) - 2)) (⟨50, 50 + 10⟩ : Span)).start)), (Value.int .i64 ((insN ((([⟨0, 15⟩, ⟨15, 25⟩, ⟨40, 50⟩] : List Span).drop 2).take ((([⟨0, 15⟩, ⟨15, 25⟩, ⟨40, 50⟩] : List Span).length) - 2)) (⟨50, 50 + 10⟩ : Span)).fin))]) M 0 rfl rfl Try.el65.sized rfl rfl rfl rfl (Nat.le_of_ble_eq_true rfl) (cel_cons rfl (cel_cons rfl cel_nil)) rfl rfl (fun w30 M => ?_)
  refine WL.step (v := a22) rfl (Step.assign rfl) ?_
  refine WL.step (v := (Value.int .i64 0)) rfl (Step.assign rfl) ?_
  refine WL.nil ?_
  refine W.seq' ?_
  refine W.region rfl ?_
  refine WL.step (v := (Value.int .i64 0)) rfl (Step.move rfl) ?_
  refine WL.step (v := (Value.bool true)) rfl (Step.pure (by kernel_rfl)) ?_
  refine WL.step (v := (Value.bool true)) rfl (Step.move rfl) ?_
  refine WL.step (v := j11) rfl (Step.move rfl) ?_
  refine WL.step (v := (Value.int .i64 (↑((insJ (([⟨0, 15⟩, ⟨15, 25⟩, ⟨40, 50⟩] : List Span).take 2) (⟨14, 14 + 10⟩ : Span)).length)))) rfl (Step.lenSl Try.un58 rfl (own_slAt (M.chunk 4 rfl).inv)) ?_
  refine WL.step (v := (Value.bool true)) rfl (Step.cast (congrArg Value.bool (show ((↑((insJ (([⟨0, 15⟩, ⟨15, 25⟩, ⟨40, 50⟩] : List Span).take 2) (⟨14, 14 + 10⟩ : Span)).length) : Int) == (2 : Int)) = true by rfl)) (Step.pure (by kernel_rfl))) ?_
  refine WL.step (v := (Value.bool true)) rfl (Step.pick (t := true) rfl rfl) ?_
  refine WL.step (v := (Value.bool true)) rfl (Step.move rfl) ?_
  refine WL.step (v := (Value.agg #[(Value.int .i64 ((insN (([⟨0, 15⟩, ⟨15, 25⟩, ⟨40, 50⟩] : List Span).take 2) (⟨14, 14 + 10⟩ : Span)).start)), (Value.int .i64 ((insN (([⟨0, 15⟩, ⟨15, 25⟩, ⟨40, 50⟩] : List Span).take 2) (⟨14, 14 + 10⟩ : Span)).fin))])) rfl (Step.loadN Try.ag65 rfl (M.blk 3 rfl) (Nat.le_of_ble_eq_true rfl) rfl) ?_
  refine WL.step (v := (Value.agg #[(Value.int .i64 0), (Value.int .i64 25)])) rfl (Step.pure (by kernel_rfl)) ?_
  refine WL.step (v := (Value.bool true)) rfl (Step.cast (congrArg Value.bool (show (decide ((insN (([⟨0, 15⟩, ⟨15, 25⟩, ⟨40, 50⟩] : List Span).take 2) (⟨14, 14 + 10⟩ : Span)) = (⟨0, 25⟩ : Span))) = true by rfl)) (Step.cast (congrArg Value.bool (span_eqB (insN (([⟨0, 15⟩, ⟨15, 25⟩, ⟨40, 50⟩] : List Span).take 2) (⟨14, 14 + 10⟩ : Span)) (⟨0, 25⟩ : Span))) (Step.eqAgg Try.eg65 rfl rfl rfl (Try.eq65 9998 ((insN (([⟨0, 15⟩, ⟨15, 25⟩, ⟨40, 50⟩] : List Span).take 2) (⟨14, 14 + 10⟩ : Span)).start : Int) ((insN (([⟨0, 15⟩, ⟨15, 25⟩, ⟨40, 50⟩] : List Span).take 2) (⟨14, 14 + 10⟩ : Span)).fin : Int) (0 : Int) (25 : Int))))) ?_
  refine WL.step (v := (Value.bool true)) rfl (Step.pick (t := true) rfl rfl) ?_
  refine WL.step (v := (Value.bool true)) rfl (Step.move rfl) ?_
  refine WL.step (v := a12) rfl (Step.move rfl) ?_
  refine WL.step (v := (Value.agg #[(Value.int .i64 0), (Value.int .i64 25)])) rfl (Step.pure (by kernel_rfl)) ?_
  refine WL.new (obj := .cells #[(Value.int .i64 0), (Value.int .i64 25)] 62) (fun b => .slice (some ⟨b, 0, none⟩) 1 1) M rfl (fun w => Step.make (by kernel_rfl)) (fun b31 w32 hb31 M => ?_)
  refine WL.callX rfl (law17_same a12 (insA (([⟨0, 15⟩, ⟨15, 25⟩, ⟨40, 50⟩] : List Span).take 2) (⟨14, 14 + 10⟩ : Span)) (Value.slice (some ⟨b31, 0, none⟩) 1 1) ([(⟨0, 25⟩ : Span)] : List Span) (M.enterW0 ⟨((M.wideC0 6 rfl).imp fun _ h => own_slAt h), ((M.wideC0 0 rfl).imp fun _ h => SlAt.of_blk (n := 1) (size := 2) h rfl (by decide)), trivial⟩)) (CallsF.func Try.en33 rfl) ?_
  rintro _ w33 ⟨rfl, m⟩
  replace M := M.leaveW0 m
  clear m
  replace M : Mem _ _ _ [blk b31 (.cells #[(Value.int .i64 0), (Value.int .i64 25)] 62), blk b28 (.cells #[(Value.int .i64 ((insN ((([⟨0, 15⟩, ⟨15, 25⟩, ⟨40, 50⟩] : List Span).drop 2).take ((([⟨0, 15⟩, ⟨15, 25⟩, ⟨40, 50⟩] : List Span).length) - 2)) (⟨50, 50 + 10⟩ : Span)).start)), (Value.int .i64 ((insN ((([⟨0, 15⟩, ⟨15, 25⟩, ⟨40, 50⟩] : List Span).drop 2).take ((([⟨0, 15⟩, ⟨15, 25⟩, ⟨40, 50⟩] : List Span).length) - 2)) (⟨50, 50 + 10⟩ : Span)).fin))] 65), own 65 2 j21 ((insJ ((([⟨0, 15⟩, ⟨15, 25⟩, ⟨40, 50⟩] : List Span).drop 2).take ((([⟨0, 15⟩, ⟨15, 25⟩, ⟨40, 50⟩] : List Span).length) - 2)) (⟨50, 50 + 10⟩ : Span)).length) ((insJ ((([⟨0, 15⟩, ⟨15, 25⟩, ⟨40, 50⟩] : List Span).drop 2).take ((([⟨0, 15⟩, ⟨15, 25⟩, ⟨40, 50⟩] : List Span).length) - 2)) (⟨50, 50 + 10⟩ : Span)).flatMap spanE), own 65 2 a22 ((insA ((([⟨0, 15⟩, ⟨15, 25⟩, ⟨40, 50⟩] : List Span).drop 2).take ((([⟨0, 15⟩, ⟨15, 25⟩, ⟨40, 50⟩] : List Span).length) - 2)) (⟨50, 50 + 10⟩ : Span)).length) ((insA ((([⟨0, 15⟩, ⟨15, 25⟩, ⟨40, 50⟩] : List Span).drop 2).take ((([⟨0, 15⟩, ⟨15, 25⟩, ⟨40, 50⟩] : List Span).length) - 2)) (⟨50, 50 + 10⟩ : Span)).flatMap spanE), blk b18 (.cells #[(Value.int .i64 ((insN (([⟨0, 15⟩, ⟨15, 25⟩, ⟨40, 50⟩] : List Span).take 2) (⟨14, 14 + 10⟩ : Span)).start)), (Value.int .i64 ((insN (([⟨0, 15⟩, ⟨15, 25⟩, ⟨40, 50⟩] : List Span).take 2) (⟨14, 14 + 10⟩ : Span)).fin))] 65), own 65 2 j11 ((insJ (([⟨0, 15⟩, ⟨15, 25⟩, ⟨40, 50⟩] : List Span).take 2) (⟨14, 14 + 10⟩ : Span)).length) ((insJ (([⟨0, 15⟩, ⟨15, 25⟩, ⟨40, 50⟩] : List Span).take 2) (⟨14, 14 + 10⟩ : Span)).flatMap spanE), own 65 2 a12 ((insA (([⟨0, 15⟩, ⟨15, 25⟩, ⟨40, 50⟩] : List Span).take 2) (⟨14, 14 + 10⟩ : Span)).length) ((insA (([⟨0, 15⟩, ⟨15, 25⟩, ⟨40, 50⟩] : List Span).take 2) (⟨14, 14 + 10⟩ : Span)).flatMap spanE), blk b7 (.cells #[(Value.int .i64 0), (Value.int .i64 15), (Value.int .i64 15), (Value.int .i64 25), (Value.int .i64 40), (Value.int .i64 50)] 62), own 65 2 v3 (([⟨0, 15⟩, ⟨15, 25⟩, ⟨40, 50⟩] : List Span).length) (([⟨0, 15⟩, ⟨15, 25⟩, ⟨40, 50⟩] : List Span).flatMap spanE), blk b1 (.cells #[(Value.int .i64 0), (Value.int .i64 5), (Value.int .i64 15), (Value.int .i64 40)] 2)] [] _ := M
  rw [(show (decide ((insA (([⟨0, 15⟩, ⟨15, 25⟩, ⟨40, 50⟩] : List Span).take 2) (⟨14, 14 + 10⟩ : Span)) = ([(⟨0, 25⟩ : Span)] : List Span))) = true by rfl)]
  refine WL.step (v := (Value.bool true)) rfl (Step.pick (t := true) rfl rfl) ?_
  refine WL.step (v := (Value.bool true)) rfl (Step.move rfl) ?_
  refine WL.step (v := (Value.int .i64 0)) rfl (Step.move rfl) ?_
  refine WL.step (v := (Value.bool true)) rfl (Step.pure (by kernel_rfl)) ?_
  refine WL.step (v := (Value.bool true)) rfl (Step.pick (t := true) rfl rfl) ?_
  refine WL.step (v := (Value.bool true)) rfl (Step.move rfl) ?_
  refine WL.step (v := j21) rfl (Step.move rfl) ?_
  refine WL.step (v := (Value.int .i64 (↑((insJ ((([⟨0, 15⟩, ⟨15, 25⟩, ⟨40, 50⟩] : List Span).drop 2).take ((([⟨0, 15⟩, ⟨15, 25⟩, ⟨40, 50⟩] : List Span).length) - 2)) (⟨50, 50 + 10⟩ : Span)).length)))) rfl (Step.lenSl Try.un58 rfl (own_slAt (M.chunk 2 rfl).inv)) ?_
  refine WL.step (v := (Value.bool true)) rfl (Step.cast (congrArg Value.bool (show ((↑((insJ ((([⟨0, 15⟩, ⟨15, 25⟩, ⟨40, 50⟩] : List Span).drop 2).take ((([⟨0, 15⟩, ⟨15, 25⟩, ⟨40, 50⟩] : List Span).length) - 2)) (⟨50, 50 + 10⟩ : Span)).length) : Int) == (0 : Int)) = true by rfl)) (Step.pure (by kernel_rfl))) ?_
  refine WL.step (v := (Value.bool true)) rfl (Step.pick (t := true) rfl rfl) ?_
  refine WL.step (v := (Value.bool true)) rfl (Step.move rfl) ?_
  refine WL.step (v := (Value.agg #[(Value.int .i64 ((insN ((([⟨0, 15⟩, ⟨15, 25⟩, ⟨40, 50⟩] : List Span).drop 2).take ((([⟨0, 15⟩, ⟨15, 25⟩, ⟨40, 50⟩] : List Span).length) - 2)) (⟨50, 50 + 10⟩ : Span)).start)), (Value.int .i64 ((insN ((([⟨0, 15⟩, ⟨15, 25⟩, ⟨40, 50⟩] : List Span).drop 2).take ((([⟨0, 15⟩, ⟨15, 25⟩, ⟨40, 50⟩] : List Span).length) - 2)) (⟨50, 50 + 10⟩ : Span)).fin))])) rfl (Step.loadN Try.ag65 rfl (M.blk 1 rfl) (Nat.le_of_ble_eq_true rfl) rfl) ?_
  refine WL.step (v := (Value.agg #[(Value.int .i64 50), (Value.int .i64 60)])) rfl (Step.pure (by kernel_rfl)) ?_
  refine WL.step (v := (Value.bool true)) rfl (Step.cast (congrArg Value.bool (show (decide ((insN ((([⟨0, 15⟩, ⟨15, 25⟩, ⟨40, 50⟩] : List Span).drop 2).take ((([⟨0, 15⟩, ⟨15, 25⟩, ⟨40, 50⟩] : List Span).length) - 2)) (⟨50, 50 + 10⟩ : Span)) = (⟨50, 60⟩ : Span))) = true by rfl)) (Step.cast (congrArg Value.bool (span_eqB (insN ((([⟨0, 15⟩, ⟨15, 25⟩, ⟨40, 50⟩] : List Span).drop 2).take ((([⟨0, 15⟩, ⟨15, 25⟩, ⟨40, 50⟩] : List Span).length) - 2)) (⟨50, 50 + 10⟩ : Span)) (⟨50, 60⟩ : Span))) (Step.eqAgg Try.eg65 rfl rfl rfl (Try.eq65 9998 ((insN ((([⟨0, 15⟩, ⟨15, 25⟩, ⟨40, 50⟩] : List Span).drop 2).take ((([⟨0, 15⟩, ⟨15, 25⟩, ⟨40, 50⟩] : List Span).length) - 2)) (⟨50, 50 + 10⟩ : Span)).start : Int) ((insN ((([⟨0, 15⟩, ⟨15, 25⟩, ⟨40, 50⟩] : List Span).drop 2).take ((([⟨0, 15⟩, ⟨15, 25⟩, ⟨40, 50⟩] : List Span).length) - 2)) (⟨50, 50 + 10⟩ : Span)).fin : Int) (50 : Int) (60 : Int))))) ?_
  refine WL.step (v := (Value.bool true)) rfl (Step.pick (t := true) rfl rfl) ?_
  refine WL.step (v := (Value.bool true)) rfl (Step.move rfl) ?_
  refine WL.step (v := a22) rfl (Step.move rfl) ?_
  refine WL.step (v := (Value.int .i64 (↑((insA ((([⟨0, 15⟩, ⟨15, 25⟩, ⟨40, 50⟩] : List Span).drop 2).take ((([⟨0, 15⟩, ⟨15, 25⟩, ⟨40, 50⟩] : List Span).length) - 2)) (⟨50, 50 + 10⟩ : Span)).length)))) rfl (Step.lenSl Try.un58 rfl (own_slAt (M.chunk 3 rfl).inv)) ?_
  refine WL.step (v := (Value.bool true)) rfl (Step.cast (congrArg Value.bool (show ((↑((insA ((([⟨0, 15⟩, ⟨15, 25⟩, ⟨40, 50⟩] : List Span).drop 2).take ((([⟨0, 15⟩, ⟨15, 25⟩, ⟨40, 50⟩] : List Span).length) - 2)) (⟨50, 50 + 10⟩ : Span)).length) : Int) == (2 : Int)) = true by rfl)) (Step.pure (by kernel_rfl))) ?_
  refine WL.step (v := (Value.bool true)) rfl (Step.pick (t := true) rfl rfl) ?_
  refine WL.step (v := (Value.bool true)) rfl (Step.assign rfl) ?_
  refine WL.nil ?_
  refine W.ret ?_
  refine ⟨.inl rfl, (Value.bool true), ?_, ?_⟩
  · exact ⟨rfl, (Res.r1 (show RV _ _ _ (.tmp 0) (Value.bool true) from by exact rfl))⟩
  refine ⟨?_, M.close [] rfl (by decide) trivial⟩
  rfl
end Go.Proofs
