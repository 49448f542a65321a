/- Walks. -/
import Derived.Test.YthihknbbibgchaaTrT10
set_option maxRecDepth 100000
set_option linter.all false
namespace Go.Proofs
open Go Tp
theorem Try.en29 : Enters Try.prog 29 := fun _ _ => by kernel_rfl
theorem Try.en30 : Enters Try.prog 30 := fun _ _ => by kernel_rfl
theorem Try.en31 : Enters Try.prog 31 := fun _ _ => by kernel_rfl
theorem Try.en34 : Enters Try.prog 34 := fun _ _ => by kernel_rfl
theorem Try.en36 : Enters Try.prog 36 := fun _ _ => by kernel_rfl
theorem Try.en37 : Enters Try.prog 37 := fun _ _ => by kernel_rfl

theorem law17_inserts {G : Nat → Prop} {w : World} (gap : Int) (t : Int) (lv : Value) (l : List Span)  (hin : ∀ s, s ∈ l → in64 s.start ∧ in64 s.fin) (hg : in64 gap) (M : Mem G (fun _ => False) w [] [SlAt 2 lv l.length (l.flatMap spanE)] w) : Rets Try.prog 7 #[(Value.int .i64 gap), (Value.int .i64 t), lv] w fun r w' => r = (Value.bool true) ∧ Mem G (fun _ => False) w [] [] w' := by
  refine Rets.enter 102 _ Try.func7 rfl Try.ntmps7 Try.results7 (by simp) ?_
  have hle1 := SlAt.le' (M.rep 0 rfl)
  have sl2 : IsSl lv := SlAt.isSl (Mem.rep M 0 rfl)
  refine W.seq' ?_
  refine W.region rfl ?_
  refine WL.step (v := (Value.bool false)) rfl (Step.assign rfl) ?_
  refine WL.nil ?_
  refine W.seq' ?_
  refine W.seq' ?_
  refine W.region rfl ?_
  refine WL.step (v := lv) rfl (Step.move rfl) ?_
  refine WL.step (v := (Value.int .i64 ↑l.length)) rfl (Step.lenSl Try.un58 rfl (M.rep 0 rfl)) ?_
  refine WL.step (v := (Value.bool (decide ((↑l.length : Int) > (24 : Int))))) rfl (Step.pure (by kernel_rfl)) ?_
  refine WL.nil ?_
  refine W.cond (t := decide ((↑l.length : Int) > (24 : Int))) rfl (fun h3 => ?_) (fun h3 => ?_)
  ·
    have h3p := of_decide_eq_true h3
    refine W.seq' ?_
    refine W.region rfl ?_
    refine WL.callX rfl (law17_works  (M.enterW0 trivial)) (CallsF.func Try.en29 rfl) ?_
    rintro _ w4 ⟨rfl, m⟩
    replace M := M.leaveW0 m
    clear m
    replace M : Mem _ _ _ [] [SlAt 2 lv l.length (l.flatMap spanE)] _ := M
    refine WL.step (v := (Value.bool true)) rfl (Step.assign rfl) ?_
    refine WL.nil ?_
    refine W.ret ?_
    refine ⟨.inl rfl, (Value.bool true), ?_, ?_⟩
    · exact ⟨rfl, (Res.r1 (show RV _ _ _ (.tmp 6) (Value.bool true) from by exact rfl))⟩
    refine ⟨?_, M.close [] rfl (by decide) trivial⟩
    rfl
  ·
    have h3p := of_decide_eq_false h3
    refine W.skip ?_
    refine W.seq' ?_
    refine W.region rfl ?_
    refine WL.step (v := lv) rfl (Step.move rfl) ?_
    refine WL.callX rfl (law17_refs lv l (by first | omega | assumption | decide | (simp only [List.length_nil, List.length_cons, List.length_take, List.length_drop]; omega)) (M.enterW0 ⟨(M.wideR0 0 rfl), trivial⟩)) (CallsF.func Try.en30 rfl) ?_
    rintro v5 w6 ⟨_, rfl, m⟩
    replace M := M.leaveW0 m
    clear m
    replace M : Mem _ _ _ [own 62 2 v5 l.length (l.flatMap spanE)] [SlAt 2 lv l.length (l.flatMap spanE)] _ := M
    have sl7 : IsSl v5 := SlAt.isSl (own_slAt (Mem.chunk M 0 rfl).inv)
    have hle8 := SlAt.le' (own_slAt (Mem.chunk M 0 rfl).inv)
    refine WL.step (v := v5) rfl (Step.assign rfl) ?_
    refine WL.nil ?_
    refine W.seq' ?_
    refine W.region rfl ?_
    refine WL.step (v := (Value.int .i64 gap)) rfl (Step.move rfl) ?_
    refine WL.step (v := (Value.int .i64 t)) rfl (Step.move rfl) ?_
    refine WL.step (v := v5) rfl (Step.move rfl) ?_
    rcases Bool.eq_false_or_eq_true (okI gap t l) with h9 | h9
    ·
      refine WL.callX rfl (ref17_ins gap t v5 l (by first | omega | assumption | decide | (simp only [List.length_nil, List.length_cons, List.length_take, List.length_drop]; omega)) (by first | assumption | decide) h9 (M.enterW0 ⟨((M.wideC0 0 rfl).imp fun _ h => own_slAt h), trivial⟩)) (CallsF.func Try.en31 rfl) ?_
      rintro _ w12 ⟨j10, a11, rfl, m⟩
      replace M := M.leaveW0 m
      clear m
      replace M : Mem _ _ _ [own 62 2 j10 ((insJ l (⟨t, t + gap⟩ : Span)).length) ((insJ l (⟨t, t + gap⟩ : Span)).flatMap spanE), own 62 2 a11 ((insA l (⟨t, t + gap⟩ : Span)).length) ((insA l (⟨t, t + gap⟩ : Span)).flatMap spanE), own 62 2 v5 l.length (l.flatMap spanE)] [SlAt 2 lv l.length (l.flatMap spanE)] _ := M
      have sl13 : IsSl j10 := SlAt.isSl (own_slAt (Mem.chunk M 0 rfl).inv)
      have hle14 := SlAt.le' (own_slAt (Mem.chunk M 0 rfl).inv)
      have sl15 : IsSl a11 := SlAt.isSl (own_slAt (Mem.chunk M 1 rfl).inv)
      have hle16 := SlAt.le' (own_slAt (Mem.chunk M 1 rfl).inv)
      refine WL.step (v := (Value.tuple #[j10, (Value.agg #[(Value.int .i64 ((insN l (⟨t, t + gap⟩ : Span)).start)), (Value.int .i64 ((insN l (⟨t, t + gap⟩ : Span)).fin))]), a11, (Value.int .i64 0)])) rfl (Step.move rfl) ?_
      refine WL.step (v := j10) rfl (Step.pure (by kernel_rfl)) ?_
      refine WL.step (v := (Value.agg #[(Value.int .i64 ((insN l (⟨t, t + gap⟩ : Span)).start)), (Value.int .i64 ((insN l (⟨t, t + gap⟩ : Span)).fin))])) rfl (Step.pure (by kernel_rfl)) ?_
      refine WL.step (v := a11) rfl (Step.pure (by kernel_rfl)) ?_
      refine WL.step (v := (Value.int .i64 0)) rfl (Step.pure (by kernel_rfl)) ?_
      refine WL.alloc (c := #[(Value.int .i64 0), (Value.int .i64 0)]) M rfl Try.el62.zero rfl (fun b17 w18 hb17 M => ?_)
      refine WL.step (v := j10) rfl (Step.assign rfl) ?_
      refine WL.store (v := (Value.agg #[(Value.int .i64 ((insN l (⟨t, t + gap⟩ : Span)).start)), (Value.int .i64 ((insN l (⟨t, t + gap⟩ : Span)).fin))])) (cs := [(Value.int .i64 ((insN l (⟨t, t + gap⟩ : Span)).start)), (Value.int .i64 ((insN l (⟨t, t + gap⟩ : Span)).fin))]) (c' := #[(Value.int .i64 ((insN l (⟨t, t + gap⟩ : Span)).start)), (Value.int .i64 ((insN l (⟨t, t + gap⟩ : Span)).fin))]) M 0 rfl rfl Try.el62.sized rfl rfl rfl rfl (Nat.le_of_ble_eq_true rfl) (cel_cons rfl (cel_cons rfl cel_nil)) rfl rfl (fun w19 M => ?_)
      refine WL.step (v := a11) rfl (Step.assign rfl) ?_
      refine WL.step (v := (Value.int .i64 0)) rfl (Step.assign rfl) ?_
      refine WL.nil ?_
      refine W.seq' ?_
      refine W.seq' ?_
      refine W.region rfl ?_
      refine WL.step (v := (Value.int .i64 0)) rfl (Step.assign rfl) ?_
      refine WL.nil ?_
      refine W.block ?_
      refine W.loop (fun kk ρ w' => ∃ (r_ : Nat), ((r_ ≤ 2) ∧ kk = 2 - r_) ∧ ρ.has [(0, (Value.int .i64 gap)), (1, (Value.int .i64 t)), (2, lv), (7, v5), (8, j10), (9, (Value.pointer (some ⟨b17, 0, none⟩))), (10, a11), (11, (Value.int .i64 0)), (12, (Value.int .i64 ↑r_))] ∧ Mem G (fun _ => False) w [blk b17 (.cells #[(Value.int .i64 ((insN l (⟨t, t + gap⟩ : Span)).start)), (Value.int .i64 ((insN l (⟨t, t + gap⟩ : Span)).fin))] 62), own 62 2 j10 ((insJ l (⟨t, t + gap⟩ : Span)).length) ((insJ l (⟨t, t + gap⟩ : Span)).flatMap spanE), own 62 2 a11 ((insA l (⟨t, t + gap⟩ : Span)).length) ((insA l (⟨t, t + gap⟩ : Span)).flatMap spanE), own 62 2 v5 l.length (l.flatMap spanE)] [SlAt 2 lv l.length (l.flatMap spanE)]  w') _ ⟨0, ⟨(by omega), rfl⟩, ⟨rfl, rfl, rfl, rfl, rfl, rfl, rfl, rfl, rfl, rfl, rfl⟩, M⟩ ?_
      rintro _ ρ21 w20 ⟨r_, ⟨hi22, rfl⟩, hρ, M⟩
      obtain ⟨ρ21, rfl⟩ := hρ.know
      clear hρ
      refine W.seq' ?_
      refine W.seq' ?_
      refine W.region rfl ?_
      refine WL.step (v := (Value.int .i64 ↑r_)) rfl (Step.move rfl) ?_
      refine WL.step (v := (Value.bool (decide ((↑r_ : Int) < (2 : Int))))) rfl (Step.pure (by kernel_rfl)) ?_
      refine WL.nil ?_
      refine W.cond (t := decide ((↑r_ : Int) < (2 : Int))) rfl (fun h23 => ?_) (fun h23 => ?_)
      ·
        have h23p := of_decide_eq_true h23
        refine W.skip ?_
        refine W.seq' ?_
        refine W.block ?_
        refine W.seq' ?_
        refine W.region rfl ?_
        refine WL.step (v := (Value.int .i64 gap)) rfl (Step.move rfl) ?_
        refine WL.step (v := (Value.int .i64 t)) rfl (Step.move rfl) ?_
        refine WL.step (v := lv) rfl (Step.move rfl) ?_
        refine WL.callX rfl (ses_ins gap t lv l (by first | omega | assumption | decide | (simp only [List.length_nil, List.length_cons, List.length_take, List.length_drop]; omega)) (by first | assumption | decide) h9 (M.enterW0 ⟨(M.wideR0 0 rfl), trivial⟩)) (CallsF.func Try.en32 rfl) ?_
        rintro _ w26 ⟨j24, a25, rfl, m⟩
        replace M := M.leaveW0 m
        clear m
        replace M : Mem _ _ _ [own 65 2 j24 ((insJ l (⟨t, t + gap⟩ : Span)).length) ((insJ l (⟨t, t + gap⟩ : Span)).flatMap spanE), own 65 2 a25 ((insA l (⟨t, t + gap⟩ : Span)).length) ((insA l (⟨t, t + gap⟩ : Span)).flatMap spanE), blk b17 (.cells #[(Value.int .i64 ((insN l (⟨t, t + gap⟩ : Span)).start)), (Value.int .i64 ((insN l (⟨t, t + gap⟩ : Span)).fin))] 62), own 62 2 j10 ((insJ l (⟨t, t + gap⟩ : Span)).length) ((insJ l (⟨t, t + gap⟩ : Span)).flatMap spanE), own 62 2 a11 ((insA l (⟨t, t + gap⟩ : Span)).length) ((insA l (⟨t, t + gap⟩ : Span)).flatMap spanE), own 62 2 v5 l.length (l.flatMap spanE)] [SlAt 2 lv l.length (l.flatMap spanE)] _ := M
        have sl27 : IsSl j24 := SlAt.isSl (own_slAt (Mem.chunk M 0 rfl).inv)
        have hle28 := SlAt.le' (own_slAt (Mem.chunk M 0 rfl).inv)
        have sl29 : IsSl a25 := SlAt.isSl (own_slAt (Mem.chunk M 1 rfl).inv)
        have hle30 := SlAt.le' (own_slAt (Mem.chunk M 1 rfl).inv)
        refine WL.step (v := (Value.tuple #[j24, (Value.agg #[(Value.int .i64 ((insN l (⟨t, t + gap⟩ : Span)).start)), (Value.int .i64 ((insN l (⟨t, t + gap⟩ : Span)).fin))]), a25, (Value.int .i64 0)])) rfl (Step.move rfl) ?_
        refine WL.step (v := j24) rfl (Step.pure (by kernel_rfl)) ?_
        refine WL.step (v := (Value.agg #[(Value.int .i64 ((insN l (⟨t, t + gap⟩ : Span)).start)), (Value.int .i64 ((insN l (⟨t, t + gap⟩ : Span)).fin))])) rfl (Step.pure (by kernel_rfl)) ?_
        refine WL.step (v := a25) rfl (Step.pure (by kernel_rfl)) ?_
        refine WL.step (v := (Value.int .i64 0)) rfl (Step.pure (by kernel_rfl)) ?_
        refine WL.alloc (c := #[(Value.int .i64 0), (Value.int .i64 0)]) M rfl Try.el65.zero rfl (fun b31 w32 hb31 M => ?_)
        refine WL.step (v := j24) rfl (Step.assign rfl) ?_
        refine WL.store (v := (Value.agg #[(Value.int .i64 ((insN l (⟨t, t + gap⟩ : Span)).start)), (Value.int .i64 ((insN l (⟨t, t + gap⟩ : Span)).fin))])) (cs := [(Value.int .i64 ((insN l (⟨t, t + gap⟩ : Span)).start)), (Value.int .i64 ((insN l (⟨t, t + gap⟩ : Span)).fin))]) (c' := #[(Value.int .i64 ((insN l (⟨t, t + gap⟩ : Span)).start)), (Value.int .i64 ((insN l (⟨t, t + gap⟩ : Span)).fin))]) M 0 rfl rfl Try.el65.sized rfl rfl rfl rfl (Nat.le_of_ble_eq_true rfl) (cel_cons rfl (cel_cons rfl cel_nil)) rfl rfl (fun w33 M => ?_)
        refine WL.step (v := a25) rfl (Step.assign rfl) ?_
        refine WL.step (v := (Value.int .i64 0)) rfl (Step.assign rfl) ?_
        refine WL.nil ?_
        refine W.seq' ?_
        refine W.seq' ?_
        refine W.region rfl ?_
        refine WL.step (v := (Value.int .i64 0)) rfl (Step.move rfl) ?_
        refine WL.step (v := (Value.int .i64 0)) rfl (Step.move rfl) ?_
        refine WL.step (v := (Value.bool false)) rfl (Step.pure (by kernel_rfl)) ?_
        refine WL.step (v := (Value.bool false)) rfl (Step.move rfl) ?_
        refine WL.step (v := j24) rfl (Step.move rfl) ?_
        refine WL.step (v := j10) rfl (Step.move rfl) ?_
        refine WL.callX rfl (law17_same j24 (insJ l (⟨t, t + gap⟩ : Span)) j10 (insJ l (⟨t, t + gap⟩ : Span)) (M.enterW0 ⟨((M.wideC0 1 rfl).imp fun _ h => own_slAt h), ((M.wideC0 4 rfl).imp fun _ h => own_slAt h), trivial⟩)) (CallsF.func Try.en33 rfl) ?_
        rintro _ w34 ⟨rfl, m⟩
        replace M := M.leaveW0 m
        clear m
        replace M : Mem _ _ _ [blk b31 (.cells #[(Value.int .i64 ((insN l (⟨t, t + gap⟩ : Span)).start)), (Value.int .i64 ((insN l (⟨t, t + gap⟩ : Span)).fin))] 65), own 65 2 j24 ((insJ l (⟨t, t + gap⟩ : Span)).length) ((insJ l (⟨t, t + gap⟩ : Span)).flatMap spanE), own 65 2 a25 ((insA l (⟨t, t + gap⟩ : Span)).length) ((insA l (⟨t, t + gap⟩ : Span)).flatMap spanE), blk b17 (.cells #[(Value.int .i64 ((insN l (⟨t, t + gap⟩ : Span)).start)), (Value.int .i64 ((insN l (⟨t, t + gap⟩ : Span)).fin))] 62), own 62 2 j10 ((insJ l (⟨t, t + gap⟩ : Span)).length) ((insJ l (⟨t, t + gap⟩ : Span)).flatMap spanE), own 62 2 a11 ((insA l (⟨t, t + gap⟩ : Span)).length) ((insA l (⟨t, t + gap⟩ : Span)).flatMap spanE), own 62 2 v5 l.length (l.flatMap spanE)] [SlAt 2 lv l.length (l.flatMap spanE)] _ := M
        rw [(show (decide ((insJ l (⟨t, t + gap⟩ : Span)) = (insJ l (⟨t, t + gap⟩ : Span)))) = true by simp)]
        refine WL.step (v := (Value.bool false)) rfl (Step.pure (by kernel_rfl)) ?_
        refine WL.step (v := (Value.bool false)) rfl (Step.pick (t := false) rfl rfl) ?_
        refine WL.step (v := (Value.bool false)) rfl (Step.move rfl) ?_
        refine WL.step (v := (Value.pointer (some ⟨b31, 0, none⟩))) rfl (Step.pure (by kernel_rfl)) ?_
        refine WL.step (v := (Value.int .i64 ((insN l (⟨t, t + gap⟩ : Span)).start))) rfl (Step.load1 Try.sc2 rfl ((M.cell 0 rfl 0).trans rfl)) ?_
        refine WL.step (v := (Value.pointer (some ⟨b17, 0, none⟩))) rfl (Step.pure (by kernel_rfl)) ?_
        refine WL.step (v := (Value.int .i64 ((insN l (⟨t, t + gap⟩ : Span)).start))) rfl (Step.load1 Try.sc2 rfl ((M.cell 3 rfl 0).trans rfl)) ?_
        refine WL.step (v := (Value.bool false)) rfl (Step.cast (congrArg Value.bool (show (((insN l (⟨t, t + gap⟩ : Span)).start : Int) != ((insN l (⟨t, t + gap⟩ : Span)).start : Int)) = false by simp)) (Step.pure (by kernel_rfl))) ?_
        refine WL.step (v := (Value.bool false)) rfl (Step.pick (t := false) rfl rfl) ?_
        refine WL.step (v := (Value.bool false)) rfl (Step.move rfl) ?_
        refine WL.step (v := (Value.pointer (some ⟨b31, 1, none⟩))) rfl (Step.pure (by kernel_rfl)) ?_
        refine WL.step (v := (Value.int .i64 ((insN l (⟨t, t + gap⟩ : Span)).fin))) rfl (Step.load1 Try.sc2 rfl ((M.cell 0 rfl 1).trans rfl)) ?_
        refine WL.step (v := (Value.pointer (some ⟨b17, 1, none⟩))) rfl (Step.pure (by kernel_rfl)) ?_
        refine WL.step (v := (Value.int .i64 ((insN l (⟨t, t + gap⟩ : Span)).fin))) rfl (Step.load1 Try.sc2 rfl ((M.cell 3 rfl 1).trans rfl)) ?_
        refine WL.step (v := (Value.bool false)) rfl (Step.cast (congrArg Value.bool (show (((insN l (⟨t, t + gap⟩ : Span)).fin : Int) != ((insN l (⟨t, t + gap⟩ : Span)).fin : Int)) = false by simp)) (Step.pure (by kernel_rfl))) ?_
        refine WL.step (v := (Value.bool false)) rfl (Step.pick (t := false) rfl rfl) ?_
        refine WL.step (v := (Value.bool false)) rfl (Step.move rfl) ?_
        refine WL.step (v := a25) rfl (Step.move rfl) ?_
        refine WL.step (v := a11) rfl (Step.move rfl) ?_
        refine WL.callX rfl (law17_same a25 (insA l (⟨t, t + gap⟩ : Span)) a11 (insA l (⟨t, t + gap⟩ : Span)) (M.enterW0 ⟨((M.wideC0 2 rfl).imp fun _ h => own_slAt h), ((M.wideC0 5 rfl).imp fun _ h => own_slAt h), trivial⟩)) (CallsF.func Try.en33 rfl) ?_
        rintro _ w35 ⟨rfl, m⟩
        replace M := M.leaveW0 m
        clear m
        replace M : Mem _ _ _ [blk b31 (.cells #[(Value.int .i64 ((insN l (⟨t, t + gap⟩ : Span)).start)), (Value.int .i64 ((insN l (⟨t, t + gap⟩ : Span)).fin))] 65), own 65 2 j24 ((insJ l (⟨t, t + gap⟩ : Span)).length) ((insJ l (⟨t, t + gap⟩ : Span)).flatMap spanE), own 65 2 a25 ((insA l (⟨t, t + gap⟩ : Span)).length) ((insA l (⟨t, t + gap⟩ : Span)).flatMap spanE), blk b17 (.cells #[(Value.int .i64 ((insN l (⟨t, t + gap⟩ : Span)).start)), (Value.int .i64 ((insN l (⟨t, t + gap⟩ : Span)).fin))] 62), own 62 2 j10 ((insJ l (⟨t, t + gap⟩ : Span)).length) ((insJ l (⟨t, t + gap⟩ : Span)).flatMap spanE), own 62 2 a11 ((insA l (⟨t, t + gap⟩ : Span)).length) ((insA l (⟨t, t + gap⟩ : Span)).flatMap spanE), own 62 2 v5 l.length (l.flatMap spanE)] [SlAt 2 lv l.length (l.flatMap spanE)] _ := M
        rw [(show (decide ((insA l (⟨t, t + gap⟩ : Span)) = (insA l (⟨t, t + gap⟩ : Span)))) = true by simp)]
        refine WL.step (v := (Value.bool false)) rfl (Step.pure (by kernel_rfl)) ?_
        refine WL.step (v := (Value.bool false)) rfl (Step.pick (t := false) rfl rfl) ?_
        refine WL.nil ?_
        refine W.cond (t := false) rfl (fun h => by cases h) (fun _ => ?_)
        refine W.skip ?_
        refine W.seq' ?_
        refine W.seq' ?_
        refine W.region rfl ?_
        refine WL.step (v := (Value.int .i64 0)) rfl (Step.assign rfl) ?_
        refine WL.nil ?_
        refine W.block ?_
        replace M := M.sel (L' := [own 65 2 a25 ((insA l (⟨t, t + gap⟩ : Span)).length) ((insA l (⟨t, t + gap⟩ : Span)).flatMap spanE), blk b31 (.cells #[(Value.int .i64 ((insN l (⟨t, t + gap⟩ : Span)).start)), (Value.int .i64 ((insN l (⟨t, t + gap⟩ : Span)).fin))] 65), own 65 2 j24 ((insJ l (⟨t, t + gap⟩ : Span)).length) ((insJ l (⟨t, t + gap⟩ : Span)).flatMap spanE), blk b17 (.cells #[(Value.int .i64 ((insN l (⟨t, t + gap⟩ : Span)).start)), (Value.int .i64 ((insN l (⟨t, t + gap⟩ : Span)).fin))] 62), own 62 2 j10 ((insJ l (⟨t, t + gap⟩ : Span)).length) ((insJ l (⟨t, t + gap⟩ : Span)).flatMap spanE), own 62 2 a11 ((insA l (⟨t, t + gap⟩ : Span)).length) ((insA l (⟨t, t + gap⟩ : Span)).flatMap spanE), own 62 2 v5 l.length (l.flatMap spanE)]) [2, 0, 1, 3, 4, 5, 6] rfl (by decide)
        replace M : Mem _ _ _ [own 65 2 a25 ((insA l (⟨t, t + gap⟩ : Span)).length) ((insA l (⟨t, t + gap⟩ : Span)).flatMap spanE), blk b31 (.cells #[(Value.int .i64 ((insN l (⟨t, t + gap⟩ : Span)).start)), (Value.int .i64 ((insN l (⟨t, t + gap⟩ : Span)).fin))] 65), own 65 2 j24 ((insJ l (⟨t, t + gap⟩ : Span)).length) ((insJ l (⟨t, t + gap⟩ : Span)).flatMap spanE), blk b17 (.cells #[(Value.int .i64 ((insN l (⟨t, t + gap⟩ : Span)).start)), (Value.int .i64 ((insN l (⟨t, t + gap⟩ : Span)).fin))] 62), own 62 2 j10 ((insJ l (⟨t, t + gap⟩ : Span)).length) ((insJ l (⟨t, t + gap⟩ : Span)).flatMap spanE), own 62 2 a11 ((insA l (⟨t, t + gap⟩ : Span)).length) ((insA l (⟨t, t + gap⟩ : Span)).flatMap spanE), own 62 2 v5 l.length (l.flatMap spanE)] [SlAt 2 lv l.length (l.flatMap spanE)] _ := M
        refine W.loop (fun kk ρ w' => ∃ (p_ : Nat) (p_s : List Span), ((p_s.length = (insA l (⟨t, t + gap⟩ : Span)).length) ∧ (p_ ≤ (insA l (⟨t, t + gap⟩ : Span)).length) ∧ kk = (insA l (⟨t, t + gap⟩ : Span)).length - p_) ∧ ρ.has [(0, (Value.int .i64 gap)), (1, (Value.int .i64 t)), (2, lv), (7, v5), (8, j10), (9, (Value.pointer (some ⟨b17, 0, none⟩))), (10, a11), (11, (Value.int .i64 0)), (12, (Value.int .i64 ↑r_)), (13, j24), (14, (Value.pointer (some ⟨b31, 0, none⟩))), (15, a25), (16, (Value.int .i64 0)), (17, (Value.int .i64 ↑p_)), (34, (Value.int .i64 ↑r_)), (35, (Value.bool (decide ((↑r_ : Int) < (2 : Int))))), (38, (Value.tuple #[j24, (Value.agg #[(Value.int .i64 ((insN l (⟨t, t + gap⟩ : Span)).start)), (Value.int .i64 ((insN l (⟨t, t + gap⟩ : Span)).fin))]), a25, (Value.int .i64 0)])), (39, (Value.int .i64 gap)), (40, (Value.int .i64 t)), (41, lv), (42, (Value.tuple #[j24, (Value.agg #[(Value.int .i64 ((insN l (⟨t, t + gap⟩ : Span)).start)), (Value.int .i64 ((insN l (⟨t, t + gap⟩ : Span)).fin))]), a25, (Value.int .i64 0)])), (43, j24), (44, (Value.agg #[(Value.int .i64 ((insN l (⟨t, t + gap⟩ : Span)).start)), (Value.int .i64 ((insN l (⟨t, t + gap⟩ : Span)).fin))])), (45, a25), (46, (Value.int .i64 0)), (47, (Value.int .i64 0)), (48, (Value.int .i64 0)), (49, (Value.bool false)), (50, (Value.bool false)), (51, j24), (52, j10), (53, (Value.bool true)), (54, (Value.bool false)), (55, (Value.bool false)), (56, (Value.bool false)), (57, (Value.pointer (some ⟨b31, 0, none⟩))), (58, (Value.int .i64 ((insN l (⟨t, t + gap⟩ : Span)).start))), (59, (Value.pointer (some ⟨b17, 0, none⟩))), (60, (Value.int .i64 ((insN l (⟨t, t + gap⟩ : Span)).start))), (61, (Value.bool false)), (62, (Value.bool false)), (63, (Value.bool false)), (64, (Value.pointer (some ⟨b31, 1, none⟩))), (65, (Value.int .i64 ((insN l (⟨t, t + gap⟩ : Span)).fin))), (66, (Value.pointer (some ⟨b17, 1, none⟩))), (67, (Value.int .i64 ((insN l (⟨t, t + gap⟩ : Span)).fin))), (68, (Value.bool false)), (69, (Value.bool false)), (70, (Value.bool false)), (71, a25), (72, a11), (73, (Value.bool true)), (74, (Value.bool false)), (75, (Value.bool false))] ∧ Mem G (fun _ => False) w [own 65 2 a25 p_s.length (p_s.flatMap spanE), blk b31 (.cells #[(Value.int .i64 ((insN l (⟨t, t + gap⟩ : Span)).start)), (Value.int .i64 ((insN l (⟨t, t + gap⟩ : Span)).fin))] 65), own 65 2 j24 ((insJ l (⟨t, t + gap⟩ : Span)).length) ((insJ l (⟨t, t + gap⟩ : Span)).flatMap spanE), blk b17 (.cells #[(Value.int .i64 ((insN l (⟨t, t + gap⟩ : Span)).start)), (Value.int .i64 ((insN l (⟨t, t + gap⟩ : Span)).fin))] 62), own 62 2 j10 ((insJ l (⟨t, t + gap⟩ : Span)).length) ((insJ l (⟨t, t + gap⟩ : Span)).flatMap spanE), own 62 2 a11 ((insA l (⟨t, t + gap⟩ : Span)).length) ((insA l (⟨t, t + gap⟩ : Span)).flatMap spanE), own 62 2 v5 l.length (l.flatMap spanE)] [SlAt 2 lv l.length (l.flatMap spanE)]  w') _ ⟨0, (insA l (⟨t, t + gap⟩ : Span)), ⟨rfl, (Nat.zero_le _), rfl⟩, ⟨rfl, rfl, rfl, rfl, rfl, rfl, rfl, rfl, rfl, rfl, rfl, rfl, rfl, rfl, rfl, rfl, rfl, rfl, rfl, rfl, rfl, rfl, rfl, rfl, rfl, rfl, rfl, rfl, rfl, rfl, rfl, rfl, rfl, rfl, rfl, rfl, rfl, rfl, rfl, rfl, rfl, rfl, rfl, rfl, rfl, rfl, rfl, rfl, rfl, rfl, rfl, rfl, rfl, rfl, rfl, rfl⟩, M⟩ ?_
        rintro _ ρ37 w36 ⟨p_, p_s, ⟨hi38, hi39, rfl⟩, hρ, M⟩
        obtain ⟨ρ37, rfl⟩ := hρ.know
        clear hρ
        refine W.seq' ?_
        refine W.seq' ?_
        refine W.region rfl ?_
        refine WL.step (v := (Value.int .i64 ↑p_)) rfl (Step.move rfl) ?_
        refine WL.step (v := a25) rfl (Step.move rfl) ?_
        refine WL.step (v := (Value.int .i64 ↑p_s.length)) rfl (Step.lenSl Try.un58 rfl (own_slAt (M.chunk 0 rfl).inv)) ?_
        refine WL.step (v := (Value.bool (decide ((↑p_ : Int) < (↑p_s.length : Int))))) rfl (Step.pure (by kernel_rfl)) ?_
        refine WL.nil ?_
        refine W.cond (t := decide ((↑p_ : Int) < (↑p_s.length : Int))) rfl (fun h40 => ?_) (fun h40 => ?_)
        ·
          have h40p := of_decide_eq_true h40
          refine W.skip ?_
          refine W.seq' ?_
          refine W.block ?_
          refine W.region rfl ?_
          refine WL.step (v := a25) rfl (Step.move rfl) ?_
          refine WL.step (v := (Value.int .i64 ↑p_)) rfl (Step.move rfl) ?_
          refine WL.step (v := (Value.agg #[(Value.int .i64 0), (Value.int .i64 0)])) rfl (Step.pure (by kernel_rfl)) ?_
          obtain ⟨cap42, hb41⟩ := SlAt.base (own_slAt (M.chunk 0 rfl).inv) (by omega)
          refine WL.step (v := (Value.pointer (some ⟨(sBlk a25), sOff a25 + p_ * 2, none⟩))) rfl (Step.indexAddr (i := p_) (Try.un58).run Try.el65.sized rfl rfl (by omega) hb41 (by omega)) ?_
          refine WL.act rfl (M.storeF spanE_len (⟨0, 0⟩ : Span) 0 rfl Try.el65.sized rfl rfl rfl (cel_cons rfl (cel_cons rfl cel_nil)) (by first | omega | (simp only [List.length_set]; omega))) ?_
          rintro w43 ⟨M, -⟩
          replace M : Mem _ _ _ [own 65 2 a25 ((p_s.set p_ (⟨0, 0⟩ : Span)).length) ((p_s.set p_ (⟨0, 0⟩ : Span)).flatMap spanE), blk b31 (.cells #[(Value.int .i64 ((insN l (⟨t, t + gap⟩ : Span)).start)), (Value.int .i64 ((insN l (⟨t, t + gap⟩ : Span)).fin))] 65), own 65 2 j24 ((insJ l (⟨t, t + gap⟩ : Span)).length) ((insJ l (⟨t, t + gap⟩ : Span)).flatMap spanE), blk b17 (.cells #[(Value.int .i64 ((insN l (⟨t, t + gap⟩ : Span)).start)), (Value.int .i64 ((insN l (⟨t, t + gap⟩ : Span)).fin))] 62), own 62 2 j10 ((insJ l (⟨t, t + gap⟩ : Span)).length) ((insJ l (⟨t, t + gap⟩ : Span)).flatMap spanE), own 62 2 a11 ((insA l (⟨t, t + gap⟩ : Span)).length) ((insA l (⟨t, t + gap⟩ : Span)).flatMap spanE), own 62 2 v5 l.length (l.flatMap spanE)] [SlAt 2 lv l.length (l.flatMap spanE)] _ := M
          refine WL.nil ?_
          refine W.region rfl ?_
          refine WL.step (v := (Value.int .i64 ↑p_)) rfl (Step.move rfl) ?_
          refine WL.step (v := (Value.int .i64 (↑p_ + 1))) rfl (Step.add rfl rfl (wrap_i64 (by omega))) ?_
          refine WL.step (v := (Value.int .i64 (↑p_ + 1))) rfl (Step.assign rfl) ?_
          refine WL.nil ?_
          exact ⟨_, (by omega), p_ + 1, p_s.set p_ (⟨0, 0⟩ : Span), ⟨(by rw [List.length_set]; assumption), (by omega), rfl⟩, ⟨rfl, rfl, rfl, rfl, rfl, rfl, rfl, rfl, rfl, rfl, rfl, rfl, rfl, rfl, rfl, rfl, rfl, rfl, rfl, rfl, rfl, rfl, rfl, rfl, rfl, rfl, rfl, rfl, rfl, rfl, rfl, rfl, rfl, rfl, rfl, rfl, rfl, rfl, rfl, rfl, rfl, rfl, rfl, rfl, rfl, rfl, rfl, rfl, rfl, rfl, rfl, rfl, rfl, rfl, rfl, rfl⟩, M⟩
        ·
          have h40p := of_decide_eq_false h40
          refine W.exit ?_
          refine thn_exit ?_
          refine thn_exit ?_
          refine inBlk_hit ?_
          refine W.seq' ?_
          refine W.region rfl ?_
          refine WL.step (v := (Value.int .i64 0)) rfl (Step.assign rfl) ?_
          refine WL.nil ?_
          refine W.block ?_
          replace M := M.sel (L' := [own 65 2 j24 ((insJ l (⟨t, t + gap⟩ : Span)).length) ((insJ l (⟨t, t + gap⟩ : Span)).flatMap spanE), own 65 2 a25 p_s.length (p_s.flatMap spanE), blk b31 (.cells #[(Value.int .i64 ((insN l (⟨t, t + gap⟩ : Span)).start)), (Value.int .i64 ((insN l (⟨t, t + gap⟩ : Span)).fin))] 65), blk b17 (.cells #[(Value.int .i64 ((insN l (⟨t, t + gap⟩ : Span)).start)), (Value.int .i64 ((insN l (⟨t, t + gap⟩ : Span)).fin))] 62), own 62 2 j10 ((insJ l (⟨t, t + gap⟩ : Span)).length) ((insJ l (⟨t, t + gap⟩ : Span)).flatMap spanE), own 62 2 a11 ((insA l (⟨t, t + gap⟩ : Span)).length) ((insA l (⟨t, t + gap⟩ : Span)).flatMap spanE), own 62 2 v5 l.length (l.flatMap spanE)]) [2, 0, 1, 3, 4, 5, 6] rfl (by decide)
          replace M : Mem _ _ _ [own 65 2 j24 ((insJ l (⟨t, t + gap⟩ : Span)).length) ((insJ l (⟨t, t + gap⟩ : Span)).flatMap spanE), own 65 2 a25 p_s.length (p_s.flatMap spanE), blk b31 (.cells #[(Value.int .i64 ((insN l (⟨t, t + gap⟩ : Span)).start)), (Value.int .i64 ((insN l (⟨t, t + gap⟩ : Span)).fin))] 65), blk b17 (.cells #[(Value.int .i64 ((insN l (⟨t, t + gap⟩ : Span)).start)), (Value.int .i64 ((insN l (⟨t, t + gap⟩ : Span)).fin))] 62), own 62 2 j10 ((insJ l (⟨t, t + gap⟩ : Span)).length) ((insJ l (⟨t, t + gap⟩ : Span)).flatMap spanE), own 62 2 a11 ((insA l (⟨t, t + gap⟩ : Span)).length) ((insA l (⟨t, t + gap⟩ : Span)).flatMap spanE), own 62 2 v5 l.length (l.flatMap spanE)] [SlAt 2 lv l.length (l.flatMap spanE)] _ := M
          refine W.loop (fun kk ρ w' => ∃ (q_ : Nat) (q_s : List Span), ((q_s.length = (insJ l (⟨t, t + gap⟩ : Span)).length) ∧ (q_ ≤ (insJ l (⟨t, t + gap⟩ : Span)).length) ∧ kk = (insJ l (⟨t, t + gap⟩ : Span)).length - q_) ∧ ρ.has [(0, (Value.int .i64 gap)), (1, (Value.int .i64 t)), (2, lv), (7, v5), (8, j10), (9, (Value.pointer (some ⟨b17, 0, none⟩))), (10, a11), (11, (Value.int .i64 0)), (12, (Value.int .i64 ↑r_)), (13, j24), (14, (Value.pointer (some ⟨b31, 0, none⟩))), (15, a25), (16, (Value.int .i64 0)), (17, (Value.int .i64 ↑p_)), (18, (Value.int .i64 ↑q_)), (34, (Value.int .i64 ↑r_)), (35, (Value.bool (decide ((↑r_ : Int) < (2 : Int))))), (38, (Value.tuple #[j24, (Value.agg #[(Value.int .i64 ((insN l (⟨t, t + gap⟩ : Span)).start)), (Value.int .i64 ((insN l (⟨t, t + gap⟩ : Span)).fin))]), a25, (Value.int .i64 0)])), (39, (Value.int .i64 gap)), (40, (Value.int .i64 t)), (41, lv), (42, (Value.tuple #[j24, (Value.agg #[(Value.int .i64 ((insN l (⟨t, t + gap⟩ : Span)).start)), (Value.int .i64 ((insN l (⟨t, t + gap⟩ : Span)).fin))]), a25, (Value.int .i64 0)])), (43, j24), (44, (Value.agg #[(Value.int .i64 ((insN l (⟨t, t + gap⟩ : Span)).start)), (Value.int .i64 ((insN l (⟨t, t + gap⟩ : Span)).fin))])), (45, a25), (46, (Value.int .i64 0)), (47, (Value.int .i64 0)), (48, (Value.int .i64 0)), (49, (Value.bool false)), (50, (Value.bool false)), (51, j24), (52, j10), (53, (Value.bool true)), (54, (Value.bool false)), (55, (Value.bool false)), (56, (Value.bool false)), (57, (Value.pointer (some ⟨b31, 0, none⟩))), (58, (Value.int .i64 ((insN l (⟨t, t + gap⟩ : Span)).start))), (59, (Value.pointer (some ⟨b17, 0, none⟩))), (60, (Value.int .i64 ((insN l (⟨t, t + gap⟩ : Span)).start))), (61, (Value.bool false)), (62, (Value.bool false)), (63, (Value.bool false)), (64, (Value.pointer (some ⟨b31, 1, none⟩))), (65, (Value.int .i64 ((insN l (⟨t, t + gap⟩ : Span)).fin))), (66, (Value.pointer (some ⟨b17, 1, none⟩))), (67, (Value.int .i64 ((insN l (⟨t, t + gap⟩ : Span)).fin))), (68, (Value.bool false)), (69, (Value.bool false)), (70, (Value.bool false)), (71, a25), (72, a11), (73, (Value.bool true)), (74, (Value.bool false)), (75, (Value.bool false)), (76, (Value.int .i64 ↑p_)), (77, a25), (78, (Value.int .i64 ↑p_s.length)), (79, (Value.bool (decide ((↑p_ : Int) < (↑p_s.length : Int)))))] ∧ Mem G (fun _ => False) w [own 65 2 j24 q_s.length (q_s.flatMap spanE), own 65 2 a25 p_s.length (p_s.flatMap spanE), blk b31 (.cells #[(Value.int .i64 ((insN l (⟨t, t + gap⟩ : Span)).start)), (Value.int .i64 ((insN l (⟨t, t + gap⟩ : Span)).fin))] 65), blk b17 (.cells #[(Value.int .i64 ((insN l (⟨t, t + gap⟩ : Span)).start)), (Value.int .i64 ((insN l (⟨t, t + gap⟩ : Span)).fin))] 62), own 62 2 j10 ((insJ l (⟨t, t + gap⟩ : Span)).length) ((insJ l (⟨t, t + gap⟩ : Span)).flatMap spanE), own 62 2 a11 ((insA l (⟨t, t + gap⟩ : Span)).length) ((insA l (⟨t, t + gap⟩ : Span)).flatMap spanE), own 62 2 v5 l.length (l.flatMap spanE)] [SlAt 2 lv l.length (l.flatMap spanE)]  w') _ ⟨0, (insJ l (⟨t, t + gap⟩ : Span)), ⟨rfl, (Nat.zero_le _), rfl⟩, ⟨rfl, rfl, rfl, rfl, rfl, rfl, rfl, rfl, rfl, rfl, rfl, rfl, rfl, rfl, rfl, rfl, rfl, rfl, rfl, rfl, rfl, rfl, rfl, rfl, rfl, rfl, rfl, rfl, rfl, rfl, rfl, rfl, rfl, rfl, rfl, rfl, rfl, rfl, rfl, rfl, rfl, rfl, rfl, rfl, rfl, rfl, rfl, rfl, rfl, rfl, rfl, rfl, rfl, rfl, rfl, rfl, rfl, rfl, rfl, rfl, rfl⟩, M⟩ ?_
          rintro _ ρ45 w44 ⟨q_, q_s, ⟨hi46, hi47, rfl⟩, hρ, M⟩
          obtain ⟨ρ45, rfl⟩ := hρ.know
          clear hρ
          refine W.seq' ?_
          refine W.seq' ?_
          refine W.region rfl ?_
          refine WL.step (v := (Value.int .i64 ↑q_)) rfl (Step.move rfl) ?_
          refine WL.step (v := j24) rfl (Step.move rfl) ?_
          refine WL.step (v := (Value.int .i64 ↑q_s.length)) rfl (Step.lenSl Try.un58 rfl (own_slAt (M.chunk 0 rfl).inv)) ?_
          refine WL.step (v := (Value.bool (decide ((↑q_ : Int) < (↑q_s.length : Int))))) rfl (Step.pure (by kernel_rfl)) ?_
          refine WL.nil ?_
          refine W.cond (t := decide ((↑q_ : Int) < (↑q_s.length : Int))) rfl (fun h48 => ?_) (fun h48 => ?_)
          ·
            have h48p := of_decide_eq_true h48
            refine W.skip ?_
            refine W.seq' ?_
            refine W.block ?_
            refine W.region rfl ?_
            refine WL.step (v := j24) rfl (Step.move rfl) ?_
            refine WL.step (v := (Value.int .i64 ↑q_)) rfl (Step.move rfl) ?_
            refine WL.step (v := (Value.agg #[(Value.int .i64 0), (Value.int .i64 0)])) rfl (Step.pure (by kernel_rfl)) ?_
            obtain ⟨cap50, hb49⟩ := SlAt.base (own_slAt (M.chunk 0 rfl).inv) (by omega)
            refine WL.step (v := (Value.pointer (some ⟨(sBlk j24), sOff j24 + q_ * 2, none⟩))) rfl (Step.indexAddr (i := q_) (Try.un58).run Try.el65.sized rfl rfl (by omega) hb49 (by omega)) ?_
            refine WL.act rfl (M.storeF spanE_len (⟨0, 0⟩ : Span) 0 rfl Try.el65.sized rfl rfl rfl (cel_cons rfl (cel_cons rfl cel_nil)) (by first | omega | (simp only [List.length_set]; omega))) ?_
            rintro w51 ⟨M, -⟩
            replace M : Mem _ _ _ [own 65 2 j24 ((q_s.set q_ (⟨0, 0⟩ : Span)).length) ((q_s.set q_ (⟨0, 0⟩ : Span)).flatMap spanE), own 65 2 a25 p_s.length (p_s.flatMap spanE), blk b31 (.cells #[(Value.int .i64 ((insN l (⟨t, t + gap⟩ : Span)).start)), (Value.int .i64 ((insN l (⟨t, t + gap⟩ : Span)).fin))] 65), blk b17 (.cells #[(Value.int .i64 ((insN l (⟨t, t + gap⟩ : Span)).start)), (Value.int .i64 ((insN l (⟨t, t + gap⟩ : Span)).fin))] 62), own 62 2 j10 ((insJ l (⟨t, t + gap⟩ : Span)).length) ((insJ l (⟨t, t + gap⟩ : Span)).flatMap spanE), own 62 2 a11 ((insA l (⟨t, t + gap⟩ : Span)).length) ((insA l (⟨t, t + gap⟩ : Span)).flatMap spanE), own 62 2 v5 l.length (l.flatMap spanE)] [SlAt 2 lv l.length (l.flatMap spanE)] _ := M
            refine WL.nil ?_
            refine W.region rfl ?_
            refine WL.step (v := (Value.int .i64 ↑q_)) rfl (Step.move rfl) ?_
            refine WL.step (v := (Value.int .i64 (↑q_ + 1))) rfl (Step.add rfl rfl (wrap_i64 (by omega))) ?_
            refine WL.step (v := (Value.int .i64 (↑q_ + 1))) rfl (Step.assign rfl) ?_
            refine WL.nil ?_
            exact ⟨_, (by omega), q_ + 1, q_s.set q_ (⟨0, 0⟩ : Span), ⟨(by rw [List.length_set]; assumption), (by omega), rfl⟩, ⟨rfl, rfl, rfl, rfl, rfl, rfl, rfl, rfl, rfl, rfl, rfl, rfl, rfl, rfl, rfl, rfl, rfl, rfl, rfl, rfl, rfl, rfl, rfl, rfl, rfl, rfl, rfl, rfl, rfl, rfl, rfl, rfl, rfl, rfl, rfl, rfl, rfl, rfl, rfl, rfl, rfl, rfl, rfl, rfl, rfl, rfl, rfl, rfl, rfl, rfl, rfl, rfl, rfl, rfl, rfl, rfl, rfl, rfl, rfl, rfl, rfl⟩, M⟩
          ·
            have h48p := of_decide_eq_false h48
            refine W.exit ?_
            refine thn_exit ?_
            refine thn_exit ?_
            refine inBlk_hit ?_
            refine W.region rfl ?_
            refine WL.step (v := (Value.int .i64 ↑r_)) rfl (Step.move rfl) ?_
            refine WL.step (v := (Value.int .i64 (↑r_ + 1))) rfl (Step.add rfl rfl (wrap_i64 (by omega))) ?_
            refine WL.step (v := (Value.int .i64 (↑r_ + 1))) rfl (Step.assign rfl) ?_
            refine WL.nil ?_
            replace M := M.sel (L' := [blk b17 (.cells #[(Value.int .i64 ((insN l (⟨t, t + gap⟩ : Span)).start)), (Value.int .i64 ((insN l (⟨t, t + gap⟩ : Span)).fin))] 62), own 62 2 j10 ((insJ l (⟨t, t + gap⟩ : Span)).length) ((insJ l (⟨t, t + gap⟩ : Span)).flatMap spanE), own 62 2 a11 ((insA l (⟨t, t + gap⟩ : Span)).length) ((insA l (⟨t, t + gap⟩ : Span)).flatMap spanE), own 62 2 v5 l.length (l.flatMap spanE)]) [3, 4, 5, 6] rfl (by decide)
            exact ⟨_, (by omega), r_ + 1, ⟨(by omega), rfl⟩, ⟨rfl, rfl, rfl, rfl, rfl, rfl, rfl, rfl, rfl, rfl, rfl⟩, M⟩
      ·
        have h23p := of_decide_eq_false h23
        refine W.exit ?_
        refine thn_exit ?_
        refine thn_exit ?_
        refine inBlk_hit ?_
        refine W.seq' ?_
        refine W.region rfl ?_
        refine WL.step (v := lv) rfl (Step.move rfl) ?_
        refine WL.step (v := v5) rfl (Step.move rfl) ?_
        refine WL.callX rfl (law17_same lv l v5 l (M.enterW0 ⟨(M.wideR0 0 rfl), ((M.wideC0 3 rfl).imp fun _ h => own_slAt h), trivial⟩)) (CallsF.func Try.en33 rfl) ?_
        rintro _ w52 ⟨rfl, m⟩
        replace M := M.leaveW0 m
        clear m
        replace M : Mem _ _ _ [blk b17 (.cells #[(Value.int .i64 ((insN l (⟨t, t + gap⟩ : Span)).start)), (Value.int .i64 ((insN l (⟨t, t + gap⟩ : Span)).fin))] 62), own 62 2 j10 ((insJ l (⟨t, t + gap⟩ : Span)).length) ((insJ l (⟨t, t + gap⟩ : Span)).flatMap spanE), own 62 2 a11 ((insA l (⟨t, t + gap⟩ : Span)).length) ((insA l (⟨t, t + gap⟩ : Span)).flatMap spanE), own 62 2 v5 l.length (l.flatMap spanE)] [SlAt 2 lv l.length (l.flatMap spanE)] _ := M
        rw [(show (decide (l = l)) = true by simp)]
        refine WL.step (v := (Value.bool true)) rfl (Step.move rfl) ?_
        refine WL.callX rfl (law17_works  (M.enterW0 trivial)) (CallsF.func Try.en29 rfl) ?_
        rintro _ w53 ⟨rfl, m⟩
        replace M := M.leaveW0 m
        clear m
        replace M : Mem _ _ _ [blk b17 (.cells #[(Value.int .i64 ((insN l (⟨t, t + gap⟩ : Span)).start)), (Value.int .i64 ((insN l (⟨t, t + gap⟩ : Span)).fin))] 62), own 62 2 j10 ((insJ l (⟨t, t + gap⟩ : Span)).length) ((insJ l (⟨t, t + gap⟩ : Span)).flatMap spanE), own 62 2 a11 ((insA l (⟨t, t + gap⟩ : Span)).length) ((insA l (⟨t, t + gap⟩ : Span)).flatMap spanE), own 62 2 v5 l.length (l.flatMap spanE)] [SlAt 2 lv l.length (l.flatMap spanE)] _ := M
        refine WL.step (v := (Value.bool true)) rfl (Step.pick (t := true) rfl rfl) ?_
        refine WL.step (v := (Value.bool true)) rfl (Step.assign rfl) ?_
        refine WL.nil ?_
        refine W.ret ?_
        refine ⟨.inl rfl, (Value.bool true), ?_, ?_⟩
        · exact ⟨rfl, (Res.r1 (show RV _ _ _ (.tmp 6) (Value.bool true) from by exact rfl))⟩
        refine ⟨?_, M.close [] rfl (by decide) trivial⟩
        rfl
    ·
      refine WL.callX rfl (ref17_insno gap t v5 l (by first | assumption | decide) h9 (M.enterW0 ⟨((M.wideC0 0 rfl).imp fun _ h => own_slAt h), trivial⟩)) (CallsF.func Try.en31 rfl) ?_
      rintro _ w54 ⟨rfl, m⟩
      replace M := M.leaveW0 m
      clear m
      replace M : Mem _ _ _ [own 62 2 v5 l.length (l.flatMap spanE)] [SlAt 2 lv l.length (l.flatMap spanE)] _ := M
      refine WL.step (v := (Value.tuple #[(Value.slice none 0 0), (Value.agg #[(Value.int .i64 0), (Value.int .i64 0)]), (Value.slice none 0 0), (Value.int .i64 2)])) rfl (Step.move rfl) ?_
      refine WL.step (v := (Value.slice none 0 0)) rfl (Step.pure (by kernel_rfl)) ?_
      refine WL.step (v := (Value.agg #[(Value.int .i64 0), (Value.int .i64 0)])) rfl (Step.pure (by kernel_rfl)) ?_
      refine WL.step (v := (Value.slice none 0 0)) rfl (Step.pure (by kernel_rfl)) ?_
      refine WL.step (v := (Value.int .i64 2)) rfl (Step.pure (by kernel_rfl)) ?_
      refine WL.alloc (c := #[(Value.int .i64 0), (Value.int .i64 0)]) M rfl Try.el62.zero rfl (fun b55 w56 hb55 M => ?_)
      refine WL.step (v := (Value.slice none 0 0)) rfl (Step.assign rfl) ?_
      refine WL.store (v := (Value.agg #[(Value.int .i64 0), (Value.int .i64 0)])) (cs := [(Value.int .i64 0), (Value.int .i64 0)]) (c' := #[(Value.int .i64 0), (Value.int .i64 0)]) M 0 rfl rfl Try.el62.sized rfl rfl rfl rfl (Nat.le_of_ble_eq_true rfl) (cel_cons rfl (cel_cons rfl cel_nil)) rfl rfl (fun w57 M => ?_)
      refine WL.step (v := (Value.slice none 0 0)) rfl (Step.assign rfl) ?_
      refine WL.step (v := (Value.int .i64 2)) rfl (Step.assign rfl) ?_
      refine WL.nil ?_
      refine W.seq' ?_
      refine W.seq' ?_
      refine W.region rfl ?_
      refine WL.step (v := (Value.int .i64 0)) rfl (Step.assign rfl) ?_
      refine WL.nil ?_
      refine W.block ?_
      refine W.loop (fun kk ρ w' => ∃ (r_ : Nat), ((r_ ≤ 2) ∧ kk = 2 - r_) ∧ ρ.has [(0, (Value.int .i64 gap)), (1, (Value.int .i64 t)), (2, lv), (7, v5), (8, (Value.slice none 0 0)), (9, (Value.pointer (some ⟨b55, 0, none⟩))), (10, (Value.slice none 0 0)), (11, (Value.int .i64 2)), (12, (Value.int .i64 ↑r_))] ∧ Mem G (fun _ => False) w [blk b55 (.cells #[(Value.int .i64 0), (Value.int .i64 0)] 62), own 62 2 v5 l.length (l.flatMap spanE)] [SlAt 2 lv l.length (l.flatMap spanE)]  w') _ ⟨0, ⟨(by omega), rfl⟩, ⟨rfl, rfl, rfl, rfl, rfl, rfl, rfl, rfl, rfl, rfl, rfl⟩, M⟩ ?_
      rintro _ ρ59 w58 ⟨r_, ⟨hi60, rfl⟩, hρ, M⟩
      obtain ⟨ρ59, rfl⟩ := hρ.know
      clear hρ
      refine W.seq' ?_
      refine W.seq' ?_
      refine W.region rfl ?_
      refine WL.step (v := (Value.int .i64 ↑r_)) rfl (Step.move rfl) ?_
      refine WL.step (v := (Value.bool (decide ((↑r_ : Int) < (2 : Int))))) rfl (Step.pure (by kernel_rfl)) ?_
      refine WL.nil ?_
      refine W.cond (t := decide ((↑r_ : Int) < (2 : Int))) rfl (fun h61 => ?_) (fun h61 => ?_)
      ·
        have h61p := of_decide_eq_true h61
        refine W.skip ?_
        refine W.seq' ?_
        refine W.block ?_
        refine W.seq' ?_
        refine W.region rfl ?_
        refine WL.step (v := (Value.int .i64 gap)) rfl (Step.move rfl) ?_
        refine WL.step (v := (Value.int .i64 t)) rfl (Step.move rfl) ?_
        refine WL.step (v := lv) rfl (Step.move rfl) ?_
        refine WL.callX rfl (ses_insno gap t lv l (by first | assumption | decide) h9 (M.enterW0 ⟨(M.wideR0 0 rfl), trivial⟩)) (CallsF.func Try.en32 rfl) ?_
        rintro _ w62 ⟨rfl, m⟩
        replace M := M.leaveW0 m
        clear m
        replace M : Mem _ _ _ [blk b55 (.cells #[(Value.int .i64 0), (Value.int .i64 0)] 62), own 62 2 v5 l.length (l.flatMap spanE)] [SlAt 2 lv l.length (l.flatMap spanE)] _ := M
        refine WL.step (v := (Value.tuple #[(Value.slice none 0 0), (Value.agg #[(Value.int .i64 0), (Value.int .i64 0)]), (Value.slice none 0 0), (Value.int .i64 2)])) rfl (Step.move rfl) ?_
        refine WL.step (v := (Value.slice none 0 0)) rfl (Step.pure (by kernel_rfl)) ?_
        refine WL.step (v := (Value.agg #[(Value.int .i64 0), (Value.int .i64 0)])) rfl (Step.pure (by kernel_rfl)) ?_
        refine WL.step (v := (Value.slice none 0 0)) rfl (Step.pure (by kernel_rfl)) ?_
        refine WL.step (v := (Value.int .i64 2)) rfl (Step.pure (by kernel_rfl)) ?_
        refine WL.alloc (c := #[(Value.int .i64 0), (Value.int .i64 0)]) M rfl Try.el65.zero rfl (fun b63 w64 hb63 M => ?_)
        refine WL.step (v := (Value.slice none 0 0)) rfl (Step.assign rfl) ?_
        refine WL.store (v := (Value.agg #[(Value.int .i64 0), (Value.int .i64 0)])) (cs := [(Value.int .i64 0), (Value.int .i64 0)]) (c' := #[(Value.int .i64 0), (Value.int .i64 0)]) M 0 rfl rfl Try.el65.sized rfl rfl rfl rfl (Nat.le_of_ble_eq_true rfl) (cel_cons rfl (cel_cons rfl cel_nil)) rfl rfl (fun w65 M => ?_)
        refine WL.step (v := (Value.slice none 0 0)) rfl (Step.assign rfl) ?_
        refine WL.step (v := (Value.int .i64 2)) rfl (Step.assign rfl) ?_
        refine WL.nil ?_
        refine W.seq' ?_
        refine W.seq' ?_
        refine W.region rfl ?_
        refine WL.step (v := (Value.int .i64 2)) rfl (Step.move rfl) ?_
        refine WL.step (v := (Value.int .i64 2)) rfl (Step.move rfl) ?_
        refine WL.step (v := (Value.bool false)) rfl (Step.pure (by kernel_rfl)) ?_
        refine WL.step (v := (Value.bool false)) rfl (Step.move rfl) ?_
        refine WL.step (v := (Value.slice none 0 0)) rfl (Step.move rfl) ?_
        refine WL.step (v := (Value.slice none 0 0)) rfl (Step.move rfl) ?_
        refine WL.callX rfl (law17_same (Value.slice none 0 0) ([] : List Span) (Value.slice none 0 0) ([] : List Span) (M.enterW0 ⟨(Sh.pure fun w => SlAt.nil 2 w), (Sh.pure fun w => SlAt.nil 2 w), trivial⟩)) (CallsF.func Try.en33 rfl) ?_
        rintro _ w66 ⟨rfl, m⟩
        replace M := M.leaveW0 m
        clear m
        replace M : Mem _ _ _ [blk b63 (.cells #[(Value.int .i64 0), (Value.int .i64 0)] 65), blk b55 (.cells #[(Value.int .i64 0), (Value.int .i64 0)] 62), own 62 2 v5 l.length (l.flatMap spanE)] [SlAt 2 lv l.length (l.flatMap spanE)] _ := M
        rw [(show (decide (([] : List Span) = ([] : List Span))) = true by simp)]
        refine WL.step (v := (Value.bool false)) rfl (Step.pure (by kernel_rfl)) ?_
        refine WL.step (v := (Value.bool false)) rfl (Step.pick (t := false) rfl rfl) ?_
        refine WL.step (v := (Value.bool false)) rfl (Step.move rfl) ?_
        refine WL.step (v := (Value.pointer (some ⟨b63, 0, none⟩))) rfl (Step.pure (by kernel_rfl)) ?_
        refine WL.step (v := (Value.int .i64 0)) rfl (Step.load1 Try.sc2 rfl ((M.cell 0 rfl 0).trans rfl)) ?_
        refine WL.step (v := (Value.pointer (some ⟨b55, 0, none⟩))) rfl (Step.pure (by kernel_rfl)) ?_
        refine WL.step (v := (Value.int .i64 0)) rfl (Step.load1 Try.sc2 rfl ((M.cell 1 rfl 0).trans rfl)) ?_
        refine WL.step (v := (Value.bool false)) rfl (Step.pure (by kernel_rfl)) ?_
        refine WL.step (v := (Value.bool false)) rfl (Step.pick (t := false) rfl rfl) ?_
        refine WL.step (v := (Value.bool false)) rfl (Step.move rfl) ?_
        refine WL.step (v := (Value.pointer (some ⟨b63, 1, none⟩))) rfl (Step.pure (by kernel_rfl)) ?_
        refine WL.step (v := (Value.int .i64 0)) rfl (Step.load1 Try.sc2 rfl ((M.cell 0 rfl 1).trans rfl)) ?_
        refine WL.step (v := (Value.pointer (some ⟨b55, 1, none⟩))) rfl (Step.pure (by kernel_rfl)) ?_
        refine WL.step (v := (Value.int .i64 0)) rfl (Step.load1 Try.sc2 rfl ((M.cell 1 rfl 1).trans rfl)) ?_
        refine WL.step (v := (Value.bool false)) rfl (Step.pure (by kernel_rfl)) ?_
        refine WL.step (v := (Value.bool false)) rfl (Step.pick (t := false) rfl rfl) ?_
        refine WL.step (v := (Value.bool false)) rfl (Step.move rfl) ?_
        refine WL.step (v := (Value.slice none 0 0)) rfl (Step.move rfl) ?_
        refine WL.step (v := (Value.slice none 0 0)) rfl (Step.move rfl) ?_
        refine WL.callX rfl (law17_same (Value.slice none 0 0) ([] : List Span) (Value.slice none 0 0) ([] : List Span) (M.enterW0 ⟨(Sh.pure fun w => SlAt.nil 2 w), (Sh.pure fun w => SlAt.nil 2 w), trivial⟩)) (CallsF.func Try.en33 rfl) ?_
        rintro _ w67 ⟨rfl, m⟩
        replace M := M.leaveW0 m
        clear m
        replace M : Mem _ _ _ [blk b63 (.cells #[(Value.int .i64 0), (Value.int .i64 0)] 65), blk b55 (.cells #[(Value.int .i64 0), (Value.int .i64 0)] 62), own 62 2 v5 l.length (l.flatMap spanE)] [SlAt 2 lv l.length (l.flatMap spanE)] _ := M
        rw [(show (decide (([] : List Span) = ([] : List Span))) = true by simp)]
        refine WL.step (v := (Value.bool false)) rfl (Step.pure (by kernel_rfl)) ?_
        refine WL.step (v := (Value.bool false)) rfl (Step.pick (t := false) rfl rfl) ?_
        refine WL.nil ?_
        refine W.cond (t := false) rfl (fun h => by cases h) (fun _ => ?_)
        refine W.skip ?_
        refine W.seq' ?_
        refine W.seq' ?_
        refine W.region rfl ?_
        refine WL.step (v := (Value.int .i64 0)) rfl (Step.assign rfl) ?_
        refine WL.nil ?_
        refine W.block ?_
        refine W.loop (fun kk ρ w' => (kk = 0) ∧ ρ.has [(0, (Value.int .i64 gap)), (1, (Value.int .i64 t)), (2, lv), (7, v5), (8, (Value.slice none 0 0)), (9, (Value.pointer (some ⟨b55, 0, none⟩))), (10, (Value.slice none 0 0)), (11, (Value.int .i64 2)), (12, (Value.int .i64 ↑r_)), (13, (Value.slice none 0 0)), (14, (Value.pointer (some ⟨b63, 0, none⟩))), (15, (Value.slice none 0 0)), (16, (Value.int .i64 2)), (17, (Value.int .i64 0)), (34, (Value.int .i64 ↑r_)), (35, (Value.bool (decide ((↑r_ : Int) < (2 : Int))))), (38, (Value.tuple #[(Value.slice none 0 0), (Value.agg #[(Value.int .i64 0), (Value.int .i64 0)]), (Value.slice none 0 0), (Value.int .i64 2)])), (39, (Value.int .i64 gap)), (40, (Value.int .i64 t)), (41, lv), (42, (Value.tuple #[(Value.slice none 0 0), (Value.agg #[(Value.int .i64 0), (Value.int .i64 0)]), (Value.slice none 0 0), (Value.int .i64 2)])), (43, (Value.slice none 0 0)), (44, (Value.agg #[(Value.int .i64 0), (Value.int .i64 0)])), (45, (Value.slice none 0 0)), (46, (Value.int .i64 2)), (47, (Value.int .i64 2)), (48, (Value.int .i64 2)), (49, (Value.bool false)), (50, (Value.bool false)), (51, (Value.slice none 0 0)), (52, (Value.slice none 0 0)), (53, (Value.bool true)), (54, (Value.bool false)), (55, (Value.bool false)), (56, (Value.bool false)), (57, (Value.pointer (some ⟨b63, 0, none⟩))), (58, (Value.int .i64 0)), (59, (Value.pointer (some ⟨b55, 0, none⟩))), (60, (Value.int .i64 0)), (61, (Value.bool false)), (62, (Value.bool false)), (63, (Value.bool false)), (64, (Value.pointer (some ⟨b63, 1, none⟩))), (65, (Value.int .i64 0)), (66, (Value.pointer (some ⟨b55, 1, none⟩))), (67, (Value.int .i64 0)), (68, (Value.bool false)), (69, (Value.bool false)), (70, (Value.bool false)), (71, (Value.slice none 0 0)), (72, (Value.slice none 0 0)), (73, (Value.bool true)), (74, (Value.bool false)), (75, (Value.bool false))] ∧ Mem G (fun _ => False) w [blk b63 (.cells #[(Value.int .i64 0), (Value.int .i64 0)] 65), blk b55 (.cells #[(Value.int .i64 0), (Value.int .i64 0)] 62), own 62 2 v5 l.length (l.flatMap spanE)] [SlAt 2 lv l.length (l.flatMap spanE)]  w') _ ⟨rfl, ⟨rfl, rfl, rfl, rfl, rfl, rfl, rfl, rfl, rfl, rfl, rfl, rfl, rfl, rfl, rfl, rfl, rfl, rfl, rfl, rfl, rfl, rfl, rfl, rfl, rfl, rfl, rfl, rfl, rfl, rfl, rfl, rfl, rfl, rfl, rfl, rfl, rfl, rfl, rfl, rfl, rfl, rfl, rfl, rfl, rfl, rfl, rfl, rfl, rfl, rfl, rfl, rfl, rfl, rfl, rfl, rfl⟩, M⟩ ?_
        rintro _ ρ69 w68 ⟨rfl, hρ, M⟩
        obtain ⟨ρ69, rfl⟩ := hρ.know
        clear hρ
        refine W.seq' ?_
        refine W.seq' ?_
        refine W.region rfl ?_
        refine WL.step (v := (Value.int .i64 0)) rfl (Step.move rfl) ?_
        refine WL.step (v := (Value.slice none 0 0)) rfl (Step.move rfl) ?_
        refine WL.step (v := (Value.int .i64 0)) rfl (Step.lenS Try.un58 rfl rfl) ?_
        refine WL.step (v := (Value.bool false)) rfl (Step.pure (by kernel_rfl)) ?_
        refine WL.nil ?_
        refine W.cond (t := false) rfl (fun h => by cases h) (fun _ => ?_)
        refine W.exit ?_
        refine thn_exit ?_
        refine thn_exit ?_
        refine inBlk_hit ?_
        refine W.seq' ?_
        refine W.region rfl ?_
        refine WL.step (v := (Value.int .i64 0)) rfl (Step.assign rfl) ?_
        refine WL.nil ?_
        refine W.block ?_
        refine W.loop (fun kk ρ w' => (kk = 0) ∧ ρ.has [(0, (Value.int .i64 gap)), (1, (Value.int .i64 t)), (2, lv), (7, v5), (8, (Value.slice none 0 0)), (9, (Value.pointer (some ⟨b55, 0, none⟩))), (10, (Value.slice none 0 0)), (11, (Value.int .i64 2)), (12, (Value.int .i64 ↑r_)), (13, (Value.slice none 0 0)), (14, (Value.pointer (some ⟨b63, 0, none⟩))), (15, (Value.slice none 0 0)), (16, (Value.int .i64 2)), (17, (Value.int .i64 0)), (18, (Value.int .i64 0)), (34, (Value.int .i64 ↑r_)), (35, (Value.bool (decide ((↑r_ : Int) < (2 : Int))))), (38, (Value.tuple #[(Value.slice none 0 0), (Value.agg #[(Value.int .i64 0), (Value.int .i64 0)]), (Value.slice none 0 0), (Value.int .i64 2)])), (39, (Value.int .i64 gap)), (40, (Value.int .i64 t)), (41, lv), (42, (Value.tuple #[(Value.slice none 0 0), (Value.agg #[(Value.int .i64 0), (Value.int .i64 0)]), (Value.slice none 0 0), (Value.int .i64 2)])), (43, (Value.slice none 0 0)), (44, (Value.agg #[(Value.int .i64 0), (Value.int .i64 0)])), (45, (Value.slice none 0 0)), (46, (Value.int .i64 2)), (47, (Value.int .i64 2)), (48, (Value.int .i64 2)), (49, (Value.bool false)), (50, (Value.bool false)), (51, (Value.slice none 0 0)), (52, (Value.slice none 0 0)), (53, (Value.bool true)), (54, (Value.bool false)), (55, (Value.bool false)), (56, (Value.bool false)), (57, (Value.pointer (some ⟨b63, 0, none⟩))), (58, (Value.int .i64 0)), (59, (Value.pointer (some ⟨b55, 0, none⟩))), (60, (Value.int .i64 0)), (61, (Value.bool false)), (62, (Value.bool false)), (63, (Value.bool false)), (64, (Value.pointer (some ⟨b63, 1, none⟩))), (65, (Value.int .i64 0)), (66, (Value.pointer (some ⟨b55, 1, none⟩))), (67, (Value.int .i64 0)), (68, (Value.bool false)), (69, (Value.bool false)), (70, (Value.bool false)), (71, (Value.slice none 0 0)), (72, (Value.slice none 0 0)), (73, (Value.bool true)), (74, (Value.bool false)), (75, (Value.bool false)), (76, (Value.int .i64 0)), (77, (Value.slice none 0 0)), (78, (Value.int .i64 0)), (79, (Value.bool false))] ∧ Mem G (fun _ => False) w [blk b63 (.cells #[(Value.int .i64 0), (Value.int .i64 0)] 65), blk b55 (.cells #[(Value.int .i64 0), (Value.int .i64 0)] 62), own 62 2 v5 l.length (l.flatMap spanE)] [SlAt 2 lv l.length (l.flatMap spanE)]  w') _ ⟨rfl, ⟨rfl, rfl, rfl, rfl, rfl, rfl, rfl, rfl, rfl, rfl, rfl, rfl, rfl, rfl, rfl, rfl, rfl, rfl, rfl, rfl, rfl, rfl, rfl, rfl, rfl, rfl, rfl, rfl, rfl, rfl, rfl, rfl, rfl, rfl, rfl, rfl, rfl, rfl, rfl, rfl, rfl, rfl, rfl, rfl, rfl, rfl, rfl, rfl, rfl, rfl, rfl, rfl, rfl, rfl, rfl, rfl, rfl, rfl, rfl, rfl, rfl⟩, M⟩ ?_
        rintro _ ρ71 w70 ⟨rfl, hρ, M⟩
        obtain ⟨ρ71, rfl⟩ := hρ.know
        clear hρ
        refine W.seq' ?_
        refine W.seq' ?_
        refine W.region rfl ?_
        refine WL.step (v := (Value.int .i64 0)) rfl (Step.move rfl) ?_
        refine WL.step (v := (Value.slice none 0 0)) rfl (Step.move rfl) ?_
        refine WL.step (v := (Value.int .i64 0)) rfl (Step.lenS Try.un58 rfl rfl) ?_
        refine WL.step (v := (Value.bool false)) rfl (Step.pure (by kernel_rfl)) ?_
        refine WL.nil ?_
        refine W.cond (t := false) rfl (fun h => by cases h) (fun _ => ?_)
        refine W.exit ?_
        refine thn_exit ?_
        refine thn_exit ?_
        refine inBlk_hit ?_
        refine W.region rfl ?_
        refine WL.step (v := (Value.int .i64 ↑r_)) rfl (Step.move rfl) ?_
        refine WL.step (v := (Value.int .i64 (↑r_ + 1))) rfl (Step.add rfl rfl (wrap_i64 (by omega))) ?_
        refine WL.step (v := (Value.int .i64 (↑r_ + 1))) rfl (Step.assign rfl) ?_
        refine WL.nil ?_
        replace M := M.sel (L' := [blk b55 (.cells #[(Value.int .i64 0), (Value.int .i64 0)] 62), own 62 2 v5 l.length (l.flatMap spanE)]) [1, 2] rfl (by decide)
        exact ⟨_, (by omega), r_ + 1, ⟨(by omega), rfl⟩, ⟨rfl, rfl, rfl, rfl, rfl, rfl, rfl, rfl, rfl, rfl, rfl⟩, M⟩
      ·
        have h61p := of_decide_eq_false h61
        refine W.exit ?_
        refine thn_exit ?_
        refine thn_exit ?_
        refine inBlk_hit ?_
        refine W.seq' ?_
        refine W.region rfl ?_
        refine WL.step (v := lv) rfl (Step.move rfl) ?_
        refine WL.step (v := v5) rfl (Step.move rfl) ?_
        refine WL.callX rfl (law17_same lv l v5 l (M.enterW0 ⟨(M.wideR0 0 rfl), ((M.wideC0 1 rfl).imp fun _ h => own_slAt h), trivial⟩)) (CallsF.func Try.en33 rfl) ?_
        rintro _ w72 ⟨rfl, m⟩
        replace M := M.leaveW0 m
        clear m
        replace M : Mem _ _ _ [blk b55 (.cells #[(Value.int .i64 0), (Value.int .i64 0)] 62), own 62 2 v5 l.length (l.flatMap spanE)] [SlAt 2 lv l.length (l.flatMap spanE)] _ := M
        rw [(show (decide (l = l)) = true by simp)]
        refine WL.step (v := (Value.bool true)) rfl (Step.move rfl) ?_
        refine WL.callX rfl (law17_works  (M.enterW0 trivial)) (CallsF.func Try.en29 rfl) ?_
        rintro _ w73 ⟨rfl, m⟩
        replace M := M.leaveW0 m
        clear m
        replace M : Mem _ _ _ [blk b55 (.cells #[(Value.int .i64 0), (Value.int .i64 0)] 62), own 62 2 v5 l.length (l.flatMap spanE)] [SlAt 2 lv l.length (l.flatMap spanE)] _ := M
        refine WL.step (v := (Value.bool true)) rfl (Step.pick (t := true) rfl rfl) ?_
        refine WL.step (v := (Value.bool true)) rfl (Step.assign rfl) ?_
        refine WL.nil ?_
        refine W.ret ?_
        refine ⟨.inl rfl, (Value.bool true), ?_, ?_⟩
        · exact ⟨rfl, (Res.r1 (show RV _ _ _ (.tmp 6) (Value.bool true) from by exact rfl))⟩
        refine ⟨?_, M.close [] rfl (by decide) trivial⟩
        rfl

theorem law17_of {G : Nat → Prop} {w : World} (gap : Int) (t : Int) (tv : Value) (ts : List Int) (lv : Value) (l : List Span)  (hin : ∀ s, s ∈ l → in64 s.start ∧ in64 s.fin) (hg : in64 gap) (M : Mem G (fun _ => False) w [] [SlAt 1 tv ts.length (ts.flatMap intE), SlAt 2 lv l.length (l.flatMap spanE)] w) : Rets Try.prog 8 #[(Value.int .i64 gap), (Value.int .i64 t), tv, lv] w fun r w' => r = (Value.bool true) ∧ Mem G (fun _ => False) w [] [] w' := by
  refine Rets.enter 156 _ Try.func8 rfl Try.ntmps8 Try.results8 (by simp) ?_
  have hle1 := SlAt.le' (M.rep 0 rfl)
  have hle2 := SlAt.le' (M.rep 1 rfl)
  have sl3 : IsSl tv := SlAt.isSl (Mem.rep M 0 rfl)
  have sl4 : IsSl lv := SlAt.isSl (Mem.rep M 1 rfl)
  refine W.seq' ?_
  refine W.region rfl ?_
  refine WL.step (v := (Value.bool false)) rfl (Step.assign rfl) ?_
  refine WL.nil ?_
  refine W.seq' ?_
  refine W.seq' ?_
  refine W.region rfl ?_
  refine WL.step (v := tv) rfl (Step.move rfl) ?_
  refine WL.step (v := (Value.int .i64 ↑ts.length)) rfl (Step.lenSl Try.un70 rfl (M.rep 0 rfl)) ?_
  refine WL.step (v := (Value.bool (decide ((↑ts.length : Int) > (24 : Int))))) rfl (Step.pure (by kernel_rfl)) ?_
  refine WL.step (v := (Value.bool (decide ((↑ts.length : Int) > (24 : Int))))) rfl (Step.move rfl) ?_
  rcases Bool.eq_false_or_eq_true (decide ((↑ts.length : Int) > (24 : Int))) with h5 | h5
  ·
    have h5p := of_decide_eq_true h5
    rw [h5]
    refine WL.pass rfl ?_
    refine WL.pass rfl ?_
    refine WL.pass rfl ?_
    refine WL.step (v := (Value.bool true)) rfl (Step.pick (t := true) rfl rfl) ?_
    refine WL.nil ?_
    refine W.cond (t := true) rfl (fun _ => ?_) (fun h => by cases h)
    refine W.seq' ?_
    refine W.region rfl ?_
    refine WL.callX rfl (law17_works  (M.enterW0 trivial)) (CallsF.func Try.en29 rfl) ?_
    rintro _ w6 ⟨rfl, m⟩
    replace M := M.leaveW0 m
    clear m
    replace M : Mem _ _ _ [] [SlAt 1 tv ts.length (ts.flatMap intE), SlAt 2 lv l.length (l.flatMap spanE)] _ := M
    refine WL.step (v := (Value.bool true)) rfl (Step.assign rfl) ?_
    refine WL.nil ?_
    refine W.ret ?_
    refine ⟨.inl rfl, (Value.bool true), ?_, ?_⟩
    · exact ⟨rfl, (Res.r1 (show RV _ _ _ (.tmp 8) (Value.bool true) from by exact rfl))⟩
    refine ⟨?_, M.close [] rfl (by decide) trivial⟩
    rfl
  ·
    have h5p := of_decide_eq_false h5
    rw [h5]
    refine WL.step (v := lv) rfl (Step.move rfl) ?_
    refine WL.step (v := (Value.int .i64 ↑l.length)) rfl (Step.lenSl Try.un58 rfl (M.rep 1 rfl)) ?_
    refine WL.step (v := (Value.bool (decide ((↑l.length : Int) > (24 : Int))))) rfl (Step.pure (by kernel_rfl)) ?_
    refine WL.step (v := (Value.bool (decide ((↑l.length : Int) > (24 : Int))))) rfl (Step.pick (t := false) rfl rfl) ?_
    refine WL.nil ?_
    refine W.cond (t := decide ((↑l.length : Int) > (24 : Int))) rfl (fun h7 => ?_) (fun h7 => ?_)
    ·
      have h7p := of_decide_eq_true h7
      refine W.seq' ?_
      refine W.region rfl ?_
      refine WL.callX rfl (law17_works  (M.enterW0 trivial)) (CallsF.func Try.en29 rfl) ?_
      rintro _ w8 ⟨rfl, m⟩
      replace M := M.leaveW0 m
      clear m
      replace M : Mem _ _ _ [] [SlAt 1 tv ts.length (ts.flatMap intE), SlAt 2 lv l.length (l.flatMap spanE)] _ := M
      refine WL.step (v := (Value.bool true)) rfl (Step.assign rfl) ?_
      refine WL.nil ?_
      refine W.ret ?_
      refine ⟨.inl rfl, (Value.bool true), ?_, ?_⟩
      · exact ⟨rfl, (Res.r1 (show RV _ _ _ (.tmp 8) (Value.bool true) from by exact rfl))⟩
      refine ⟨?_, M.close [] rfl (by decide) trivial⟩
      rfl
    ·
      have h7p := of_decide_eq_false h7
      refine W.skip ?_
      refine W.seq' ?_
      refine W.region rfl ?_
      refine WL.step (v := (Value.slice none 0 0)) rfl (Step.assign rfl) ?_
      refine WL.nil ?_
      refine W.seq' ?_
      refine W.region rfl ?_
      refine WL.step (v := (Value.slice none 0 0)) rfl (Step.move rfl) ?_
      refine WL.step (v := tv) rfl (Step.move rfl) ?_
      replace M := M.ownNil 2 1
      replace M : Mem _ _ _ [own 2 1 (Value.slice none 0 0) (([] : List Int).length) (([] : List Int).flatMap intE)] [SlAt 1 tv ts.length (ts.flatMap intE), SlAt 2 lv l.length (l.flatMap spanE)] _ := M
      refine WL.does rfl (M.appendF ([] : List Int) ts (sv := tv) 0 Try.un70 Try.el2 rfl (by decide) rfl rfl rfl (M.rep 0 rfl) intE_cel (by have := (show ts.length ≤ 24 by omega); simp only [maxLen, List.length_nil, List.length_cons, List.length_append]; omega) (by have := (show ts.length ≤ 24 by omega); (try simp only [List.length_nil, List.length_cons, List.length_append]); omega)) ?_
      rintro v9 w10 M
      replace M : Mem _ _ _ [own 2 1 v9 ts.length (ts.flatMap intE)] [SlAt 1 tv ts.length (ts.flatMap intE), SlAt 2 lv l.length (l.flatMap spanE)] _ := M
      have sl11 : IsSl v9 := SlAt.isSl (own_slAt (M.chunk 0 rfl).inv)
      refine WL.step (v := v9) rfl (Step.assign rfl) ?_
      refine WL.nil ?_
      refine W.seq' ?_
      refine W.region rfl ?_
      refine WL.step (v := lv) rfl (Step.move rfl) ?_
      refine WL.callX rfl (law17_refs lv l (by first | omega | assumption | decide | (simp only [List.length_nil, List.length_cons, List.length_take, List.length_drop]; omega)) (M.enterW0 ⟨(M.wideR0 1 rfl), trivial⟩)) (CallsF.func Try.en30 rfl) ?_
      rintro v12 w13 ⟨_, rfl, m⟩
      replace M := M.leaveW0 m
      clear m
      replace M : Mem _ _ _ [own 62 2 v12 l.length (l.flatMap spanE), own 2 1 v9 ts.length (ts.flatMap intE)] [SlAt 1 tv ts.length (ts.flatMap intE), SlAt 2 lv l.length (l.flatMap spanE)] _ := M
      have sl14 : IsSl v12 := SlAt.isSl (own_slAt (Mem.chunk M 0 rfl).inv)
      have hle15 := SlAt.le' (own_slAt (Mem.chunk M 0 rfl).inv)
      refine WL.step (v := v12) rfl (Step.assign rfl) ?_
      refine WL.nil ?_
      refine W.seq' ?_
      refine W.region rfl ?_
      refine WL.step (v := (Value.int .i64 gap)) rfl (Step.move rfl) ?_
      refine WL.step (v := v9) rfl (Step.move rfl) ?_
      rcases Bool.eq_false_or_eq_true (mayB gap ts) with h16 | h16
      ·
        refine WL.callX rfl (ref17_of gap v9 ts (by first | omega | assumption | decide | (simp only [List.length_nil, List.length_cons, List.length_take, List.length_drop]; omega)) h16 (M.enterW0 ⟨((M.wideC0 1 rfl).imp fun _ h => own_slAt h), trivial⟩)) (CallsF.func Try.en34 rfl) ?_
        rintro _ w18 ⟨v17, rfl, m⟩
        replace M := M.leaveW0 m
        clear m
        replace M : Mem _ _ _ [own 62 2 v17 ((ofT gap (sortT ts)).length) ((ofT gap (sortT ts)).flatMap spanE), own 62 2 v12 l.length (l.flatMap spanE), own 2 1 v9 ts.length (ts.flatMap intE)] [SlAt 1 tv ts.length (ts.flatMap intE), SlAt 2 lv l.length (l.flatMap spanE)] _ := M
        have sl19 : IsSl v17 := SlAt.isSl (own_slAt (Mem.chunk M 0 rfl).inv)
        have hle20 := SlAt.le' (own_slAt (Mem.chunk M 0 rfl).inv)
        refine WL.step (v := (Value.tuple #[v17, (Value.int .i64 0)])) rfl (Step.move rfl) ?_
        refine WL.step (v := v17) rfl (Step.pure (by kernel_rfl)) ?_
        refine WL.step (v := (Value.int .i64 0)) rfl (Step.pure (by kernel_rfl)) ?_
        refine WL.step (v := v17) rfl (Step.assign rfl) ?_
        refine WL.step (v := (Value.int .i64 0)) rfl (Step.assign rfl) ?_
        refine WL.nil ?_
        refine W.seq' ?_
        refine W.seq' ?_
        refine W.region rfl ?_
        refine WL.step (v := (Value.int .i64 0)) rfl (Step.assign rfl) ?_
        refine WL.nil ?_
        refine W.block ?_
        refine W.loop (fun kk ρ w' => ∃ (r_ : Nat), ((r_ ≤ 2) ∧ kk = 2 - r_) ∧ ρ.has [(0, (Value.int .i64 gap)), (1, (Value.int .i64 t)), (2, tv), (3, lv), (9, v9), (10, v12), (11, v17), (12, (Value.int .i64 0)), (13, (Value.int .i64 ↑r_))] ∧ Mem G (fun _ => False) w [own 62 2 v17 ((ofT gap (sortT ts)).length) ((ofT gap (sortT ts)).flatMap spanE), own 62 2 v12 l.length (l.flatMap spanE), own 2 1 v9 ts.length (ts.flatMap intE)] [SlAt 1 tv ts.length (ts.flatMap intE), SlAt 2 lv l.length (l.flatMap spanE)]  w') _ ⟨0, ⟨(by omega), rfl⟩, ⟨rfl, rfl, rfl, rfl, rfl, rfl, rfl, rfl, rfl, rfl, rfl⟩, M⟩ ?_
        rintro _ ρ22 w21 ⟨r_, ⟨hi23, rfl⟩, hρ, M⟩
        obtain ⟨ρ22, rfl⟩ := hρ.know
        clear hρ
        refine W.seq' ?_
        refine W.seq' ?_
        refine W.region rfl ?_
        refine WL.step (v := (Value.int .i64 ↑r_)) rfl (Step.move rfl) ?_
        refine WL.step (v := (Value.bool (decide ((↑r_ : Int) < (2 : Int))))) rfl (Step.pure (by kernel_rfl)) ?_
        refine WL.nil ?_
        refine W.cond (t := decide ((↑r_ : Int) < (2 : Int))) rfl (fun h24 => ?_) (fun h24 => ?_)
        ·
          have h24p := of_decide_eq_true h24
          refine W.skip ?_
          refine W.seq' ?_
          refine W.block ?_
          refine W.seq' ?_
          refine W.region rfl ?_
          refine WL.step (v := (Value.int .i64 gap)) rfl (Step.move rfl) ?_
          refine WL.step (v := tv) rfl (Step.move rfl) ?_
          refine WL.callX rfl (ses_of gap tv ts (by first | omega | assumption | decide | (simp only [List.length_nil, List.length_cons, List.length_take, List.length_drop]; omega)) h16 (M.enterW0 ⟨(M.wideR0 0 rfl), trivial⟩)) (CallsF.func Try.en35 rfl) ?_
          rintro _ w26 ⟨v25, rfl, m⟩
          replace M := M.leaveW0 m
          clear m
          replace M : Mem _ _ _ [own 65 2 v25 ((ofT gap (sortT ts)).length) ((ofT gap (sortT ts)).flatMap spanE), own 62 2 v17 ((ofT gap (sortT ts)).length) ((ofT gap (sortT ts)).flatMap spanE), own 62 2 v12 l.length (l.flatMap spanE), own 2 1 v9 ts.length (ts.flatMap intE)] [SlAt 1 tv ts.length (ts.flatMap intE), SlAt 2 lv l.length (l.flatMap spanE)] _ := M
          have sl27 : IsSl v25 := SlAt.isSl (own_slAt (Mem.chunk M 0 rfl).inv)
          have hle28 := SlAt.le' (own_slAt (Mem.chunk M 0 rfl).inv)
          refine WL.step (v := (Value.tuple #[v25, (Value.int .i64 0)])) rfl (Step.move rfl) ?_
          refine WL.step (v := v25) rfl (Step.pure (by kernel_rfl)) ?_
          refine WL.step (v := (Value.int .i64 0)) rfl (Step.pure (by kernel_rfl)) ?_
          refine WL.step (v := v25) rfl (Step.assign rfl) ?_
          refine WL.step (v := (Value.int .i64 0)) rfl (Step.assign rfl) ?_
          refine WL.nil ?_
          refine W.seq' ?_
          refine W.seq' ?_
          refine W.region rfl ?_
          refine WL.step (v := (Value.int .i64 0)) rfl (Step.move rfl) ?_
          refine WL.step (v := (Value.int .i64 0)) rfl (Step.move rfl) ?_
          refine WL.step (v := (Value.bool false)) rfl (Step.pure (by kernel_rfl)) ?_
          refine WL.step (v := (Value.bool false)) rfl (Step.move rfl) ?_
          refine WL.step (v := v25) rfl (Step.move rfl) ?_
          refine WL.step (v := v17) rfl (Step.move rfl) ?_
          refine WL.callX rfl (law17_same v25 (ofT gap (sortT ts)) v17 (ofT gap (sortT ts)) (M.enterW0 ⟨((M.wideC0 0 rfl).imp fun _ h => own_slAt h), ((M.wideC0 1 rfl).imp fun _ h => own_slAt h), trivial⟩)) (CallsF.func Try.en33 rfl) ?_
          rintro _ w29 ⟨rfl, m⟩
          replace M := M.leaveW0 m
          clear m
          replace M : Mem _ _ _ [own 65 2 v25 ((ofT gap (sortT ts)).length) ((ofT gap (sortT ts)).flatMap spanE), own 62 2 v17 ((ofT gap (sortT ts)).length) ((ofT gap (sortT ts)).flatMap spanE), own 62 2 v12 l.length (l.flatMap spanE), own 2 1 v9 ts.length (ts.flatMap intE)] [SlAt 1 tv ts.length (ts.flatMap intE), SlAt 2 lv l.length (l.flatMap spanE)] _ := M
          rw [(show (decide ((ofT gap (sortT ts)) = (ofT gap (sortT ts)))) = true by simp)]
          refine WL.step (v := (Value.bool false)) rfl (Step.pure (by kernel_rfl)) ?_
          refine WL.step (v := (Value.bool false)) rfl (Step.pick (t := false) rfl rfl) ?_
          refine WL.nil ?_
          refine W.cond (t := false) rfl (fun h => by cases h) (fun _ => ?_)
          refine W.skip ?_
          refine W.seq' ?_
          refine W.region rfl ?_
          refine WL.step (v := (Value.int .i64 0)) rfl (Step.assign rfl) ?_
          refine WL.nil ?_
          refine W.block ?_
          replace M := M.sel (L' := [own 65 2 v25 ((ofT gap (sortT ts)).length) ((ofT gap (sortT ts)).flatMap spanE), own 62 2 v17 ((ofT gap (sortT ts)).length) ((ofT gap (sortT ts)).flatMap spanE), own 62 2 v12 l.length (l.flatMap spanE), own 2 1 v9 ts.length (ts.flatMap intE)]) [0, 1, 2, 3] rfl (by decide)
          replace M : Mem _ _ _ [own 65 2 v25 ((ofT gap (sortT ts)).length) ((ofT gap (sortT ts)).flatMap spanE), own 62 2 v17 ((ofT gap (sortT ts)).length) ((ofT gap (sortT ts)).flatMap spanE), own 62 2 v12 l.length (l.flatMap spanE), own 2 1 v9 ts.length (ts.flatMap intE)] [SlAt 1 tv ts.length (ts.flatMap intE), SlAt 2 lv l.length (l.flatMap spanE)] _ := M
          refine W.loop (fun kk ρ w' => ∃ (p_ : Nat) (p_s : List Span), ((p_s.length = (ofT gap (sortT ts)).length) ∧ (p_ ≤ (ofT gap (sortT ts)).length) ∧ kk = (ofT gap (sortT ts)).length - p_) ∧ ρ.has [(0, (Value.int .i64 gap)), (1, (Value.int .i64 t)), (2, tv), (3, lv), (9, v9), (10, v12), (11, v17), (12, (Value.int .i64 0)), (13, (Value.int .i64 ↑r_)), (14, v25), (15, (Value.int .i64 0)), (16, (Value.int .i64 ↑p_)), (43, (Value.int .i64 ↑r_)), (44, (Value.bool (decide ((↑r_ : Int) < (2 : Int))))), (47, (Value.tuple #[v25, (Value.int .i64 0)])), (48, (Value.int .i64 gap)), (49, tv), (50, (Value.tuple #[v25, (Value.int .i64 0)])), (51, v25), (52, (Value.int .i64 0)), (53, (Value.int .i64 0)), (54, (Value.int .i64 0)), (55, (Value.bool false)), (56, (Value.bool false)), (57, v25), (58, v17), (59, (Value.bool true)), (60, (Value.bool false)), (61, (Value.bool false))] ∧ Mem G (fun _ => False) w [own 65 2 v25 p_s.length (p_s.flatMap spanE), own 62 2 v17 ((ofT gap (sortT ts)).length) ((ofT gap (sortT ts)).flatMap spanE), own 62 2 v12 l.length (l.flatMap spanE), own 2 1 v9 ts.length (ts.flatMap intE)] [SlAt 1 tv ts.length (ts.flatMap intE), SlAt 2 lv l.length (l.flatMap spanE)]  w') _ ⟨0, (ofT gap (sortT ts)), ⟨rfl, (Nat.zero_le _), rfl⟩, ⟨rfl, rfl, rfl, rfl, rfl, rfl, rfl, rfl, rfl, rfl, rfl, rfl, rfl, rfl, rfl, rfl, rfl, rfl, rfl, rfl, rfl, rfl, rfl, rfl, rfl, rfl, rfl, rfl, rfl, rfl, rfl⟩, M⟩ ?_
          rintro _ ρ31 w30 ⟨p_, p_s, ⟨hi32, hi33, rfl⟩, hρ, M⟩
          obtain ⟨ρ31, rfl⟩ := hρ.know
          clear hρ
          refine W.seq' ?_
          refine W.seq' ?_
          refine W.region rfl ?_
          refine WL.step (v := (Value.int .i64 ↑p_)) rfl (Step.move rfl) ?_
          refine WL.step (v := v25) rfl (Step.move rfl) ?_
          refine WL.step (v := (Value.int .i64 ↑p_s.length)) rfl (Step.lenSl Try.un58 rfl (own_slAt (M.chunk 0 rfl).inv)) ?_
          refine WL.step (v := (Value.bool (decide ((↑p_ : Int) < (↑p_s.length : Int))))) rfl (Step.pure (by kernel_rfl)) ?_
          refine WL.nil ?_
          refine W.cond (t := decide ((↑p_ : Int) < (↑p_s.length : Int))) rfl (fun h34 => ?_) (fun h34 => ?_)
          ·
            have h34p := of_decide_eq_true h34
            refine W.skip ?_
            refine W.seq' ?_
            refine W.block ?_
            refine W.region rfl ?_
            refine WL.step (v := v25) rfl (Step.move rfl) ?_
            refine WL.step (v := (Value.int .i64 ↑p_)) rfl (Step.move rfl) ?_
            refine WL.step (v := (Value.agg #[(Value.int .i64 0), (Value.int .i64 0)])) rfl (Step.pure (by kernel_rfl)) ?_
            obtain ⟨cap36, hb35⟩ := SlAt.base (own_slAt (M.chunk 0 rfl).inv) (by omega)
            refine WL.step (v := (Value.pointer (some ⟨(sBlk v25), sOff v25 + p_ * 2, none⟩))) rfl (Step.indexAddr (i := p_) (Try.un58).run Try.el65.sized rfl rfl (by omega) hb35 (by omega)) ?_
            refine WL.act rfl (M.storeF spanE_len (⟨0, 0⟩ : Span) 0 rfl Try.el65.sized rfl rfl rfl (cel_cons rfl (cel_cons rfl cel_nil)) (by first | omega | (simp only [List.length_set]; omega))) ?_
            rintro w37 ⟨M, -⟩
            replace M : Mem _ _ _ [own 65 2 v25 ((p_s.set p_ (⟨0, 0⟩ : Span)).length) ((p_s.set p_ (⟨0, 0⟩ : Span)).flatMap spanE), own 62 2 v17 ((ofT gap (sortT ts)).length) ((ofT gap (sortT ts)).flatMap spanE), own 62 2 v12 l.length (l.flatMap spanE), own 2 1 v9 ts.length (ts.flatMap intE)] [SlAt 1 tv ts.length (ts.flatMap intE), SlAt 2 lv l.length (l.flatMap spanE)] _ := M
            refine WL.nil ?_
            refine W.region rfl ?_
            refine WL.step (v := (Value.int .i64 ↑p_)) rfl (Step.move rfl) ?_
            refine WL.step (v := (Value.int .i64 (↑p_ + 1))) rfl (Step.add rfl rfl (wrap_i64 (by omega))) ?_
            refine WL.step (v := (Value.int .i64 (↑p_ + 1))) rfl (Step.assign rfl) ?_
            refine WL.nil ?_
            exact ⟨_, (by omega), p_ + 1, p_s.set p_ (⟨0, 0⟩ : Span), ⟨(by rw [List.length_set]; assumption), (by omega), rfl⟩, ⟨rfl, rfl, rfl, rfl, rfl, rfl, rfl, rfl, rfl, rfl, rfl, rfl, rfl, rfl, rfl, rfl, rfl, rfl, rfl, rfl, rfl, rfl, rfl, rfl, rfl, rfl, rfl, rfl, rfl, rfl, rfl⟩, M⟩
          ·
            have h34p := of_decide_eq_false h34
            refine W.exit ?_
            refine thn_exit ?_
            refine thn_exit ?_
            refine inBlk_hit ?_
            refine W.region rfl ?_
            refine WL.step (v := (Value.int .i64 ↑r_)) rfl (Step.move rfl) ?_
            refine WL.step (v := (Value.int .i64 (↑r_ + 1))) rfl (Step.add rfl rfl (wrap_i64 (by omega))) ?_
            refine WL.step (v := (Value.int .i64 (↑r_ + 1))) rfl (Step.assign rfl) ?_
            refine WL.nil ?_
            replace M := M.sel (L' := [own 62 2 v17 ((ofT gap (sortT ts)).length) ((ofT gap (sortT ts)).flatMap spanE), own 62 2 v12 l.length (l.flatMap spanE), own 2 1 v9 ts.length (ts.flatMap intE)]) [1, 2, 3] rfl (by decide)
            exact ⟨_, (by omega), r_ + 1, ⟨(by omega), rfl⟩, ⟨rfl, rfl, rfl, rfl, rfl, rfl, rfl, rfl, rfl, rfl, rfl⟩, M⟩
        ·
          have h24p := of_decide_eq_false h24
          refine W.exit ?_
          refine thn_exit ?_
          refine thn_exit ?_
          refine inBlk_hit ?_
          refine W.seq' ?_
          refine W.seq' ?_
          refine W.region rfl ?_
          refine WL.step (v := (Value.int .i64 0)) rfl (Step.assign rfl) ?_
          refine WL.nil ?_
          refine W.block ?_
          refine W.loop (fun kk ρ w' => ∃ (i_ : Nat), ((i_ ≤ ts.length) ∧ kk = ts.length - i_) ∧ ρ.has [(0, (Value.int .i64 gap)), (1, (Value.int .i64 t)), (2, tv), (3, lv), (9, v9), (10, v12), (17, (Value.int .i64 ↑i_))] ∧ Mem G (fun _ => False) w [own 62 2 v17 ((ofT gap (sortT ts)).length) ((ofT gap (sortT ts)).flatMap spanE), own 62 2 v12 l.length (l.flatMap spanE), own 2 1 v9 ts.length (ts.flatMap intE)] [SlAt 1 tv ts.length (ts.flatMap intE), SlAt 2 lv l.length (l.flatMap spanE)]  w') _ ⟨0, ⟨(Nat.zero_le _), rfl⟩, ⟨rfl, rfl, rfl, rfl, rfl, rfl, rfl, rfl, rfl⟩, M⟩ ?_
          rintro _ ρ39 w38 ⟨i_, ⟨hi40, rfl⟩, hρ, M⟩
          obtain ⟨ρ39, rfl⟩ := hρ.know
          clear hρ
          refine W.seq' ?_
          refine W.seq' ?_
          refine W.region rfl ?_
          refine WL.step (v := (Value.int .i64 ↑i_)) rfl (Step.move rfl) ?_
          refine WL.step (v := tv) rfl (Step.move rfl) ?_
          refine WL.step (v := (Value.int .i64 ↑ts.length)) rfl (Step.lenSl Try.un70 rfl (M.rep 0 rfl)) ?_
          refine WL.step (v := (Value.bool (decide ((↑i_ : Int) < (↑ts.length : Int))))) rfl (Step.pure (by kernel_rfl)) ?_
          refine WL.nil ?_
          refine W.cond (t := decide ((↑i_ : Int) < (↑ts.length : Int))) rfl (fun h41 => ?_) (fun h41 => ?_)
          ·
            have h41p := of_decide_eq_true h41
            refine W.skip ?_
            refine W.seq' ?_
            refine W.block ?_
            refine W.seq' ?_
            obtain ⟨cap43, hb42⟩ := SlAt.base (M.rep 0 rfl) (by omega)
            obtain ⟨x44, hx44⟩ := elem_of_lt (xs := ts) (i := i_) (by omega)
            obtain ⟨cap46, hb45⟩ := SlAt.base (own_slAt (M.chunk 2 rfl).inv) (by omega)
            refine W.drawn M [0, 1, 2, 3, 4, 5, 6, 7, 8] [] [] [own 62 2 v17 ((ofT gap (sortT ts)).length) ((ofT gap (sortT ts)).flatMap spanE), own 62 2 v12 l.length (l.flatMap spanE), own 2 1 v9 ts.length (ts.flatMap intE)] [SlAt 1 tv ts.length (ts.flatMap intE), SlAt 2 lv l.length (l.flatMap spanE)] (List.Sublist.cons_cons _ (List.Sublist.cons_cons _ (List.Sublist.cons_cons _ List.Sublist.slnil))) (fun _ h => h) Try.mixed (by kernel_rfl) ?_
            refine TW.pure (v := tv) rfl (by decide) (by decide) rfl (fun w => (Step.move rfl)) ?_
            refine TW.pure (v := (Value.int .i64 ↑i_)) rfl (by decide) (by decide) rfl (fun w => (Step.move rfl)) ?_
            refine TW.pure (v := (Value.pointer (some ⟨(sBlk tv), sOff tv + i_ * 1, none⟩))) rfl (by decide) (by decide) rfl (fun w => (Step.indexAddr (i := i_) (Try.un70).run Try.el2.sized rfl rfl (by omega) hb42 (by omega))) ?_
            refine TW.read (v := (Value.int .i64 x44)) rfl (by decide) (by decide) rfl (fun A w M => (Step.loadE (k := 0) Try.sc2 (flat_ec (M.rep 0 rfl) hx44 intE_len) (by decide) rfl rfl)) ?_
            refine TW.pure (v := v9) rfl (by decide) (by decide) rfl (fun w => (Step.move rfl)) ?_
            refine TW.pure (v := (Value.int .i64 ↑i_)) rfl (by decide) (by decide) rfl (fun w => (Step.move rfl)) ?_
            refine TW.pure (v := (Value.pointer (some ⟨(sBlk v9), sOff v9 + i_ * 1, none⟩))) rfl (by decide) (by decide) rfl (fun w => (Step.indexAddr (i := i_) (Try.un70).run Try.el2.sized rfl rfl (by omega) hb45 (by omega))) ?_
            refine TW.read (v := (Value.int .i64 x44)) rfl (by decide) (by decide) rfl (fun A w M => (Step.loadE (k := 0) Try.sc2 (flat_ec (own_slAt (M.chunk 3 rfl).inv) hx44 intE_len) (by decide) rfl rfl)) ?_
            refine TW.pure (v := (Value.bool false)) rfl (by decide) (by decide) rfl (fun w => (Step.cast (congrArg Value.bool (show ((x44 : Int) != (x44 : Int)) = false by simp)) (Step.pure (by kernel_rfl)))) ?_
            refine TW.done (fun w47 M => ?_)
            refine W.cond (t := false) rfl (fun h => by cases h) (fun _ => ?_)
            refine W.skip ?_
            refine W.region rfl ?_
            refine WL.step (v := (Value.int .i64 ↑i_)) rfl (Step.move rfl) ?_
            refine WL.step (v := (Value.int .i64 (↑i_ + 1))) rfl (Step.add rfl rfl (wrap_i64 (by omega))) ?_
            refine WL.step (v := (Value.int .i64 (↑i_ + 1))) rfl (Step.assign rfl) ?_
            refine WL.nil ?_
            exact ⟨_, (by omega), i_ + 1, ⟨(by omega), rfl⟩, ⟨rfl, rfl, rfl, rfl, rfl, rfl, rfl, rfl, rfl⟩, M⟩
          ·
            have h41p := of_decide_eq_false h41
            refine W.exit ?_
            refine thn_exit ?_
            refine thn_exit ?_
            refine inBlk_hit ?_
            refine W.seq' ?_
            refine W.region rfl ?_
            refine WL.step (v := (Value.int .i64 t)) rfl (Step.move rfl) ?_
            refine WL.step (v := lv) rfl (Step.move rfl) ?_
            refine WL.callX rfl (ses_find t lv l (M.enterW0 ⟨(M.wideR0 1 rfl), trivial⟩)) (CallsF.func Try.en36 rfl) ?_
            rintro _ w48 ⟨rfl, m⟩
            replace M := M.leaveW0 m
            clear m
            replace M : Mem _ _ _ [own 62 2 v17 ((ofT gap (sortT ts)).length) ((ofT gap (sortT ts)).flatMap spanE), own 62 2 v12 l.length (l.flatMap spanE), own 2 1 v9 ts.length (ts.flatMap intE)] [SlAt 1 tv ts.length (ts.flatMap intE), SlAt 2 lv l.length (l.flatMap spanE)] _ := M
            refine WL.step (v := (Value.tuple #[(Value.agg #[(Value.int .i64 (((findS t l).1).start)), (Value.int .i64 (((findS t l).1).fin))]), (Value.bool ((findS t l).2))])) rfl (Step.move rfl) ?_
            refine WL.step (v := (Value.agg #[(Value.int .i64 (((findS t l).1).start)), (Value.int .i64 (((findS t l).1).fin))])) rfl (Step.pure (by kernel_rfl)) ?_
            refine WL.step (v := (Value.bool ((findS t l).2))) rfl (Step.pure (by kernel_rfl)) ?_
            refine WL.alloc (c := #[(Value.int .i64 0), (Value.int .i64 0)]) M rfl Try.el65.zero rfl (fun b49 w50 hb49 M => ?_)
            refine WL.store (v := (Value.agg #[(Value.int .i64 (((findS t l).1).start)), (Value.int .i64 (((findS t l).1).fin))])) (cs := [(Value.int .i64 (((findS t l).1).start)), (Value.int .i64 (((findS t l).1).fin))]) (c' := #[(Value.int .i64 (((findS t l).1).start)), (Value.int .i64 (((findS t l).1).fin))]) M 0 rfl rfl Try.el65.sized rfl rfl rfl rfl (Nat.le_of_ble_eq_true rfl) (cel_cons rfl (cel_cons rfl cel_nil)) rfl rfl (fun w51 M => ?_)
            refine WL.step (v := (Value.bool ((findS t l).2))) rfl (Step.assign rfl) ?_
            refine WL.nil ?_
            refine W.seq' ?_
            refine W.region rfl ?_
            refine WL.step (v := (Value.int .i64 t)) rfl (Step.move rfl) ?_
            refine WL.step (v := v12) rfl (Step.move rfl) ?_
            refine WL.callX rfl (ref17_find t v12 l (M.enterW0 ⟨((M.wideC0 2 rfl).imp fun _ h => own_slAt h), trivial⟩)) (CallsF.func Try.en37 rfl) ?_
            rintro _ w52 ⟨rfl, m⟩
            replace M := M.leaveW0 m
            clear m
            replace M : Mem _ _ _ [blk b49 (.cells #[(Value.int .i64 (((findS t l).1).start)), (Value.int .i64 (((findS t l).1).fin))] 65), own 62 2 v17 ((ofT gap (sortT ts)).length) ((ofT gap (sortT ts)).flatMap spanE), own 62 2 v12 l.length (l.flatMap spanE), own 2 1 v9 ts.length (ts.flatMap intE)] [SlAt 1 tv ts.length (ts.flatMap intE), SlAt 2 lv l.length (l.flatMap spanE)] _ := M
            refine WL.step (v := (Value.tuple #[(Value.agg #[(Value.int .i64 (((findS t l).1).start)), (Value.int .i64 (((findS t l).1).fin))]), (Value.bool ((findS t l).2))])) rfl (Step.move rfl) ?_
            refine WL.step (v := (Value.agg #[(Value.int .i64 (((findS t l).1).start)), (Value.int .i64 (((findS t l).1).fin))])) rfl (Step.pure (by kernel_rfl)) ?_
            refine WL.step (v := (Value.bool ((findS t l).2))) rfl (Step.pure (by kernel_rfl)) ?_
            refine WL.alloc (c := #[(Value.int .i64 0), (Value.int .i64 0)]) M rfl Try.el62.zero rfl (fun b53 w54 hb53 M => ?_)
            refine WL.store (v := (Value.agg #[(Value.int .i64 (((findS t l).1).start)), (Value.int .i64 (((findS t l).1).fin))])) (cs := [(Value.int .i64 (((findS t l).1).start)), (Value.int .i64 (((findS t l).1).fin))]) (c' := #[(Value.int .i64 (((findS t l).1).start)), (Value.int .i64 (((findS t l).1).fin))]) M 0 rfl rfl Try.el62.sized rfl rfl rfl rfl (Nat.le_of_ble_eq_true rfl) (cel_cons rfl (cel_cons rfl cel_nil)) rfl rfl (fun w55 M => ?_)
            refine WL.step (v := (Value.bool ((findS t l).2))) rfl (Step.assign rfl) ?_
            refine WL.nil ?_
            refine W.seq' ?_
            refine W.seq' ?_
            refine W.region rfl ?_
            refine WL.step (v := (Value.int .i64 0)) rfl (Step.assign rfl) ?_
            refine WL.nil ?_
            refine W.block ?_
            refine W.loop (fun kk ρ w' => ∃ (j_ : Nat), ((j_ ≤ l.length) ∧ kk = l.length - j_) ∧ ρ.has [(0, (Value.int .i64 gap)), (3, lv), (10, v12), (18, (Value.pointer (some ⟨b49, 0, none⟩))), (19, (Value.bool ((findS t l).2))), (20, (Value.pointer (some ⟨b53, 0, none⟩))), (21, (Value.bool ((findS t l).2))), (22, (Value.int .i64 ↑j_))] ∧ Mem G (fun _ => False) w [blk b53 (.cells #[(Value.int .i64 (((findS t l).1).start)), (Value.int .i64 (((findS t l).1).fin))] 62), blk b49 (.cells #[(Value.int .i64 (((findS t l).1).start)), (Value.int .i64 (((findS t l).1).fin))] 65), own 62 2 v17 ((ofT gap (sortT ts)).length) ((ofT gap (sortT ts)).flatMap spanE), own 62 2 v12 l.length (l.flatMap spanE), own 2 1 v9 ts.length (ts.flatMap intE)] [SlAt 1 tv ts.length (ts.flatMap intE), SlAt 2 lv l.length (l.flatMap spanE)]  w') _ ⟨0, ⟨(Nat.zero_le _), rfl⟩, ⟨rfl, rfl, rfl, rfl, rfl, rfl, rfl, rfl, rfl, rfl⟩, M⟩ ?_
            rintro _ ρ57 w56 ⟨j_, ⟨hi58, rfl⟩, hρ, M⟩
            obtain ⟨ρ57, rfl⟩ := hρ.know
            clear hρ
            refine W.seq' ?_
            refine W.seq' ?_
            refine W.region rfl ?_
            refine WL.step (v := (Value.int .i64 ↑j_)) rfl (Step.move rfl) ?_
            refine WL.step (v := (Value.int .i64 (↑j_ + 1))) rfl (Step.add rfl rfl (wrap_i64 (by omega))) ?_
            refine WL.step (v := lv) rfl (Step.move rfl) ?_
            refine WL.step (v := (Value.int .i64 ↑l.length)) rfl (Step.lenSl Try.un58 rfl (M.rep 1 rfl)) ?_
            refine WL.step (v := (Value.bool (decide ((↑j_ + 1 : Int) < (↑l.length : Int))))) rfl (Step.pure (by kernel_rfl)) ?_
            refine WL.nil ?_
            refine W.cond (t := decide ((↑j_ + 1 : Int) < (↑l.length : Int))) rfl (fun h59 => ?_) (fun h59 => ?_)
            ·
              have h59p := of_decide_eq_true h59
              refine W.skip ?_
              refine W.seq' ?_
              refine W.block ?_
              refine W.seq' ?_
              obtain ⟨cap61, hb60⟩ := SlAt.base (M.rep 1 rfl) (by omega)
              obtain ⟨x62, hx62⟩ := elem_of_lt (xs := l) (i := j_) (by omega)
              obtain ⟨x63, hx63⟩ := elem_of_lt (xs := l) (i := j_ + 1) (by omega)
              obtain ⟨cap65, hb64⟩ := SlAt.base (own_slAt (M.chunk 3 rfl).inv) (by omega)
              refine W.drawn M [0, 1, 2, 3, 4, 5, 6, 7, 8, 9, 10, 11, 12, 13, 14, 15, 16, 17, 18, 19, 20] [9, 19] [] [blk b53 (.cells #[(Value.int .i64 (((findS t l).1).start)), (Value.int .i64 (((findS t l).1).fin))] 62), blk b49 (.cells #[(Value.int .i64 (((findS t l).1).start)), (Value.int .i64 (((findS t l).1).fin))] 65), own 62 2 v17 ((ofT gap (sortT ts)).length) ((ofT gap (sortT ts)).flatMap spanE), own 62 2 v12 l.length (l.flatMap spanE), own 2 1 v9 ts.length (ts.flatMap intE)] [SlAt 1 tv ts.length (ts.flatMap intE), SlAt 2 lv l.length (l.flatMap spanE)] (List.Sublist.cons_cons _ (List.Sublist.cons_cons _ (List.Sublist.cons_cons _ (List.Sublist.cons_cons _ (List.Sublist.cons_cons _ List.Sublist.slnil))))) (fun _ h => h) Try.mixed (by kernel_rfl) ?_
              refine TW.pure (v := lv) rfl (by decide) (by decide) rfl (fun w => (Step.move rfl)) ?_
              refine TW.pure (v := (Value.int .i64 ↑j_)) rfl (by decide) (by decide) rfl (fun w => (Step.move rfl)) ?_
              refine TW.pure (v := (Value.pointer (some ⟨(sBlk lv), sOff lv + j_ * 2, none⟩))) rfl (by decide) (by decide) rfl (fun w => (Step.indexAddr (i := j_) (Try.un58).run Try.el65.sized rfl rfl (by omega) hb60 (by omega))) ?_
              refine TW.read (v := (Value.agg #[(Value.int .i64 x62.start), (Value.int .i64 x62.fin)])) rfl (by decide) (by decide) rfl (fun A w M => (Step.loadEN (k := 0) (cs' := [(Value.int .i64 x62.start), (Value.int .i64 x62.fin)]) Try.ag65 (flat_ec (M.rep 1 rfl) hx62 spanE_len) (by decide) rfl rfl rfl)) ?_
              refine TW.pure (v := lv) rfl (by decide) (by decide) rfl (fun w => (Step.move rfl)) ?_
              refine TW.pure (v := (Value.int .i64 ↑j_)) rfl (by decide) (by decide) rfl (fun w => (Step.move rfl)) ?_
              refine TW.pure (v := (Value.int .i64 (↑j_ + 1))) rfl (by decide) (by decide) rfl (fun w => (Step.add rfl rfl (wrap_i64 (by omega)))) ?_
              refine TW.pure (v := (Value.pointer (some ⟨(sBlk lv), sOff lv + (j_ + 1) * 2, none⟩))) rfl (by decide) (by decide) rfl (fun w => (Step.indexAddr (i := j_ + 1) (Try.un58).run Try.el65.sized rfl rfl (by omega) hb60 (by omega))) ?_
              refine TW.read (v := (Value.agg #[(Value.int .i64 x63.start), (Value.int .i64 x63.fin)])) rfl (by decide) (by decide) rfl (fun A w M => (Step.loadEN (k := 0) (cs' := [(Value.int .i64 x63.start), (Value.int .i64 x63.fin)]) Try.ag65 (flat_ec (M.rep 1 rfl) hx63 spanE_len) (by decide) rfl rfl rfl)) ?_
              refine TW.callX (ι := Unit) (fun jx v_ => v_ = (Value.bool (overS2 x62 x63))) (fun jx => [blk b53 (.cells #[(Value.int .i64 (((findS t l).1).start)), (Value.int .i64 (((findS t l).1).fin))] 62), blk b49 (.cells #[(Value.int .i64 (((findS t l).1).start)), (Value.int .i64 (((findS t l).1).fin))] 65), own 62 2 v17 ((ofT gap (sortT ts)).length) ((ofT gap (sortT ts)).flatMap spanE), own 62 2 v12 l.length (l.flatMap spanE), own 2 1 v9 ts.length (ts.flatMap intE)]) (fun jx => [SlAt 1 tv ts.length (ts.flatMap intE), SlAt 2 lv l.length (l.flatMap spanE)]) rfl (by decide) rfl (fun jx => (List.Sublist.cons_cons _ (List.Sublist.cons_cons _ (List.Sublist.cons_cons _ (List.Sublist.cons_cons _ (List.Sublist.cons_cons _ List.Sublist.slnil)))))) (fun jx r h => h) (fun A w M => Rets.mono (ses_over x62 x63 (M.enterW0 trivial)) (fun v_ w_ ⟨e_, m⟩ => ⟨(), e_, (M.leaveW0 m).sel (L' := [fl A, blk b53 (.cells #[(Value.int .i64 (((findS t l).1).start)), (Value.int .i64 (((findS t l).1).fin))] 62), blk b49 (.cells #[(Value.int .i64 (((findS t l).1).start)), (Value.int .i64 (((findS t l).1).fin))] 65), own 62 2 v17 ((ofT gap (sortT ts)).length) ((ofT gap (sortT ts)).flatMap spanE), own 62 2 v12 l.length (l.flatMap spanE), own 2 1 v9 ts.length (ts.flatMap intE)]) [0, 1, 2, 3, 4, 5] rfl (by decide), fun b hb => M.keptW0 m (fl A) (List.mem_cons_self ..) b hb⟩)) (fun w => CallsF.func Try.en38 rfl) (fun jx v hp hin => ?_)
              replace hp := hp.symm; subst hp
              clear hin
              change TW _ _ _ _ _ _ _ _ (MemA _ _ _ [blk b53 (.cells #[(Value.int .i64 (((findS t l).1).start)), (Value.int .i64 (((findS t l).1).fin))] 62), blk b49 (.cells #[(Value.int .i64 (((findS t l).1).start)), (Value.int .i64 (((findS t l).1).fin))] 65), own 62 2 v17 ((ofT gap (sortT ts)).length) ((ofT gap (sortT ts)).flatMap spanE), own 62 2 v12 l.length (l.flatMap spanE), own 2 1 v9 ts.length (ts.flatMap intE)] [SlAt 1 tv ts.length (ts.flatMap intE), SlAt 2 lv l.length (l.flatMap spanE)])
              refine TW.pure (v := v12) rfl (by decide) (by decide) rfl (fun w => (Step.move rfl)) ?_
              refine TW.pure (v := (Value.int .i64 ↑j_)) rfl (by decide) (by decide) rfl (fun w => (Step.move rfl)) ?_
              refine TW.pure (v := (Value.pointer (some ⟨(sBlk v12), sOff v12 + j_ * 2, none⟩))) rfl (by decide) (by decide) rfl (fun w => (Step.indexAddr (i := j_) (Try.un59).run Try.el62.sized rfl rfl (by omega) hb64 (by omega))) ?_
              refine TW.read (v := (Value.agg #[(Value.int .i64 x62.start), (Value.int .i64 x62.fin)])) rfl (by decide) (by decide) rfl (fun A w M => (Step.loadEN (k := 0) (cs' := [(Value.int .i64 x62.start), (Value.int .i64 x62.fin)]) Try.ag62 (flat_ec (own_slAt (M.chunk 4 rfl).inv) hx62 spanE_len) (by decide) rfl rfl rfl)) ?_
              refine TW.pure (v := v12) rfl (by decide) (by decide) rfl (fun w => (Step.move rfl)) ?_
              refine TW.pure (v := (Value.int .i64 ↑j_)) rfl (by decide) (by decide) rfl (fun w => (Step.move rfl)) ?_
              refine TW.pure (v := (Value.int .i64 (↑j_ + 1))) rfl (by decide) (by decide) rfl (fun w => (Step.add rfl rfl (wrap_i64 (by omega)))) ?_
              refine TW.pure (v := (Value.pointer (some ⟨(sBlk v12), sOff v12 + (j_ + 1) * 2, none⟩))) rfl (by decide) (by decide) rfl (fun w => (Step.indexAddr (i := j_ + 1) (Try.un59).run Try.el62.sized rfl rfl (by omega) hb64 (by omega))) ?_
              refine TW.read (v := (Value.agg #[(Value.int .i64 x63.start), (Value.int .i64 x63.fin)])) rfl (by decide) (by decide) rfl (fun A w M => (Step.loadEN (k := 0) (cs' := [(Value.int .i64 x63.start), (Value.int .i64 x63.fin)]) Try.ag62 (flat_ec (own_slAt (M.chunk 4 rfl).inv) hx63 spanE_len) (by decide) rfl rfl rfl)) ?_
              refine TW.callX (ι := Unit) (fun jx v_ => v_ = (Value.bool (overS2 x62 x63))) (fun jx => [blk b53 (.cells #[(Value.int .i64 (((findS t l).1).start)), (Value.int .i64 (((findS t l).1).fin))] 62), blk b49 (.cells #[(Value.int .i64 (((findS t l).1).start)), (Value.int .i64 (((findS t l).1).fin))] 65), own 62 2 v17 ((ofT gap (sortT ts)).length) ((ofT gap (sortT ts)).flatMap spanE), own 62 2 v12 l.length (l.flatMap spanE), own 2 1 v9 ts.length (ts.flatMap intE)]) (fun jx => [SlAt 1 tv ts.length (ts.flatMap intE), SlAt 2 lv l.length (l.flatMap spanE)]) rfl (by decide) rfl (fun jx => (List.Sublist.cons_cons _ (List.Sublist.cons_cons _ (List.Sublist.cons_cons _ (List.Sublist.cons_cons _ (List.Sublist.cons_cons _ List.Sublist.slnil)))))) (fun jx r h => h) (fun A w M => Rets.mono (ref17_over x62 x63 (M.enterW0 trivial)) (fun v_ w_ ⟨e_, m⟩ => ⟨(), e_, (M.leaveW0 m).sel (L' := [fl A, blk b53 (.cells #[(Value.int .i64 (((findS t l).1).start)), (Value.int .i64 (((findS t l).1).fin))] 62), blk b49 (.cells #[(Value.int .i64 (((findS t l).1).start)), (Value.int .i64 (((findS t l).1).fin))] 65), own 62 2 v17 ((ofT gap (sortT ts)).length) ((ofT gap (sortT ts)).flatMap spanE), own 62 2 v12 l.length (l.flatMap spanE), own 2 1 v9 ts.length (ts.flatMap intE)]) [0, 1, 2, 3, 4, 5] rfl (by decide), fun b hb => M.keptW0 m (fl A) (List.mem_cons_self ..) b hb⟩)) (fun w => CallsF.func Try.en39 rfl) (fun jx v hp hin => ?_)
              replace hp := hp.symm; subst hp
              clear hin
              change TW _ _ _ _ _ _ _ _ (MemA _ _ _ [blk b53 (.cells #[(Value.int .i64 (((findS t l).1).start)), (Value.int .i64 (((findS t l).1).fin))] 62), blk b49 (.cells #[(Value.int .i64 (((findS t l).1).start)), (Value.int .i64 (((findS t l).1).fin))] 65), own 62 2 v17 ((ofT gap (sortT ts)).length) ((ofT gap (sortT ts)).flatMap spanE), own 62 2 v12 l.length (l.flatMap spanE), own 2 1 v9 ts.length (ts.flatMap intE)] [SlAt 1 tv ts.length (ts.flatMap intE), SlAt 2 lv l.length (l.flatMap spanE)])
              refine TW.pure (v := (Value.bool false)) rfl (by decide) (by decide) rfl (fun w => (Step.cast (congrArg Value.bool (by simp)) (Step.pure (v := .bool (!((overS2 x62 x63) == (overS2 x62 x63)))) (by kernel_rfl)))) ?_
              refine TW.done (fun w66 M => ?_)
              refine W.cond (t := false) rfl (fun h => by cases h) (fun _ => ?_)
              refine W.skip ?_
              refine W.region rfl ?_
              refine WL.step (v := (Value.int .i64 ↑j_)) rfl (Step.move rfl) ?_
              refine WL.step (v := (Value.int .i64 (↑j_ + 1))) rfl (Step.add rfl rfl (wrap_i64 (by omega))) ?_
              refine WL.step (v := (Value.int .i64 (↑j_ + 1))) rfl (Step.assign rfl) ?_
              refine WL.nil ?_
              exact ⟨_, (by omega), j_ + 1, ⟨(by omega), rfl⟩, ⟨rfl, rfl, rfl, rfl, rfl, rfl, rfl, rfl, rfl, rfl⟩, M⟩
            ·
              have h59p := of_decide_eq_false h59
              refine W.exit ?_
              refine thn_exit ?_
              refine thn_exit ?_
              refine inBlk_hit ?_
              refine W.seq' ?_
              refine W.region rfl ?_
              refine WL.step (v := (Value.pointer (some ⟨b49, 0, none⟩))) rfl (Step.pure (by kernel_rfl)) ?_
              refine WL.step (v := (Value.int .i64 (((findS t l).1).start))) rfl (Step.load1 Try.sc2 rfl ((M.cell 1 rfl 0).trans rfl)) ?_
              refine WL.step (v := (Value.pointer (some ⟨b53, 0, none⟩))) rfl (Step.pure (by kernel_rfl)) ?_
              refine WL.step (v := (Value.int .i64 (((findS t l).1).start))) rfl (Step.load1 Try.sc2 rfl ((M.cell 0 rfl 0).trans rfl)) ?_
              refine WL.step (v := (Value.bool true)) rfl (Step.cast (congrArg Value.bool (show ((((findS t l).1).start : Int) == (((findS t l).1).start : Int)) = true by simp)) (Step.pure (by kernel_rfl))) ?_
              refine WL.step (v := (Value.bool true)) rfl (Step.move rfl) ?_
              refine WL.step (v := (Value.pointer (some ⟨b49, 1, none⟩))) rfl (Step.pure (by kernel_rfl)) ?_
              refine WL.step (v := (Value.int .i64 (((findS t l).1).fin))) rfl (Step.load1 Try.sc2 rfl ((M.cell 1 rfl 1).trans rfl)) ?_
              refine WL.step (v := (Value.pointer (some ⟨b53, 1, none⟩))) rfl (Step.pure (by kernel_rfl)) ?_
              refine WL.step (v := (Value.int .i64 (((findS t l).1).fin))) rfl (Step.load1 Try.sc2 rfl ((M.cell 0 rfl 1).trans rfl)) ?_
              refine WL.step (v := (Value.bool true)) rfl (Step.cast (congrArg Value.bool (show ((((findS t l).1).fin : Int) == (((findS t l).1).fin : Int)) = true by simp)) (Step.pure (by kernel_rfl))) ?_
              refine WL.step (v := (Value.bool true)) rfl (Step.pick (t := true) rfl rfl) ?_
              refine WL.step (v := (Value.bool true)) rfl (Step.move rfl) ?_
              refine WL.step (v := (Value.bool ((findS t l).2))) rfl (Step.move rfl) ?_
              refine WL.step (v := (Value.bool ((findS t l).2))) rfl (Step.move rfl) ?_
              refine WL.step (v := (Value.bool true)) rfl (Step.cast (congrArg Value.bool (by simp)) (Step.pure (v := .bool ((((findS t l).2) == ((findS t l).2)))) (by kernel_rfl))) ?_
              refine WL.step (v := (Value.bool true)) rfl (Step.pick (t := true) rfl rfl) ?_
              refine WL.step (v := (Value.bool true)) rfl (Step.move rfl) ?_
              refine WL.step (v := (Value.int .i64 gap)) rfl (Step.move rfl) ?_
              refine WL.step (v := lv) rfl (Step.move rfl) ?_
              refine WL.callX rfl (ses_right gap lv l (by first | assumption | decide) (by first | assumption | (unfold in64; omega)) (M.enterW0 ⟨(M.wideR0 1 rfl), trivial⟩)) (CallsF.func Try.en40 rfl) ?_
              rintro _ w67 ⟨rfl, m⟩
              replace M := M.leaveW0 m
              clear m
              replace M : Mem _ _ _ [blk b53 (.cells #[(Value.int .i64 (((findS t l).1).start)), (Value.int .i64 (((findS t l).1).fin))] 62), blk b49 (.cells #[(Value.int .i64 (((findS t l).1).start)), (Value.int .i64 (((findS t l).1).fin))] 65), own 62 2 v17 ((ofT gap (sortT ts)).length) ((ofT gap (sortT ts)).flatMap spanE), own 62 2 v12 l.length (l.flatMap spanE), own 2 1 v9 ts.length (ts.flatMap intE)] [SlAt 1 tv ts.length (ts.flatMap intE), SlAt 2 lv l.length (l.flatMap spanE)] _ := M
              refine WL.step (v := (Value.int .i64 gap)) rfl (Step.move rfl) ?_
              refine WL.step (v := v12) rfl (Step.move rfl) ?_
              refine WL.callX rfl (ref17_right gap v12 l (by first | assumption | decide) (by first | assumption | (unfold in64; omega)) (M.enterW0 ⟨((M.wideC0 3 rfl).imp fun _ h => own_slAt h), trivial⟩)) (CallsF.func Try.en41 rfl) ?_
              rintro _ w68 ⟨rfl, m⟩
              replace M := M.leaveW0 m
              clear m
              replace M : Mem _ _ _ [blk b53 (.cells #[(Value.int .i64 (((findS t l).1).start)), (Value.int .i64 (((findS t l).1).fin))] 62), blk b49 (.cells #[(Value.int .i64 (((findS t l).1).start)), (Value.int .i64 (((findS t l).1).fin))] 65), own 62 2 v17 ((ofT gap (sortT ts)).length) ((ofT gap (sortT ts)).flatMap spanE), own 62 2 v12 l.length (l.flatMap spanE), own 2 1 v9 ts.length (ts.flatMap intE)] [SlAt 1 tv ts.length (ts.flatMap intE), SlAt 2 lv l.length (l.flatMap spanE)] _ := M
              refine WL.step (v := (Value.bool true)) rfl (Step.cast (congrArg Value.bool (by simp)) (Step.pure (v := .bool (((rightB gap l) == (rightB gap l)))) (by kernel_rfl))) ?_
              refine WL.step (v := (Value.bool true)) rfl (Step.pick (t := true) rfl rfl) ?_
              refine WL.step (v := (Value.bool true)) rfl (Step.move rfl) ?_
              refine WL.callX rfl (law17_works  (M.enterW0 trivial)) (CallsF.func Try.en29 rfl) ?_
              rintro _ w69 ⟨rfl, m⟩
              replace M := M.leaveW0 m
              clear m
              replace M : Mem _ _ _ [blk b53 (.cells #[(Value.int .i64 (((findS t l).1).start)), (Value.int .i64 (((findS t l).1).fin))] 62), blk b49 (.cells #[(Value.int .i64 (((findS t l).1).start)), (Value.int .i64 (((findS t l).1).fin))] 65), own 62 2 v17 ((ofT gap (sortT ts)).length) ((ofT gap (sortT ts)).flatMap spanE), own 62 2 v12 l.length (l.flatMap spanE), own 2 1 v9 ts.length (ts.flatMap intE)] [SlAt 1 tv ts.length (ts.flatMap intE), SlAt 2 lv l.length (l.flatMap spanE)] _ := M
              refine WL.step (v := (Value.bool true)) rfl (Step.pick (t := true) rfl rfl) ?_
              refine WL.step (v := (Value.bool true)) rfl (Step.assign rfl) ?_
              refine WL.nil ?_
              refine W.ret ?_
              refine ⟨.inl rfl, (Value.bool true), ?_, ?_⟩
              · exact ⟨rfl, (Res.r1 (show RV _ _ _ (.tmp 8) (Value.bool true) from by exact rfl))⟩
              refine ⟨?_, M.close [] rfl (by decide) trivial⟩
              rfl
      ·
        refine WL.callX rfl (ref17_ofno gap v9 ts (by first | omega | assumption | decide | (simp only [List.length_nil, List.length_cons, List.length_take, List.length_drop]; omega)) h16 (M.enterW0 ⟨((M.wideC0 1 rfl).imp fun _ h => own_slAt h), trivial⟩)) (CallsF.func Try.en34 rfl) ?_
        rintro _ w70 ⟨rfl, m⟩
        replace M := M.leaveW0 m
        clear m
        replace M : Mem _ _ _ [own 62 2 v12 l.length (l.flatMap spanE), own 2 1 v9 ts.length (ts.flatMap intE)] [SlAt 1 tv ts.length (ts.flatMap intE), SlAt 2 lv l.length (l.flatMap spanE)] _ := M
        refine WL.step (v := (Value.tuple #[(Value.slice none 0 0), (Value.int .i64 2)])) rfl (Step.move rfl) ?_
        refine WL.step (v := (Value.slice none 0 0)) rfl (Step.pure (by kernel_rfl)) ?_
        refine WL.step (v := (Value.int .i64 2)) rfl (Step.pure (by kernel_rfl)) ?_
        refine WL.step (v := (Value.slice none 0 0)) rfl (Step.assign rfl) ?_
        refine WL.step (v := (Value.int .i64 2)) rfl (Step.assign rfl) ?_
        refine WL.nil ?_
        refine W.seq' ?_
        refine W.seq' ?_
        refine W.region rfl ?_
        refine WL.step (v := (Value.int .i64 0)) rfl (Step.assign rfl) ?_
        refine WL.nil ?_
        refine W.block ?_
        refine W.loop (fun kk ρ w' => ∃ (r_ : Nat), ((r_ ≤ 2) ∧ kk = 2 - r_) ∧ ρ.has [(0, (Value.int .i64 gap)), (1, (Value.int .i64 t)), (2, tv), (3, lv), (9, v9), (10, v12), (11, (Value.slice none 0 0)), (12, (Value.int .i64 2)), (13, (Value.int .i64 ↑r_))] ∧ Mem G (fun _ => False) w [own 62 2 v12 l.length (l.flatMap spanE), own 2 1 v9 ts.length (ts.flatMap intE)] [SlAt 1 tv ts.length (ts.flatMap intE), SlAt 2 lv l.length (l.flatMap spanE)]  w') _ ⟨0, ⟨(by omega), rfl⟩, ⟨rfl, rfl, rfl, rfl, rfl, rfl, rfl, rfl, rfl, rfl, rfl⟩, M⟩ ?_
        rintro _ ρ72 w71 ⟨r_, ⟨hi73, rfl⟩, hρ, M⟩
        obtain ⟨ρ72, rfl⟩ := hρ.know
        clear hρ
        refine W.seq' ?_
        refine W.seq' ?_
        refine W.region rfl ?_
        refine WL.step (v := (Value.int .i64 ↑r_)) rfl (Step.move rfl) ?_
        refine WL.step (v := (Value.bool (decide ((↑r_ : Int) < (2 : Int))))) rfl (Step.pure (by kernel_rfl)) ?_
        refine WL.nil ?_
        refine W.cond (t := decide ((↑r_ : Int) < (2 : Int))) rfl (fun h74 => ?_) (fun h74 => ?_)
        ·
          have h74p := of_decide_eq_true h74
          refine W.skip ?_
          refine W.seq' ?_
          refine W.block ?_
          refine W.seq' ?_
          refine W.region rfl ?_
          refine WL.step (v := (Value.int .i64 gap)) rfl (Step.move rfl) ?_
          refine WL.step (v := tv) rfl (Step.move rfl) ?_
          refine WL.callX rfl (ses_ofno gap tv ts h16 (M.enterW0 ⟨(M.wideR0 0 rfl), trivial⟩)) (CallsF.func Try.en35 rfl) ?_
          rintro _ w75 ⟨rfl, m⟩
          replace M := M.leaveW0 m
          clear m
          replace M : Mem _ _ _ [own 62 2 v12 l.length (l.flatMap spanE), own 2 1 v9 ts.length (ts.flatMap intE)] [SlAt 1 tv ts.length (ts.flatMap intE), SlAt 2 lv l.length (l.flatMap spanE)] _ := M
          refine WL.step (v := (Value.tuple #[(Value.slice none 0 0), (Value.int .i64 2)])) rfl (Step.move rfl) ?_
          refine WL.step (v := (Value.slice none 0 0)) rfl (Step.pure (by kernel_rfl)) ?_
          refine WL.step (v := (Value.int .i64 2)) rfl (Step.pure (by kernel_rfl)) ?_
          refine WL.step (v := (Value.slice none 0 0)) rfl (Step.assign rfl) ?_
          refine WL.step (v := (Value.int .i64 2)) rfl (Step.assign rfl) ?_
          refine WL.nil ?_
          refine W.seq' ?_
          refine W.seq' ?_
          refine W.region rfl ?_
          refine WL.step (v := (Value.int .i64 2)) rfl (Step.move rfl) ?_
          refine WL.step (v := (Value.int .i64 2)) rfl (Step.move rfl) ?_
          refine WL.step (v := (Value.bool false)) rfl (Step.pure (by kernel_rfl)) ?_
          refine WL.step (v := (Value.bool false)) rfl (Step.move rfl) ?_
          refine WL.step (v := (Value.slice none 0 0)) rfl (Step.move rfl) ?_
          refine WL.step (v := (Value.slice none 0 0)) rfl (Step.move rfl) ?_
          refine WL.callX rfl (law17_same (Value.slice none 0 0) ([] : List Span) (Value.slice none 0 0) ([] : List Span) (M.enterW0 ⟨(Sh.pure fun w => SlAt.nil 2 w), (Sh.pure fun w => SlAt.nil 2 w), trivial⟩)) (CallsF.func Try.en33 rfl) ?_
          rintro _ w76 ⟨rfl, m⟩
          replace M := M.leaveW0 m
          clear m
          replace M : Mem _ _ _ [own 62 2 v12 l.length (l.flatMap spanE), own 2 1 v9 ts.length (ts.flatMap intE)] [SlAt 1 tv ts.length (ts.flatMap intE), SlAt 2 lv l.length (l.flatMap spanE)] _ := M
          rw [(show (decide (([] : List Span) = ([] : List Span))) = true by simp)]
          refine WL.step (v := (Value.bool false)) rfl (Step.pure (by kernel_rfl)) ?_
          refine WL.step (v := (Value.bool false)) rfl (Step.pick (t := false) rfl rfl) ?_
          refine WL.nil ?_
          refine W.cond (t := false) rfl (fun h => by cases h) (fun _ => ?_)
          refine W.skip ?_
          refine W.seq' ?_
          refine W.region rfl ?_
          refine WL.step (v := (Value.int .i64 0)) rfl (Step.assign rfl) ?_
          refine WL.nil ?_
          refine W.block ?_
          refine W.loop (fun kk ρ w' => (kk = 0) ∧ ρ.has [(0, (Value.int .i64 gap)), (1, (Value.int .i64 t)), (2, tv), (3, lv), (9, v9), (10, v12), (11, (Value.slice none 0 0)), (12, (Value.int .i64 2)), (13, (Value.int .i64 ↑r_)), (14, (Value.slice none 0 0)), (15, (Value.int .i64 2)), (16, (Value.int .i64 0)), (43, (Value.int .i64 ↑r_)), (44, (Value.bool (decide ((↑r_ : Int) < (2 : Int))))), (47, (Value.tuple #[(Value.slice none 0 0), (Value.int .i64 2)])), (48, (Value.int .i64 gap)), (49, tv), (50, (Value.tuple #[(Value.slice none 0 0), (Value.int .i64 2)])), (51, (Value.slice none 0 0)), (52, (Value.int .i64 2)), (53, (Value.int .i64 2)), (54, (Value.int .i64 2)), (55, (Value.bool false)), (56, (Value.bool false)), (57, (Value.slice none 0 0)), (58, (Value.slice none 0 0)), (59, (Value.bool true)), (60, (Value.bool false)), (61, (Value.bool false))] ∧ Mem G (fun _ => False) w [own 62 2 v12 l.length (l.flatMap spanE), own 2 1 v9 ts.length (ts.flatMap intE)] [SlAt 1 tv ts.length (ts.flatMap intE), SlAt 2 lv l.length (l.flatMap spanE)]  w') _ ⟨rfl, ⟨rfl, rfl, rfl, rfl, rfl, rfl, rfl, rfl, rfl, rfl, rfl, rfl, rfl, rfl, rfl, rfl, rfl, rfl, rfl, rfl, rfl, rfl, rfl, rfl, rfl, rfl, rfl, rfl, rfl, rfl, rfl⟩, M⟩ ?_
          rintro _ ρ78 w77 ⟨rfl, hρ, M⟩
          obtain ⟨ρ78, rfl⟩ := hρ.know
          clear hρ
          refine W.seq' ?_
          refine W.seq' ?_
          refine W.region rfl ?_
          refine WL.step (v := (Value.int .i64 0)) rfl (Step.move rfl) ?_
          refine WL.step (v := (Value.slice none 0 0)) rfl (Step.move rfl) ?_
          refine WL.step (v := (Value.int .i64 0)) rfl (Step.lenS Try.un58 rfl rfl) ?_
          refine WL.step (v := (Value.bool false)) rfl (Step.pure (by kernel_rfl)) ?_
          refine WL.nil ?_
          refine W.cond (t := false) rfl (fun h => by cases h) (fun _ => ?_)
          refine W.exit ?_
          refine thn_exit ?_
          refine thn_exit ?_
          refine inBlk_hit ?_
          refine W.region rfl ?_
          refine WL.step (v := (Value.int .i64 ↑r_)) rfl (Step.move rfl) ?_
          refine WL.step (v := (Value.int .i64 (↑r_ + 1))) rfl (Step.add rfl rfl (wrap_i64 (by omega))) ?_
          refine WL.step (v := (Value.int .i64 (↑r_ + 1))) rfl (Step.assign rfl) ?_
          refine WL.nil ?_
          exact ⟨_, (by omega), r_ + 1, ⟨(by omega), rfl⟩, ⟨rfl, rfl, rfl, rfl, rfl, rfl, rfl, rfl, rfl, rfl, rfl⟩, M⟩
        ·
          have h74p := of_decide_eq_false h74
          refine W.exit ?_
          refine thn_exit ?_
          refine thn_exit ?_
          refine inBlk_hit ?_
          refine W.seq' ?_
          refine W.seq' ?_
          refine W.region rfl ?_
          refine WL.step (v := (Value.int .i64 0)) rfl (Step.assign rfl) ?_
          refine WL.nil ?_
          refine W.block ?_
          refine W.loop (fun kk ρ w' => ∃ (i_ : Nat), ((i_ ≤ ts.length) ∧ kk = ts.length - i_) ∧ ρ.has [(0, (Value.int .i64 gap)), (1, (Value.int .i64 t)), (2, tv), (3, lv), (9, v9), (10, v12), (17, (Value.int .i64 ↑i_))] ∧ Mem G (fun _ => False) w [own 62 2 v12 l.length (l.flatMap spanE), own 2 1 v9 ts.length (ts.flatMap intE)] [SlAt 1 tv ts.length (ts.flatMap intE), SlAt 2 lv l.length (l.flatMap spanE)]  w') _ ⟨0, ⟨(Nat.zero_le _), rfl⟩, ⟨rfl, rfl, rfl, rfl, rfl, rfl, rfl, rfl, rfl⟩, M⟩ ?_
          rintro _ ρ80 w79 ⟨i_, ⟨hi81, rfl⟩, hρ, M⟩
          obtain ⟨ρ80, rfl⟩ := hρ.know
          clear hρ
          refine W.seq' ?_
          refine W.seq' ?_
          refine W.region rfl ?_
          refine WL.step (v := (Value.int .i64 ↑i_)) rfl (Step.move rfl) ?_
          refine WL.step (v := tv) rfl (Step.move rfl) ?_
          refine WL.step (v := (Value.int .i64 ↑ts.length)) rfl (Step.lenSl Try.un70 rfl (M.rep 0 rfl)) ?_
          refine WL.step (v := (Value.bool (decide ((↑i_ : Int) < (↑ts.length : Int))))) rfl (Step.pure (by kernel_rfl)) ?_
          refine WL.nil ?_
          refine W.cond (t := decide ((↑i_ : Int) < (↑ts.length : Int))) rfl (fun h82 => ?_) (fun h82 => ?_)
          ·
            have h82p := of_decide_eq_true h82
            refine W.skip ?_
            refine W.seq' ?_
            refine W.block ?_
            refine W.seq' ?_
            obtain ⟨cap84, hb83⟩ := SlAt.base (M.rep 0 rfl) (by omega)
            obtain ⟨x85, hx85⟩ := elem_of_lt (xs := ts) (i := i_) (by omega)
            obtain ⟨cap87, hb86⟩ := SlAt.base (own_slAt (M.chunk 1 rfl).inv) (by omega)
            refine W.drawn M [0, 1, 2, 3, 4, 5, 6, 7, 8] [] [] [own 62 2 v12 l.length (l.flatMap spanE), own 2 1 v9 ts.length (ts.flatMap intE)] [SlAt 1 tv ts.length (ts.flatMap intE), SlAt 2 lv l.length (l.flatMap spanE)] (List.Sublist.cons_cons _ (List.Sublist.cons_cons _ List.Sublist.slnil)) (fun _ h => h) Try.mixed (by kernel_rfl) ?_
            refine TW.pure (v := tv) rfl (by decide) (by decide) rfl (fun w => (Step.move rfl)) ?_
            refine TW.pure (v := (Value.int .i64 ↑i_)) rfl (by decide) (by decide) rfl (fun w => (Step.move rfl)) ?_
            refine TW.pure (v := (Value.pointer (some ⟨(sBlk tv), sOff tv + i_ * 1, none⟩))) rfl (by decide) (by decide) rfl (fun w => (Step.indexAddr (i := i_) (Try.un70).run Try.el2.sized rfl rfl (by omega) hb83 (by omega))) ?_
            refine TW.read (v := (Value.int .i64 x85)) rfl (by decide) (by decide) rfl (fun A w M => (Step.loadE (k := 0) Try.sc2 (flat_ec (M.rep 0 rfl) hx85 intE_len) (by decide) rfl rfl)) ?_
            refine TW.pure (v := v9) rfl (by decide) (by decide) rfl (fun w => (Step.move rfl)) ?_
            refine TW.pure (v := (Value.int .i64 ↑i_)) rfl (by decide) (by decide) rfl (fun w => (Step.move rfl)) ?_
            refine TW.pure (v := (Value.pointer (some ⟨(sBlk v9), sOff v9 + i_ * 1, none⟩))) rfl (by decide) (by decide) rfl (fun w => (Step.indexAddr (i := i_) (Try.un70).run Try.el2.sized rfl rfl (by omega) hb86 (by omega))) ?_
            refine TW.read (v := (Value.int .i64 x85)) rfl (by decide) (by decide) rfl (fun A w M => (Step.loadE (k := 0) Try.sc2 (flat_ec (own_slAt (M.chunk 2 rfl).inv) hx85 intE_len) (by decide) rfl rfl)) ?_
            refine TW.pure (v := (Value.bool false)) rfl (by decide) (by decide) rfl (fun w => (Step.cast (congrArg Value.bool (show ((x85 : Int) != (x85 : Int)) = false by simp)) (Step.pure (by kernel_rfl)))) ?_
            refine TW.done (fun w88 M => ?_)
            refine W.cond (t := false) rfl (fun h => by cases h) (fun _ => ?_)
            refine W.skip ?_
            refine W.region rfl ?_
            refine WL.step (v := (Value.int .i64 ↑i_)) rfl (Step.move rfl) ?_
            refine WL.step (v := (Value.int .i64 (↑i_ + 1))) rfl (Step.add rfl rfl (wrap_i64 (by omega))) ?_
            refine WL.step (v := (Value.int .i64 (↑i_ + 1))) rfl (Step.assign rfl) ?_
            refine WL.nil ?_
            exact ⟨_, (by omega), i_ + 1, ⟨(by omega), rfl⟩, ⟨rfl, rfl, rfl, rfl, rfl, rfl, rfl, rfl, rfl⟩, M⟩
          ·
            have h82p := of_decide_eq_false h82
            refine W.exit ?_
            refine thn_exit ?_
            refine thn_exit ?_
            refine inBlk_hit ?_
            refine W.seq' ?_
            refine W.region rfl ?_
            refine WL.step (v := (Value.int .i64 t)) rfl (Step.move rfl) ?_
            refine WL.step (v := lv) rfl (Step.move rfl) ?_
            refine WL.callX rfl (ses_find t lv l (M.enterW0 ⟨(M.wideR0 1 rfl), trivial⟩)) (CallsF.func Try.en36 rfl) ?_
            rintro _ w89 ⟨rfl, m⟩
            replace M := M.leaveW0 m
            clear m
            replace M : Mem _ _ _ [own 62 2 v12 l.length (l.flatMap spanE), own 2 1 v9 ts.length (ts.flatMap intE)] [SlAt 1 tv ts.length (ts.flatMap intE), SlAt 2 lv l.length (l.flatMap spanE)] _ := M
            refine WL.step (v := (Value.tuple #[(Value.agg #[(Value.int .i64 (((findS t l).1).start)), (Value.int .i64 (((findS t l).1).fin))]), (Value.bool ((findS t l).2))])) rfl (Step.move rfl) ?_
            refine WL.step (v := (Value.agg #[(Value.int .i64 (((findS t l).1).start)), (Value.int .i64 (((findS t l).1).fin))])) rfl (Step.pure (by kernel_rfl)) ?_
            refine WL.step (v := (Value.bool ((findS t l).2))) rfl (Step.pure (by kernel_rfl)) ?_
            refine WL.alloc (c := #[(Value.int .i64 0), (Value.int .i64 0)]) M rfl Try.el65.zero rfl (fun b90 w91 hb90 M => ?_)
            refine WL.store (v := (Value.agg #[(Value.int .i64 (((findS t l).1).start)), (Value.int .i64 (((findS t l).1).fin))])) (cs := [(Value.int .i64 (((findS t l).1).start)), (Value.int .i64 (((findS t l).1).fin))]) (c' := #[(Value.int .i64 (((findS t l).1).start)), (Value.int .i64 (((findS t l).1).fin))]) M 0 rfl rfl Try.el65.sized rfl rfl rfl rfl (Nat.le_of_ble_eq_true rfl) (cel_cons rfl (cel_cons rfl cel_nil)) rfl rfl (fun w92 M => ?_)
            refine WL.step (v := (Value.bool ((findS t l).2))) rfl (Step.assign rfl) ?_
            refine WL.nil ?_
            refine W.seq' ?_
            refine W.region rfl ?_
            refine WL.step (v := (Value.int .i64 t)) rfl (Step.move rfl) ?_
            refine WL.step (v := v12) rfl (Step.move rfl) ?_
            refine WL.callX rfl (ref17_find t v12 l (M.enterW0 ⟨((M.wideC0 1 rfl).imp fun _ h => own_slAt h), trivial⟩)) (CallsF.func Try.en37 rfl) ?_
            rintro _ w93 ⟨rfl, m⟩
            replace M := M.leaveW0 m
            clear m
            replace M : Mem _ _ _ [blk b90 (.cells #[(Value.int .i64 (((findS t l).1).start)), (Value.int .i64 (((findS t l).1).fin))] 65), own 62 2 v12 l.length (l.flatMap spanE), own 2 1 v9 ts.length (ts.flatMap intE)] [SlAt 1 tv ts.length (ts.flatMap intE), SlAt 2 lv l.length (l.flatMap spanE)] _ := M
            refine WL.step (v := (Value.tuple #[(Value.agg #[(Value.int .i64 (((findS t l).1).start)), (Value.int .i64 (((findS t l).1).fin))]), (Value.bool ((findS t l).2))])) rfl (Step.move rfl) ?_
            refine WL.step (v := (Value.agg #[(Value.int .i64 (((findS t l).1).start)), (Value.int .i64 (((findS t l).1).fin))])) rfl (Step.pure (by kernel_rfl)) ?_
            refine WL.step (v := (Value.bool ((findS t l).2))) rfl (Step.pure (by kernel_rfl)) ?_
            refine WL.alloc (c := #[(Value.int .i64 0), (Value.int .i64 0)]) M rfl Try.el62.zero rfl (fun b94 w95 hb94 M => ?_)
            refine WL.store (v := (Value.agg #[(Value.int .i64 (((findS t l).1).start)), (Value.int .i64 (((findS t l).1).fin))])) (cs := [(Value.int .i64 (((findS t l).1).start)), (Value.int .i64 (((findS t l).1).fin))]) (c' := #[(Value.int .i64 (((findS t l).1).start)), (Value.int .i64 (((findS t l).1).fin))]) M 0 rfl rfl Try.el62.sized rfl rfl rfl rfl (Nat.le_of_ble_eq_true rfl) (cel_cons rfl (cel_cons rfl cel_nil)) rfl rfl (fun w96 M => ?_)
            refine WL.step (v := (Value.bool ((findS t l).2))) rfl (Step.assign rfl) ?_
            refine WL.nil ?_
            refine W.seq' ?_
            refine W.seq' ?_
            refine W.region rfl ?_
            refine WL.step (v := (Value.int .i64 0)) rfl (Step.assign rfl) ?_
            refine WL.nil ?_
            refine W.block ?_
            refine W.loop (fun kk ρ w' => ∃ (j_ : Nat), ((j_ ≤ l.length) ∧ kk = l.length - j_) ∧ ρ.has [(0, (Value.int .i64 gap)), (3, lv), (10, v12), (18, (Value.pointer (some ⟨b90, 0, none⟩))), (19, (Value.bool ((findS t l).2))), (20, (Value.pointer (some ⟨b94, 0, none⟩))), (21, (Value.bool ((findS t l).2))), (22, (Value.int .i64 ↑j_))] ∧ Mem G (fun _ => False) w [blk b94 (.cells #[(Value.int .i64 (((findS t l).1).start)), (Value.int .i64 (((findS t l).1).fin))] 62), blk b90 (.cells #[(Value.int .i64 (((findS t l).1).start)), (Value.int .i64 (((findS t l).1).fin))] 65), own 62 2 v12 l.length (l.flatMap spanE), own 2 1 v9 ts.length (ts.flatMap intE)] [SlAt 1 tv ts.length (ts.flatMap intE), SlAt 2 lv l.length (l.flatMap spanE)]  w') _ ⟨0, ⟨(Nat.zero_le _), rfl⟩, ⟨rfl, rfl, rfl, rfl, rfl, rfl, rfl, rfl, rfl, rfl⟩, M⟩ ?_
            rintro _ ρ98 w97 ⟨j_, ⟨hi99, rfl⟩, hρ, M⟩
            obtain ⟨ρ98, rfl⟩ := hρ.know
            clear hρ
            refine W.seq' ?_
            refine W.seq' ?_
            refine W.region rfl ?_
            refine WL.step (v := (Value.int .i64 ↑j_)) rfl (Step.move rfl) ?_
            refine WL.step (v := (Value.int .i64 (↑j_ + 1))) rfl (Step.add rfl rfl (wrap_i64 (by omega))) ?_
            refine WL.step (v := lv) rfl (Step.move rfl) ?_
            refine WL.step (v := (Value.int .i64 ↑l.length)) rfl (Step.lenSl Try.un58 rfl (M.rep 1 rfl)) ?_
            refine WL.step (v := (Value.bool (decide ((↑j_ + 1 : Int) < (↑l.length : Int))))) rfl (Step.pure (by kernel_rfl)) ?_
            refine WL.nil ?_
            refine W.cond (t := decide ((↑j_ + 1 : Int) < (↑l.length : Int))) rfl (fun h100 => ?_) (fun h100 => ?_)
            ·
              have h100p := of_decide_eq_true h100
              refine W.skip ?_
              refine W.seq' ?_
              refine W.block ?_
              refine W.seq' ?_
              obtain ⟨cap102, hb101⟩ := SlAt.base (M.rep 1 rfl) (by omega)
              obtain ⟨x103, hx103⟩ := elem_of_lt (xs := l) (i := j_) (by omega)
              obtain ⟨x104, hx104⟩ := elem_of_lt (xs := l) (i := j_ + 1) (by omega)
              obtain ⟨cap106, hb105⟩ := SlAt.base (own_slAt (M.chunk 2 rfl).inv) (by omega)
              refine W.drawn M [0, 1, 2, 3, 4, 5, 6, 7, 8, 9, 10, 11, 12, 13, 14, 15, 16, 17, 18, 19, 20] [9, 19] [] [blk b94 (.cells #[(Value.int .i64 (((findS t l).1).start)), (Value.int .i64 (((findS t l).1).fin))] 62), blk b90 (.cells #[(Value.int .i64 (((findS t l).1).start)), (Value.int .i64 (((findS t l).1).fin))] 65), own 62 2 v12 l.length (l.flatMap spanE), own 2 1 v9 ts.length (ts.flatMap intE)] [SlAt 1 tv ts.length (ts.flatMap intE), SlAt 2 lv l.length (l.flatMap spanE)] (List.Sublist.cons_cons _ (List.Sublist.cons_cons _ (List.Sublist.cons_cons _ (List.Sublist.cons_cons _ List.Sublist.slnil)))) (fun _ h => h) Try.mixed (by kernel_rfl) ?_
              refine TW.pure (v := lv) rfl (by decide) (by decide) rfl (fun w => (Step.move rfl)) ?_
              refine TW.pure (v := (Value.int .i64 ↑j_)) rfl (by decide) (by decide) rfl (fun w => (Step.move rfl)) ?_
              refine TW.pure (v := (Value.pointer (some ⟨(sBlk lv), sOff lv + j_ * 2, none⟩))) rfl (by decide) (by decide) rfl (fun w => (Step.indexAddr (i := j_) (Try.un58).run Try.el65.sized rfl rfl (by omega) hb101 (by omega))) ?_
              refine TW.read (v := (Value.agg #[(Value.int .i64 x103.start), (Value.int .i64 x103.fin)])) rfl (by decide) (by decide) rfl (fun A w M => (Step.loadEN (k := 0) (cs' := [(Value.int .i64 x103.start), (Value.int .i64 x103.fin)]) Try.ag65 (flat_ec (M.rep 1 rfl) hx103 spanE_len) (by decide) rfl rfl rfl)) ?_
              refine TW.pure (v := lv) rfl (by decide) (by decide) rfl (fun w => (Step.move rfl)) ?_
              refine TW.pure (v := (Value.int .i64 ↑j_)) rfl (by decide) (by decide) rfl (fun w => (Step.move rfl)) ?_
              refine TW.pure (v := (Value.int .i64 (↑j_ + 1))) rfl (by decide) (by decide) rfl (fun w => (Step.add rfl rfl (wrap_i64 (by omega)))) ?_
              refine TW.pure (v := (Value.pointer (some ⟨(sBlk lv), sOff lv + (j_ + 1) * 2, none⟩))) rfl (by decide) (by decide) rfl (fun w => (Step.indexAddr (i := j_ + 1) (Try.un58).run Try.el65.sized rfl rfl (by omega) hb101 (by omega))) ?_
              refine TW.read (v := (Value.agg #[(Value.int .i64 x104.start), (Value.int .i64 x104.fin)])) rfl (by decide) (by decide) rfl (fun A w M => (Step.loadEN (k := 0) (cs' := [(Value.int .i64 x104.start), (Value.int .i64 x104.fin)]) Try.ag65 (flat_ec (M.rep 1 rfl) hx104 spanE_len) (by decide) rfl rfl rfl)) ?_
              refine TW.callX (ι := Unit) (fun jx v_ => v_ = (Value.bool (overS2 x103 x104))) (fun jx => [blk b94 (.cells #[(Value.int .i64 (((findS t l).1).start)), (Value.int .i64 (((findS t l).1).fin))] 62), blk b90 (.cells #[(Value.int .i64 (((findS t l).1).start)), (Value.int .i64 (((findS t l).1).fin))] 65), own 62 2 v12 l.length (l.flatMap spanE), own 2 1 v9 ts.length (ts.flatMap intE)]) (fun jx => [SlAt 1 tv ts.length (ts.flatMap intE), SlAt 2 lv l.length (l.flatMap spanE)]) rfl (by decide) rfl (fun jx => (List.Sublist.cons_cons _ (List.Sublist.cons_cons _ (List.Sublist.cons_cons _ (List.Sublist.cons_cons _ List.Sublist.slnil))))) (fun jx r h => h) (fun A w M => Rets.mono (ses_over x103 x104 (M.enterW0 trivial)) (fun v_ w_ ⟨e_, m⟩ => ⟨(), e_, (M.leaveW0 m).sel (L' := [fl A, blk b94 (.cells #[(Value.int .i64 (((findS t l).1).start)), (Value.int .i64 (((findS t l).1).fin))] 62), blk b90 (.cells #[(Value.int .i64 (((findS t l).1).start)), (Value.int .i64 (((findS t l).1).fin))] 65), own 62 2 v12 l.length (l.flatMap spanE), own 2 1 v9 ts.length (ts.flatMap intE)]) [0, 1, 2, 3, 4] rfl (by decide), fun b hb => M.keptW0 m (fl A) (List.mem_cons_self ..) b hb⟩)) (fun w => CallsF.func Try.en38 rfl) (fun jx v hp hin => ?_)
              replace hp := hp.symm; subst hp
              clear hin
              change TW _ _ _ _ _ _ _ _ (MemA _ _ _ [blk b94 (.cells #[(Value.int .i64 (((findS t l).1).start)), (Value.int .i64 (((findS t l).1).fin))] 62), blk b90 (.cells #[(Value.int .i64 (((findS t l).1).start)), (Value.int .i64 (((findS t l).1).fin))] 65), own 62 2 v12 l.length (l.flatMap spanE), own 2 1 v9 ts.length (ts.flatMap intE)] [SlAt 1 tv ts.length (ts.flatMap intE), SlAt 2 lv l.length (l.flatMap spanE)])
              refine TW.pure (v := v12) rfl (by decide) (by decide) rfl (fun w => (Step.move rfl)) ?_
              refine TW.pure (v := (Value.int .i64 ↑j_)) rfl (by decide) (by decide) rfl (fun w => (Step.move rfl)) ?_
              refine TW.pure (v := (Value.pointer (some ⟨(sBlk v12), sOff v12 + j_ * 2, none⟩))) rfl (by decide) (by decide) rfl (fun w => (Step.indexAddr (i := j_) (Try.un59).run Try.el62.sized rfl rfl (by omega) hb105 (by omega))) ?_
              refine TW.read (v := (Value.agg #[(Value.int .i64 x103.start), (Value.int .i64 x103.fin)])) rfl (by decide) (by decide) rfl (fun A w M => (Step.loadEN (k := 0) (cs' := [(Value.int .i64 x103.start), (Value.int .i64 x103.fin)]) Try.ag62 (flat_ec (own_slAt (M.chunk 3 rfl).inv) hx103 spanE_len) (by decide) rfl rfl rfl)) ?_
              refine TW.pure (v := v12) rfl (by decide) (by decide) rfl (fun w => (Step.move rfl)) ?_
              refine TW.pure (v := (Value.int .i64 ↑j_)) rfl (by decide) (by decide) rfl (fun w => (Step.move rfl)) ?_
              refine TW.pure (v := (Value.int .i64 (↑j_ + 1))) rfl (by decide) (by decide) rfl (fun w => (Step.add rfl rfl (wrap_i64 (by omega)))) ?_
              refine TW.pure (v := (Value.pointer (some ⟨(sBlk v12), sOff v12 + (j_ + 1) * 2, none⟩))) rfl (by decide) (by decide) rfl (fun w => (Step.indexAddr (i := j_ + 1) (Try.un59).run Try.el62.sized rfl rfl (by omega) hb105 (by omega))) ?_
              refine TW.read (v := (Value.agg #[(Value.int .i64 x104.start), (Value.int .i64 x104.fin)])) rfl (by decide) (by decide) rfl (fun A w M => (Step.loadEN (k := 0) (cs' := [(Value.int .i64 x104.start), (Value.int .i64 x104.fin)]) Try.ag62 (flat_ec (own_slAt (M.chunk 3 rfl).inv) hx104 spanE_len) (by decide) rfl rfl rfl)) ?_
              refine TW.callX (ι := Unit) (fun jx v_ => v_ = (Value.bool (overS2 x103 x104))) (fun jx => [blk b94 (.cells #[(Value.int .i64 (((findS t l).1).start)), (Value.int .i64 (((findS t l).1).fin))] 62), blk b90 (.cells #[(Value.int .i64 (((findS t l).1).start)), (Value.int .i64 (((findS t l).1).fin))] 65), own 62 2 v12 l.length (l.flatMap spanE), own 2 1 v9 ts.length (ts.flatMap intE)]) (fun jx => [SlAt 1 tv ts.length (ts.flatMap intE), SlAt 2 lv l.length (l.flatMap spanE)]) rfl (by decide) rfl (fun jx => (List.Sublist.cons_cons _ (List.Sublist.cons_cons _ (List.Sublist.cons_cons _ (List.Sublist.cons_cons _ List.Sublist.slnil))))) (fun jx r h => h) (fun A w M => Rets.mono (ref17_over x103 x104 (M.enterW0 trivial)) (fun v_ w_ ⟨e_, m⟩ => ⟨(), e_, (M.leaveW0 m).sel (L' := [fl A, blk b94 (.cells #[(Value.int .i64 (((findS t l).1).start)), (Value.int .i64 (((findS t l).1).fin))] 62), blk b90 (.cells #[(Value.int .i64 (((findS t l).1).start)), (Value.int .i64 (((findS t l).1).fin))] 65), own 62 2 v12 l.length (l.flatMap spanE), own 2 1 v9 ts.length (ts.flatMap intE)]) [0, 1, 2, 3, 4] rfl (by decide), fun b hb => M.keptW0 m (fl A) (List.mem_cons_self ..) b hb⟩)) (fun w => CallsF.func Try.en39 rfl) (fun jx v hp hin => ?_)
              replace hp := hp.symm; subst hp
              clear hin
              change TW _ _ _ _ _ _ _ _ (MemA _ _ _ [blk b94 (.cells #[(Value.int .i64 (((findS t l).1).start)), (Value.int .i64 (((findS t l).1).fin))] 62), blk b90 (.cells #[(Value.int .i64 (((findS t l).1).start)), (Value.int .i64 (((findS t l).1).fin))] 65), own 62 2 v12 l.length (l.flatMap spanE), own 2 1 v9 ts.length (ts.flatMap intE)] [SlAt 1 tv ts.length (ts.flatMap intE), SlAt 2 lv l.length (l.flatMap spanE)])
              refine TW.pure (v := (Value.bool false)) rfl (by decide) (by decide) rfl (fun w => (Step.cast (congrArg Value.bool (by simp)) (Step.pure (v := .bool (!((overS2 x103 x104) == (overS2 x103 x104)))) (by kernel_rfl)))) ?_
              refine TW.done (fun w107 M => ?_)
              refine W.cond (t := false) rfl (fun h => by cases h) (fun _ => ?_)
              refine W.skip ?_
              refine W.region rfl ?_
              refine WL.step (v := (Value.int .i64 ↑j_)) rfl (Step.move rfl) ?_
              refine WL.step (v := (Value.int .i64 (↑j_ + 1))) rfl (Step.add rfl rfl (wrap_i64 (by omega))) ?_
              refine WL.step (v := (Value.int .i64 (↑j_ + 1))) rfl (Step.assign rfl) ?_
              refine WL.nil ?_
              exact ⟨_, (by omega), j_ + 1, ⟨(by omega), rfl⟩, ⟨rfl, rfl, rfl, rfl, rfl, rfl, rfl, rfl, rfl, rfl⟩, M⟩
            ·
              have h100p := of_decide_eq_false h100
              refine W.exit ?_
              refine thn_exit ?_
              refine thn_exit ?_
              refine inBlk_hit ?_
              refine W.seq' ?_
              refine W.region rfl ?_
              refine WL.step (v := (Value.pointer (some ⟨b90, 0, none⟩))) rfl (Step.pure (by kernel_rfl)) ?_
              refine WL.step (v := (Value.int .i64 (((findS t l).1).start))) rfl (Step.load1 Try.sc2 rfl ((M.cell 1 rfl 0).trans rfl)) ?_
              refine WL.step (v := (Value.pointer (some ⟨b94, 0, none⟩))) rfl (Step.pure (by kernel_rfl)) ?_
              refine WL.step (v := (Value.int .i64 (((findS t l).1).start))) rfl (Step.load1 Try.sc2 rfl ((M.cell 0 rfl 0).trans rfl)) ?_
              refine WL.step (v := (Value.bool true)) rfl (Step.cast (congrArg Value.bool (show ((((findS t l).1).start : Int) == (((findS t l).1).start : Int)) = true by simp)) (Step.pure (by kernel_rfl))) ?_
              refine WL.step (v := (Value.bool true)) rfl (Step.move rfl) ?_
              refine WL.step (v := (Value.pointer (some ⟨b90, 1, none⟩))) rfl (Step.pure (by kernel_rfl)) ?_
              refine WL.step (v := (Value.int .i64 (((findS t l).1).fin))) rfl (Step.load1 Try.sc2 rfl ((M.cell 1 rfl 1).trans rfl)) ?_
              refine WL.step (v := (Value.pointer (some ⟨b94, 1, none⟩))) rfl (Step.pure (by kernel_rfl)) ?_
              refine WL.step (v := (Value.int .i64 (((findS t l).1).fin))) rfl (Step.load1 Try.sc2 rfl ((M.cell 0 rfl 1).trans rfl)) ?_
              refine WL.step (v := (Value.bool true)) rfl (Step.cast (congrArg Value.bool (show ((((findS t l).1).fin : Int) == (((findS t l).1).fin : Int)) = true by simp)) (Step.pure (by kernel_rfl))) ?_
              refine WL.step (v := (Value.bool true)) rfl (Step.pick (t := true) rfl rfl) ?_
              refine WL.step (v := (Value.bool true)) rfl (Step.move rfl) ?_
              refine WL.step (v := (Value.bool ((findS t l).2))) rfl (Step.move rfl) ?_
              refine WL.step (v := (Value.bool ((findS t l).2))) rfl (Step.move rfl) ?_
              refine WL.step (v := (Value.bool true)) rfl (Step.cast (congrArg Value.bool (by simp)) (Step.pure (v := .bool ((((findS t l).2) == ((findS t l).2)))) (by kernel_rfl))) ?_
              refine WL.step (v := (Value.bool true)) rfl (Step.pick (t := true) rfl rfl) ?_
              refine WL.step (v := (Value.bool true)) rfl (Step.move rfl) ?_
              refine WL.step (v := (Value.int .i64 gap)) rfl (Step.move rfl) ?_
              refine WL.step (v := lv) rfl (Step.move rfl) ?_
              refine WL.callX rfl (ses_right gap lv l (by first | assumption | decide) (by first | assumption | (unfold in64; omega)) (M.enterW0 ⟨(M.wideR0 1 rfl), trivial⟩)) (CallsF.func Try.en40 rfl) ?_
              rintro _ w108 ⟨rfl, m⟩
              replace M := M.leaveW0 m
              clear m
              replace M : Mem _ _ _ [blk b94 (.cells #[(Value.int .i64 (((findS t l).1).start)), (Value.int .i64 (((findS t l).1).fin))] 62), blk b90 (.cells #[(Value.int .i64 (((findS t l).1).start)), (Value.int .i64 (((findS t l).1).fin))] 65), own 62 2 v12 l.length (l.flatMap spanE), own 2 1 v9 ts.length (ts.flatMap intE)] [SlAt 1 tv ts.length (ts.flatMap intE), SlAt 2 lv l.length (l.flatMap spanE)] _ := M
              refine WL.step (v := (Value.int .i64 gap)) rfl (Step.move rfl) ?_
              refine WL.step (v := v12) rfl (Step.move rfl) ?_
              refine WL.callX rfl (ref17_right gap v12 l (by first | assumption | decide) (by first | assumption | (unfold in64; omega)) (M.enterW0 ⟨((M.wideC0 2 rfl).imp fun _ h => own_slAt h), trivial⟩)) (CallsF.func Try.en41 rfl) ?_
              rintro _ w109 ⟨rfl, m⟩
              replace M := M.leaveW0 m
              clear m
              replace M : Mem _ _ _ [blk b94 (.cells #[(Value.int .i64 (((findS t l).1).start)), (Value.int .i64 (((findS t l).1).fin))] 62), blk b90 (.cells #[(Value.int .i64 (((findS t l).1).start)), (Value.int .i64 (((findS t l).1).fin))] 65), own 62 2 v12 l.length (l.flatMap spanE), own 2 1 v9 ts.length (ts.flatMap intE)] [SlAt 1 tv ts.length (ts.flatMap intE), SlAt 2 lv l.length (l.flatMap spanE)] _ := M
              refine WL.step (v := (Value.bool true)) rfl (Step.cast (congrArg Value.bool (by simp)) (Step.pure (v := .bool (((rightB gap l) == (rightB gap l)))) (by kernel_rfl))) ?_
              refine WL.step (v := (Value.bool true)) rfl (Step.pick (t := true) rfl rfl) ?_
              refine WL.step (v := (Value.bool true)) rfl (Step.move rfl) ?_
              refine WL.callX rfl (law17_works  (M.enterW0 trivial)) (CallsF.func Try.en29 rfl) ?_
              rintro _ w110 ⟨rfl, m⟩
              replace M := M.leaveW0 m
              clear m
              replace M : Mem _ _ _ [blk b94 (.cells #[(Value.int .i64 (((findS t l).1).start)), (Value.int .i64 (((findS t l).1).fin))] 62), blk b90 (.cells #[(Value.int .i64 (((findS t l).1).start)), (Value.int .i64 (((findS t l).1).fin))] 65), own 62 2 v12 l.length (l.flatMap spanE), own 2 1 v9 ts.length (ts.flatMap intE)] [SlAt 1 tv ts.length (ts.flatMap intE), SlAt 2 lv l.length (l.flatMap spanE)] _ := M
              refine WL.step (v := (Value.bool true)) rfl (Step.pick (t := true) rfl rfl) ?_
              refine WL.step (v := (Value.bool true)) rfl (Step.assign rfl) ?_
              refine WL.nil ?_
              refine W.ret ?_
              refine ⟨.inl rfl, (Value.bool true), ?_, ?_⟩
              · exact ⟨rfl, (Res.r1 (show RV _ _ _ (.tmp 8) (Value.bool true) from by exact rfl))⟩
              refine ⟨?_, M.close [] rfl (by decide) trivial⟩
              rfl
end Go.Proofs
