/- Walks. -/
import Derived.Test.YthihknbbibgchaaTrT6
set_option maxRecDepth 100000
set_option linter.all false
namespace Go.Proofs
open Go Tp
theorem Try.en41 : Enters Try.prog 41 := fun _ _ => by kernel_rfl
theorem Try.en57 : Enters Try.prog 57 := fun _ _ => by kernel_rfl
theorem Try.en58 : Enters Try.prog 58 := fun _ _ => by kernel_rfl
theorem Try.en59 : Enters Try.prog 59 := fun _ _ => by kernel_rfl

theorem ref17_of {G : Nat → Prop} {w : World} (gap : Int) (v : Value) (xs : List Int)  (hb : xs.length ≤ 1000000) (hm : mayB gap xs = true) (M : Mem G (fun _ => False) w [] [SlAt 1 v xs.length (xs.flatMap intE)] w) : Rets Try.prog 34 #[(Value.int .i64 gap), v] w fun r w' => ∃ (v' : Value), r = (Value.tuple #[v', (Value.int .i64 0)]) ∧ Mem G (fun _ => False) w [own 62 2 v' ((ofT gap (sortT xs)).length) ((ofT gap (sortT xs)).flatMap spanE)] [] w' := by
  refine Rets.enter 39 _ Try.func34 rfl Try.ntmps34 Try.results34 (by simp) ?_
  have hle1 := SlAt.le' (M.rep 0 rfl)
  have sl2 : IsSl v := SlAt.isSl (Mem.rep M 0 rfl)
  obtain ⟨hg1, hg2⟩ := mayB_gap hm
  refine W.seq' ?_
  refine W.region rfl ?_
  refine WL.step (v := (Value.slice none 0 0)) rfl (Step.assign rfl) ?_
  refine WL.step (v := (Value.int .i64 0)) rfl (Step.assign rfl) ?_
  refine WL.nil ?_
  refine W.seq' ?_
  refine W.seq' ?_
  refine W.region rfl ?_
  refine WL.step (v := (Value.int .i64 gap)) rfl (Step.move rfl) ?_
  refine WL.callX rfl (ref17_gap gap (M.enterW0 trivial)) (CallsF.func Try.en57 rfl) ?_
  rintro _ w3 ⟨rfl, m⟩
  replace M := M.leaveW0 m
  clear m
  replace M : Mem _ _ _ [] [SlAt 1 v xs.length (xs.flatMap intE)] _ := M
  rw [(mayB_gapB hm)]
  refine WL.step (v := (Value.bool false)) rfl (Step.pure (by kernel_rfl)) ?_
  refine WL.nil ?_
  refine W.cond (t := false) rfl (fun h => by cases h) (fun _ => ?_)
  refine W.skip ?_
  refine W.seq' ?_
  refine W.region rfl ?_
  refine WL.step (v := (Value.slice none 0 0)) rfl (Step.assign rfl) ?_
  refine WL.nil ?_
  refine W.seq' ?_
  refine W.seq' ?_
  refine W.region rfl ?_
  refine WL.step (v := (Value.int .i64 0)) rfl (Step.assign rfl) ?_
  refine WL.nil ?_
  refine W.block ?_
  replace M := M.ownNil 62 2
  replace M := M.rechunk 0 (c' := own 62 2 (Value.slice none 0 0) (((xs.take 0).map (spanT gap)).length) (((xs.take 0).map (spanT gap)).flatMap spanE)) rfl rfl
  replace M : Mem _ _ _ [own 62 2 (Value.slice none 0 0) (((xs.take 0).map (spanT gap)).length) (((xs.take 0).map (spanT gap)).flatMap spanE)] [SlAt 1 v xs.length (xs.flatMap intE)] _ := M
  refine W.loop (fun kk ρ w' => ∃ (i_ : Nat) (acci_ : Value), ((i_ ≤ xs.length) ∧ ((xs.take i_).all timeB = true) ∧ kk = xs.length - i_) ∧ ρ.has [(0, (Value.int .i64 gap)), (1, v), (6, acci_), (7, (Value.int .i64 ↑i_))] ∧ Mem G (fun _ => False) w [own 62 2 acci_ (((xs.take i_).map (spanT gap)).length) (((xs.take i_).map (spanT gap)).flatMap spanE)] [SlAt 1 v xs.length (xs.flatMap intE)]  w') _ ⟨0, _, ⟨(Nat.zero_le _), rfl, rfl⟩, ⟨rfl, rfl, rfl, rfl, rfl, rfl⟩, M⟩ ?_
  rintro _ ρ5 w4 ⟨i_, acci_, ⟨hi6, hi7, rfl⟩, hρ, M⟩
  obtain ⟨ρ5, rfl⟩ := hρ.know
  clear hρ
  have sl8 : IsSl acci_ := SlAt.isSl (own_slAt (M.chunk 0 rfl).inv)
  have hacl : ((xs.take i_).map (spanT gap)).length = i_ := by rw [List.length_map, List.length_take]; omega
  refine W.seq' ?_
  refine W.seq' ?_
  refine W.region rfl ?_
  refine WL.step (v := (Value.int .i64 ↑i_)) rfl (Step.move rfl) ?_
  refine WL.step (v := v) rfl (Step.move rfl) ?_
  refine WL.step (v := (Value.int .i64 ↑xs.length)) rfl (Step.lenSl Try.un70 rfl (M.rep 0 rfl)) ?_
  refine WL.step (v := (Value.bool (decide ((↑i_ : Int) < (↑xs.length : Int))))) rfl (Step.pure (by kernel_rfl)) ?_
  refine WL.nil ?_
  refine W.cond (t := decide ((↑i_ : Int) < (↑xs.length : Int))) rfl (fun h9 => ?_) (fun h9 => ?_)
  ·
    have h9p := of_decide_eq_true h9
    refine W.skip ?_
    refine W.seq' ?_
    refine W.block ?_
    refine W.seq' ?_
    refine W.seq' ?_
    refine W.region rfl ?_
    refine WL.step (v := v) rfl (Step.move rfl) ?_
    refine WL.step (v := (Value.int .i64 ↑i_)) rfl (Step.move rfl) ?_
    obtain ⟨cap11, hb10⟩ := SlAt.base (M.rep 0 rfl) (by omega)
    obtain ⟨x12, hx12⟩ := elem_of_lt (xs := xs) (i := i_) (by omega)
    have ht_ := mayB_at hm hx12
    obtain ⟨_, _⟩ := timeB_iff.1 ht_
    refine WL.step (v := (Value.pointer (some ⟨(sBlk v), sOff v + i_ * 1, none⟩))) rfl (Step.indexAddr (i := i_) (Try.un70).run Try.el2.sized rfl rfl (by omega) hb10 (by omega)) ?_
    refine WL.step (v := (Value.int .i64 x12)) rfl (Step.loadE (k := 0) Try.sc2 (flat_ec (M.rep 0 rfl) hx12 intE_len) (by decide) rfl rfl) ?_
    refine WL.callX rfl (ref17_time x12 (M.enterW0 trivial)) (CallsF.func Try.en58 rfl) ?_
    rintro _ w13 ⟨rfl, m⟩
    replace M := M.leaveW0 m
    clear m
    replace M : Mem _ _ _ [own 62 2 acci_ (((xs.take i_).map (spanT gap)).length) (((xs.take i_).map (spanT gap)).flatMap spanE)] [SlAt 1 v xs.length (xs.flatMap intE)] _ := M
    rw [ht_]
    refine WL.step (v := (Value.bool false)) rfl (Step.pure (by kernel_rfl)) ?_
    refine WL.nil ?_
    refine W.cond (t := false) rfl (fun h => by cases h) (fun _ => ?_)
    refine W.skip ?_
    refine W.drawn M [0, 1, 2, 3, 4, 5, 6, 7, 8, 9, 10, 11, 12, 13, 14] [13] [12] [] [SlAt 1 v xs.length (xs.flatMap intE)] (List.Sublist.cons _ List.Sublist.slnil) (fun _ h => h) Try.mixed (by kernel_rfl) ?_
    refine TW.pure (v := acci_) rfl (by decide) (by decide) rfl (fun w => (Step.move rfl)) ?_
    refine TW.pure (v := v) rfl (by decide) (by decide) rfl (fun w => (Step.move rfl)) ?_
    refine TW.pure (v := (Value.int .i64 ↑i_)) rfl (by decide) (by decide) rfl (fun w => (Step.move rfl)) ?_
    refine TW.pure (v := (Value.pointer (some ⟨(sBlk v), sOff v + i_ * 1, none⟩))) rfl (by decide) (by decide) rfl (fun w => (Step.indexAddr (i := i_) (Try.un70).run Try.el2.sized rfl rfl (by omega) hb10 (by omega))) ?_
    refine TW.read (v := (Value.int .i64 x12)) rfl (by decide) (by decide) rfl (fun A w M => (Step.loadE (k := 0) Try.sc2 (flat_ec (M.rep 0 rfl) hx12 intE_len) (by decide) rfl rfl)) ?_
    refine TW.pure (v := v) rfl (by decide) (by decide) rfl (fun w => (Step.move rfl)) ?_
    refine TW.pure (v := (Value.int .i64 ↑i_)) rfl (by decide) (by decide) rfl (fun w => (Step.move rfl)) ?_
    refine TW.pure (v := (Value.pointer (some ⟨(sBlk v), sOff v + i_ * 1, none⟩))) rfl (by decide) (by decide) rfl (fun w => (Step.indexAddr (i := i_) (Try.un70).run Try.el2.sized rfl rfl (by omega) hb10 (by omega))) ?_
    refine TW.read (v := (Value.int .i64 x12)) rfl (by decide) (by decide) rfl (fun A w M => (Step.loadE (k := 0) Try.sc2 (flat_ec (M.rep 0 rfl) hx12 intE_len) (by decide) rfl rfl)) ?_
    refine TW.pure (v := (Value.int .i64 gap)) rfl (by decide) (by decide) rfl (fun w => (Step.move rfl)) ?_
    refine TW.pure (v := (Value.int .i64 (x12 + gap))) rfl (by decide) (by decide) rfl (fun w => (Step.add rfl rfl (wrap_i64 (by omega)))) ?_
    refine TW.pure (v := (Value.agg #[(Value.int .i64 x12), (Value.int .i64 (x12 + gap))])) rfl (by decide) (by decide) rfl (fun w => (Step.pure (by kernel_rfl))) ?_
    refine TW.new (obj := .cells #[(Value.int .i64 x12), (Value.int .i64 (x12 + gap))] 62) (fun b => .slice (some ⟨b, 0, none⟩) 1 1) rfl (by decide) (by decide) rfl (fun w => Step.make (by kernel_rfl)) (fun b22 => ?_)
    refine TW.doesM (fun v_ => own 62 2 v_ ((((xs.take i_).map (spanT gap)) ++ ([(⟨x12, x12 + gap⟩ : Span)] : List Span)).length) ((((xs.take i_).map (spanT gap)) ++ ([(⟨x12, x12 + gap⟩ : Span)] : List Span)).flatMap spanE)) 1 rfl rfl (by decide) rfl (fun v_ => (List.Sublist.cons _ (List.Sublist.cons _ List.Sublist.slnil))) (fun r h => h) (fun A w M => M.appendF' ((xs.take i_).map (spanT gap)) ([(⟨x12, x12 + gap⟩ : Span)] : List Span) (sv := (Value.slice (some ⟨b22, 0, none⟩) 1 1)) 2 Try.un59 Try.el62 rfl (by decide) rfl rfl rfl (SlAt.of_blk (M.blk 1 rfl) rfl (by decide)) spanE_cel (by have := hacl; simp only [maxLen, List.length_nil, List.length_cons, List.length_append]; omega) (by have := hacl; (try simp only [List.length_nil, List.length_cons, List.length_append]); omega)) (fun v23 hin => ?_)
    obtain ⟨_, _, hin⟩ := hin
    have sl25 : IsSl v23 := SlAt.isSl (own_slAt (Mem.chunk hin 2 rfl).inv)
    clear hin
    change TW _ _ _ _ _ _ _ _ (MemA _ _ _ [blk b22 (.cells #[(Value.int .i64 x12), (Value.int .i64 (x12 + gap))] 62), own 62 2 v23 ((((xs.take i_).map (spanT gap)) ++ ([(⟨x12, x12 + gap⟩ : Span)] : List Span)).length) ((((xs.take i_).map (spanT gap)) ++ ([(⟨x12, x12 + gap⟩ : Span)] : List Span)).flatMap spanE)] [SlAt 1 v xs.length (xs.flatMap intE)])
    refine TW.pure (v := v23) rfl (by decide) (by decide) rfl (fun w => (Step.assign rfl)) ?_
    refine TW.done (fun w26 M => ?_)
    refine W.region rfl ?_
    refine WL.step (v := (Value.int .i64 ↑i_)) rfl (Step.move rfl) ?_
    refine WL.step (v := (Value.int .i64 (↑i_ + 1))) rfl (Step.add rfl rfl (wrap_i64 (by omega))) ?_
    refine WL.step (v := (Value.int .i64 (↑i_ + 1))) rfl (Step.assign rfl) ?_
    refine WL.nil ?_
    replace M := M.rechunk 1 (c' := own 62 2 v23 (((xs.take (i_ + 1)).map (spanT gap)).length) (((xs.take (i_ + 1)).map (spanT gap)).flatMap spanE)) rfl (by rw [spans_snoc hx12])
    replace M : Mem _ _ _ [blk b22 (.cells #[(Value.int .i64 x12), (Value.int .i64 (x12 + gap))] 62), own 62 2 v23 (((xs.take (i_ + 1)).map (spanT gap)).length) (((xs.take (i_ + 1)).map (spanT gap)).flatMap spanE)] [SlAt 1 v xs.length (xs.flatMap intE)] _ := M
    replace M := M.sel (L' := [own 62 2 v23 (((xs.take (i_ + 1)).map (spanT gap)).length) (((xs.take (i_ + 1)).map (spanT gap)).flatMap spanE)]) [1] rfl (by decide)
    exact ⟨_, (by omega), i_ + 1, v23, ⟨(by omega), (all_step hi7 hx12 ht_), rfl⟩, ⟨rfl, rfl, rfl, rfl, rfl, rfl⟩, M⟩
  ·
    have h9p := of_decide_eq_false h9
    refine W.exit ?_
    refine thn_exit ?_
    refine thn_exit ?_
    refine inBlk_hit ?_
    refine W.seq' ?_
    refine W.region rfl ?_
    refine WL.step (v := acci_) rfl (Step.move rfl) ?_
    refine WL.callX rfl (ref17_all acci_ ((xs.take i_).map (spanT gap)) (by first | omega | (simp only [List.length_append, List.length_cons, List.length_nil]; omega)) (okL_spans (by omega) _) (M.enterW0 ⟨((M.wideC0 0 rfl).imp fun _ h => own_slAt h), trivial⟩)) (CallsF.func Try.en59 rfl) ?_
    rintro v27 w28 ⟨_, rfl, m⟩
    replace M := M.leaveW0 m
    clear m
    replace M : Mem _ _ _ [own 62 2 v27 ((canS ((xs.take i_).map (spanT gap))).length) ((canS ((xs.take i_).map (spanT gap))).flatMap spanE), own 62 2 acci_ (((xs.take i_).map (spanT gap)).length) (((xs.take i_).map (spanT gap)).flatMap spanE)] [SlAt 1 v xs.length (xs.flatMap intE)] _ := M
    have sl29 : IsSl v27 := SlAt.isSl (own_slAt (Mem.chunk M 0 rfl).inv)
    have hle30 := SlAt.le' (own_slAt (Mem.chunk M 0 rfl).inv)
    refine WL.step (v := v27) rfl (Step.assign rfl) ?_
    refine WL.step (v := (Value.int .i64 0)) rfl (Step.assign rfl) ?_
    refine WL.nil ?_
    refine W.ret ?_
    refine ⟨.inl rfl, (Value.tuple #[v27, (Value.int .i64 0)]), ?_, ?_⟩
    · exact ⟨rfl, (Res.r2 (show RV _ _ _ (.tmp 4) v27 from by exact rfl) (show RV _ _ _ (.tmp 5) (Value.int .i64 0) from by exact rfl))⟩
    have e31 : ofT gap (sortT xs) = canS ((xs.take i_).map (spanT gap)) := by
      rw [show xs.take i_ = xs from List.take_of_length_le (by omega)]
      exact (canS_times hg1 xs).symm
    replace M := M.rechunk 0 (c' := own 62 2 v27 ((ofT gap (sortT xs)).length) ((ofT gap (sortT xs)).flatMap spanE)) rfl (congrArg (fun z => own 62 2 v27 z.length (z.flatMap spanE)) e31.symm)
    replace M : Mem _ _ _ [own 62 2 v27 ((ofT gap (sortT xs)).length) ((ofT gap (sortT xs)).flatMap spanE), own 62 2 acci_ (((xs.take i_).map (spanT gap)).length) (((xs.take i_).map (spanT gap)).flatMap spanE)] [SlAt 1 v xs.length (xs.flatMap intE)] _ := M
    refine ⟨v27, ?_, M.close [0] rfl (by decide) trivial⟩
    rfl

theorem ref17_ofno {G : Nat → Prop} {w : World} (gap : Int) (v : Value) (xs : List Int)  (hb : xs.length ≤ 1000000) (hm : mayB gap xs = false) (M : Mem G (fun _ => False) w [] [SlAt 1 v xs.length (xs.flatMap intE)] w) : Rets Try.prog 34 #[(Value.int .i64 gap), v] w fun r w' => r = (Value.tuple #[(Value.slice none 0 0), (Value.int .i64 2)]) ∧ Mem G (fun _ => False) w [] [] w' := by
  refine Rets.enter 39 _ Try.func34 rfl Try.ntmps34 Try.results34 (by simp) ?_
  have hle1 := SlAt.le' (M.rep 0 rfl)
  have sl2 : IsSl v := SlAt.isSl (Mem.rep M 0 rfl)
  refine W.seq' ?_
  refine W.region rfl ?_
  refine WL.step (v := (Value.slice none 0 0)) rfl (Step.assign rfl) ?_
  refine WL.step (v := (Value.int .i64 0)) rfl (Step.assign rfl) ?_
  refine WL.nil ?_
  refine W.seq' ?_
  refine W.seq' ?_
  refine W.region rfl ?_
  refine WL.step (v := (Value.int .i64 gap)) rfl (Step.move rfl) ?_
  refine WL.callX rfl (ref17_gap gap (M.enterW0 trivial)) (CallsF.func Try.en57 rfl) ?_
  rintro _ w3 ⟨rfl, m⟩
  replace M := M.leaveW0 m
  clear m
  replace M : Mem _ _ _ [] [SlAt 1 v xs.length (xs.flatMap intE)] _ := M
  refine WL.step (v := (Value.bool (!(gapB gap)))) rfl (Step.pure (by kernel_rfl)) ?_
  refine WL.nil ?_
  refine W.cond (t := !(gapB gap)) rfl (fun h4 => ?_) (fun h4 => ?_)
  ·
    refine W.seq' ?_
    refine W.region rfl ?_
    refine WL.step (v := (Value.slice none 0 0)) rfl (Step.assign rfl) ?_
    refine WL.step (v := (Value.int .i64 2)) rfl (Step.assign rfl) ?_
    refine WL.nil ?_
    refine W.ret ?_
    refine ⟨.inl rfl, (Value.tuple #[(Value.slice none 0 0), (Value.int .i64 2)]), ?_, ?_⟩
    · exact ⟨rfl, (Res.r2 (show RV _ _ _ (.tmp 4) (Value.slice none 0 0) from by exact rfl) (show RV _ _ _ (.tmp 5) (Value.int .i64 2) from by exact rfl))⟩
    refine ⟨?_, M.close [] rfl (by decide) trivial⟩
    rfl
  ·
    refine W.skip ?_
    refine W.seq' ?_
    refine W.region rfl ?_
    refine WL.step (v := (Value.slice none 0 0)) rfl (Step.assign rfl) ?_
    refine WL.nil ?_
    refine W.seq' ?_
    refine W.seq' ?_
    refine W.region rfl ?_
    refine WL.step (v := (Value.int .i64 0)) rfl (Step.assign rfl) ?_
    refine WL.nil ?_
    refine W.block ?_
    replace M := M.ownNil 62 2
    replace M := M.rechunk 0 (c' := own 62 2 (Value.slice none 0 0) (((xs.take 0).map (spanT gap)).length) (((xs.take 0).map (spanT gap)).flatMap spanE)) rfl rfl
    replace M : Mem _ _ _ [own 62 2 (Value.slice none 0 0) (((xs.take 0).map (spanT gap)).length) (((xs.take 0).map (spanT gap)).flatMap spanE)] [SlAt 1 v xs.length (xs.flatMap intE)] _ := M
    refine W.loop (fun kk ρ w' => ∃ (i_ : Nat) (acci_ : Value), ((i_ ≤ xs.length) ∧ ((xs.take i_).all timeB = true) ∧ kk = xs.length - i_) ∧ ρ.has [(0, (Value.int .i64 gap)), (1, v), (6, acci_), (7, (Value.int .i64 ↑i_))] ∧ Mem G (fun _ => False) w [own 62 2 acci_ (((xs.take i_).map (spanT gap)).length) (((xs.take i_).map (spanT gap)).flatMap spanE)] [SlAt 1 v xs.length (xs.flatMap intE)]  w') _ ⟨0, _, ⟨(Nat.zero_le _), rfl, rfl⟩, ⟨rfl, rfl, rfl, rfl, rfl, rfl⟩, M⟩ ?_
    rintro _ ρ6 w5 ⟨i_, acci_, ⟨hi7, hi8, rfl⟩, hρ, M⟩
    obtain ⟨ρ6, rfl⟩ := hρ.know
    clear hρ
    have sl9 : IsSl acci_ := SlAt.isSl (own_slAt (M.chunk 0 rfl).inv)
    have hacl : ((xs.take i_).map (spanT gap)).length = i_ := by rw [List.length_map, List.length_take]; omega
    refine W.seq' ?_
    refine W.seq' ?_
    refine W.region rfl ?_
    refine WL.step (v := (Value.int .i64 ↑i_)) rfl (Step.move rfl) ?_
    refine WL.step (v := v) rfl (Step.move rfl) ?_
    refine WL.step (v := (Value.int .i64 ↑xs.length)) rfl (Step.lenSl Try.un70 rfl (M.rep 0 rfl)) ?_
    refine WL.step (v := (Value.bool (decide ((↑i_ : Int) < (↑xs.length : Int))))) rfl (Step.pure (by kernel_rfl)) ?_
    refine WL.nil ?_
    refine W.cond (t := decide ((↑i_ : Int) < (↑xs.length : Int))) rfl (fun h10 => ?_) (fun h10 => ?_)
    ·
      have h10p := of_decide_eq_true h10
      refine W.skip ?_
      refine W.seq' ?_
      refine W.block ?_
      refine W.seq' ?_
      refine W.seq' ?_
      refine W.region rfl ?_
      refine WL.step (v := v) rfl (Step.move rfl) ?_
      refine WL.step (v := (Value.int .i64 ↑i_)) rfl (Step.move rfl) ?_
      obtain ⟨cap12, hb11⟩ := SlAt.base (M.rep 0 rfl) (by omega)
      obtain ⟨x13, hx13⟩ := elem_of_lt (xs := xs) (i := i_) (by omega)
      refine WL.step (v := (Value.pointer (some ⟨(sBlk v), sOff v + i_ * 1, none⟩))) rfl (Step.indexAddr (i := i_) (Try.un70).run Try.el2.sized rfl rfl (by omega) hb11 (by omega)) ?_
      refine WL.step (v := (Value.int .i64 x13)) rfl (Step.loadE (k := 0) Try.sc2 (flat_ec (M.rep 0 rfl) hx13 intE_len) (by decide) rfl rfl) ?_
      refine WL.callX rfl (ref17_time x13 (M.enterW0 trivial)) (CallsF.func Try.en58 rfl) ?_
      rintro _ w14 ⟨rfl, m⟩
      replace M := M.leaveW0 m
      clear m
      replace M : Mem _ _ _ [own 62 2 acci_ (((xs.take i_).map (spanT gap)).length) (((xs.take i_).map (spanT gap)).flatMap spanE)] [SlAt 1 v xs.length (xs.flatMap intE)] _ := M
      refine WL.step (v := (Value.bool (!(timeB x13)))) rfl (Step.pure (by kernel_rfl)) ?_
      refine WL.nil ?_
      refine W.cond (t := !(timeB x13)) rfl (fun h15 => ?_) (fun h15 => ?_)
      ·
        refine W.seq' ?_
        refine W.region rfl ?_
        refine WL.step (v := (Value.slice none 0 0)) rfl (Step.assign rfl) ?_
        refine WL.step (v := (Value.int .i64 2)) rfl (Step.assign rfl) ?_
        refine WL.nil ?_
        refine W.ret ?_
        refine ⟨.inl rfl, (Value.tuple #[(Value.slice none 0 0), (Value.int .i64 2)]), ?_, ?_⟩
        · exact ⟨rfl, (Res.r2 (show RV _ _ _ (.tmp 4) (Value.slice none 0 0) from by exact rfl) (show RV _ _ _ (.tmp 5) (Value.int .i64 2) from by exact rfl))⟩
        refine ⟨?_, M.close [] rfl (by decide) trivial⟩
        rfl
      ·
        obtain ⟨_, _⟩ := timeB_iff.1 (show timeB x13 = true by simpa using h15)
        obtain ⟨_, _⟩ := gapB_iff.1 (show (gapB gap) = true by simpa using h4)
        refine W.skip ?_
        refine W.drawn M [0, 1, 2, 3, 4, 5, 6, 7, 8, 9, 10, 11, 12, 13, 14] [13] [12] [] [SlAt 1 v xs.length (xs.flatMap intE)] (List.Sublist.cons _ List.Sublist.slnil) (fun _ h => h) Try.mixed (by kernel_rfl) ?_
        refine TW.pure (v := acci_) rfl (by decide) (by decide) rfl (fun w => (Step.move rfl)) ?_
        refine TW.pure (v := v) rfl (by decide) (by decide) rfl (fun w => (Step.move rfl)) ?_
        refine TW.pure (v := (Value.int .i64 ↑i_)) rfl (by decide) (by decide) rfl (fun w => (Step.move rfl)) ?_
        refine TW.pure (v := (Value.pointer (some ⟨(sBlk v), sOff v + i_ * 1, none⟩))) rfl (by decide) (by decide) rfl (fun w => (Step.indexAddr (i := i_) (Try.un70).run Try.el2.sized rfl rfl (by omega) hb11 (by omega))) ?_
        refine TW.read (v := (Value.int .i64 x13)) rfl (by decide) (by decide) rfl (fun A w M => (Step.loadE (k := 0) Try.sc2 (flat_ec (M.rep 0 rfl) hx13 intE_len) (by decide) rfl rfl)) ?_
        refine TW.pure (v := v) rfl (by decide) (by decide) rfl (fun w => (Step.move rfl)) ?_
        refine TW.pure (v := (Value.int .i64 ↑i_)) rfl (by decide) (by decide) rfl (fun w => (Step.move rfl)) ?_
        refine TW.pure (v := (Value.pointer (some ⟨(sBlk v), sOff v + i_ * 1, none⟩))) rfl (by decide) (by decide) rfl (fun w => (Step.indexAddr (i := i_) (Try.un70).run Try.el2.sized rfl rfl (by omega) hb11 (by omega))) ?_
        refine TW.read (v := (Value.int .i64 x13)) rfl (by decide) (by decide) rfl (fun A w M => (Step.loadE (k := 0) Try.sc2 (flat_ec (M.rep 0 rfl) hx13 intE_len) (by decide) rfl rfl)) ?_
        refine TW.pure (v := (Value.int .i64 gap)) rfl (by decide) (by decide) rfl (fun w => (Step.move rfl)) ?_
        refine TW.pure (v := (Value.int .i64 (x13 + gap))) rfl (by decide) (by decide) rfl (fun w => (Step.add rfl rfl (wrap_i64 (by omega)))) ?_
        refine TW.pure (v := (Value.agg #[(Value.int .i64 x13), (Value.int .i64 (x13 + gap))])) rfl (by decide) (by decide) rfl (fun w => (Step.pure (by kernel_rfl))) ?_
        refine TW.new (obj := .cells #[(Value.int .i64 x13), (Value.int .i64 (x13 + gap))] 62) (fun b => .slice (some ⟨b, 0, none⟩) 1 1) rfl (by decide) (by decide) rfl (fun w => Step.make (by kernel_rfl)) (fun b24 => ?_)
        refine TW.doesM (fun v_ => own 62 2 v_ ((((xs.take i_).map (spanT gap)) ++ ([(⟨x13, x13 + gap⟩ : Span)] : List Span)).length) ((((xs.take i_).map (spanT gap)) ++ ([(⟨x13, x13 + gap⟩ : Span)] : List Span)).flatMap spanE)) 1 rfl rfl (by decide) rfl (fun v_ => (List.Sublist.cons _ (List.Sublist.cons _ List.Sublist.slnil))) (fun r h => h) (fun A w M => M.appendF' ((xs.take i_).map (spanT gap)) ([(⟨x13, x13 + gap⟩ : Span)] : List Span) (sv := (Value.slice (some ⟨b24, 0, none⟩) 1 1)) 2 Try.un59 Try.el62 rfl (by decide) rfl rfl rfl (SlAt.of_blk (M.blk 1 rfl) rfl (by decide)) spanE_cel (by have := hacl; simp only [maxLen, List.length_nil, List.length_cons, List.length_append]; omega) (by have := hacl; (try simp only [List.length_nil, List.length_cons, List.length_append]); omega)) (fun v25 hin => ?_)
        obtain ⟨_, _, hin⟩ := hin
        have sl27 : IsSl v25 := SlAt.isSl (own_slAt (Mem.chunk hin 2 rfl).inv)
        clear hin
        change TW _ _ _ _ _ _ _ _ (MemA _ _ _ [blk b24 (.cells #[(Value.int .i64 x13), (Value.int .i64 (x13 + gap))] 62), own 62 2 v25 ((((xs.take i_).map (spanT gap)) ++ ([(⟨x13, x13 + gap⟩ : Span)] : List Span)).length) ((((xs.take i_).map (spanT gap)) ++ ([(⟨x13, x13 + gap⟩ : Span)] : List Span)).flatMap spanE)] [SlAt 1 v xs.length (xs.flatMap intE)])
        refine TW.pure (v := v25) rfl (by decide) (by decide) rfl (fun w => (Step.assign rfl)) ?_
        refine TW.done (fun w28 M => ?_)
        refine W.region rfl ?_
        refine WL.step (v := (Value.int .i64 ↑i_)) rfl (Step.move rfl) ?_
        refine WL.step (v := (Value.int .i64 (↑i_ + 1))) rfl (Step.add rfl rfl (wrap_i64 (by omega))) ?_
        refine WL.step (v := (Value.int .i64 (↑i_ + 1))) rfl (Step.assign rfl) ?_
        refine WL.nil ?_
        replace M := M.rechunk 1 (c' := own 62 2 v25 (((xs.take (i_ + 1)).map (spanT gap)).length) (((xs.take (i_ + 1)).map (spanT gap)).flatMap spanE)) rfl (by rw [spans_snoc hx13])
        replace M : Mem _ _ _ [blk b24 (.cells #[(Value.int .i64 x13), (Value.int .i64 (x13 + gap))] 62), own 62 2 v25 (((xs.take (i_ + 1)).map (spanT gap)).length) (((xs.take (i_ + 1)).map (spanT gap)).flatMap spanE)] [SlAt 1 v xs.length (xs.flatMap intE)] _ := M
        replace M := M.sel (L' := [own 62 2 v25 (((xs.take (i_ + 1)).map (spanT gap)).length) (((xs.take (i_ + 1)).map (spanT gap)).flatMap spanE)]) [1] rfl (by decide)
        exact ⟨_, (by omega), i_ + 1, v25, ⟨(by omega), (all_step hi8 hx13 (show (timeB x13) = true by simpa using h15)), rfl⟩, ⟨rfl, rfl, rfl, rfl, rfl, rfl⟩, M⟩
    ·
      have h10p := of_decide_eq_false h10
      exact absurd (mayB_go (show (gapB gap) = true by simpa using h4) hi8 (by omega)) (by rw [hm]; decide)

theorem ref17_ins {G : Nat → Prop} {w : World} (gap : Int) (t : Int) (v : Value) (xs : List Span)  (hb : xs.length ≤ 900000) (hin : ∀ s, s ∈ xs → in64 s.start ∧ in64 s.fin) (ho : okI gap t xs = true) (M : Mem G (fun _ => False) w [] [SlAt 2 v xs.length (xs.flatMap spanE)] w) : Rets Try.prog 31 #[(Value.int .i64 gap), (Value.int .i64 t), v] w fun r w' => ∃ (j' : Value) (a' : Value), r = (Value.tuple #[j', (Value.agg #[(Value.int .i64 ((insN xs (⟨t, t + gap⟩ : Span)).start)), (Value.int .i64 ((insN xs (⟨t, t + gap⟩ : Span)).fin))]), a', (Value.int .i64 0)]) ∧ Mem G (fun _ => False) w [own 62 2 j' ((insJ xs (⟨t, t + gap⟩ : Span)).length) ((insJ xs (⟨t, t + gap⟩ : Span)).flatMap spanE), own 62 2 a' ((insA xs (⟨t, t + gap⟩ : Span)).length) ((insA xs (⟨t, t + gap⟩ : Span)).flatMap spanE)] [] w' := by
  refine Rets.enter 87 _ Try.func31 rfl Try.ntmps31 Try.results31 (by simp) ?_
  have hle1 := SlAt.le' (M.rep 0 rfl)
  have sl2 : IsSl v := SlAt.isSl (Mem.rep M 0 rfl)
  have hm_ := mayB_one (okI_may ho)
  have hcan_ := right_canon (okI_right ho)
  refine W.seq' ?_
  refine W.region rfl ?_
  refine WL.step (v := (Value.slice none 0 0)) rfl (Step.assign rfl) ?_
  refine WL.alloc (c := #[(Value.int .i64 0), (Value.int .i64 0)]) M rfl Try.el62.zero rfl (fun b3 w4 hb3 M => ?_)
  refine WL.step (v := (Value.slice none 0 0)) rfl (Step.assign rfl) ?_
  refine WL.step (v := (Value.int .i64 0)) rfl (Step.assign rfl) ?_
  refine WL.nil ?_
  refine W.seq' ?_
  refine W.seq' ?_
  refine W.region rfl ?_
  refine WL.step (v := (Value.int .i64 gap)) rfl (Step.move rfl) ?_
  refine WL.callX rfl (ref17_gap gap (M.enterW0 trivial)) (CallsF.func Try.en57 rfl) ?_
  rintro _ w5 ⟨rfl, m⟩
  replace M := M.leaveW0 m
  clear m
  replace M : Mem _ _ _ [blk b3 (.cells #[(Value.int .i64 0), (Value.int .i64 0)] 62)] [SlAt 2 v xs.length (xs.flatMap spanE)] _ := M
  rw [(okI_gap ho).1]
  refine WL.step (v := (Value.bool false)) rfl (Step.pure (by kernel_rfl)) ?_
  refine WL.step (v := (Value.bool false)) rfl (Step.move rfl) ?_
  refine WL.step (v := (Value.int .i64 t)) rfl (Step.move rfl) ?_
  refine WL.callX rfl (ref17_time t (M.enterW0 trivial)) (CallsF.func Try.en58 rfl) ?_
  rintro _ w6 ⟨rfl, m⟩
  replace M := M.leaveW0 m
  clear m
  replace M : Mem _ _ _ [blk b3 (.cells #[(Value.int .i64 0), (Value.int .i64 0)] 62)] [SlAt 2 v xs.length (xs.flatMap spanE)] _ := M
  rw [(okI_gap ho).2]
  refine WL.step (v := (Value.bool false)) rfl (Step.pure (by kernel_rfl)) ?_
  refine WL.step (v := (Value.bool false)) rfl (Step.pick (t := false) rfl rfl) ?_
  refine WL.step (v := (Value.bool false)) rfl (Step.move rfl) ?_
  refine WL.step (v := (Value.int .i64 gap)) rfl (Step.move rfl) ?_
  refine WL.step (v := v) rfl (Step.move rfl) ?_
  refine WL.callX rfl (ref17_right gap v xs (by first | assumption | decide) (by first | assumption | (unfold in64; omega)) (M.enterW0 ⟨(M.wideR0 0 rfl), trivial⟩)) (CallsF.func Try.en41 rfl) ?_
  rintro _ w7 ⟨rfl, m⟩
  replace M := M.leaveW0 m
  clear m
  replace M : Mem _ _ _ [blk b3 (.cells #[(Value.int .i64 0), (Value.int .i64 0)] 62)] [SlAt 2 v xs.length (xs.flatMap spanE)] _ := M
  rw [(okI_right ho)]
  refine WL.step (v := (Value.bool false)) rfl (Step.pure (by kernel_rfl)) ?_
  refine WL.step (v := (Value.bool false)) rfl (Step.pick (t := false) rfl rfl) ?_
  refine WL.nil ?_
  refine W.cond (t := false) rfl (fun h => by cases h) (fun _ => ?_)
  refine W.skip ?_
  refine W.seq' ?_
  refine W.region rfl ?_
  refine WL.step (v := (Value.int .i64 t)) rfl (Step.move rfl) ?_
  refine WL.step (v := (Value.int .i64 t)) rfl (Step.move rfl) ?_
  refine WL.step (v := (Value.int .i64 gap)) rfl (Step.move rfl) ?_
  refine WL.step (v := (Value.int .i64 (t + gap))) rfl (Step.add rfl rfl (wrap_i64 (by omega))) ?_
  refine WL.step (v := (Value.agg #[(Value.int .i64 t), (Value.int .i64 (t + gap))])) rfl (Step.pure (by kernel_rfl)) ?_
  refine WL.alloc (c := #[(Value.int .i64 0), (Value.int .i64 0)]) M rfl Try.el62.zero rfl (fun b8 w9 hb8 M => ?_)
  refine WL.store (v := (Value.agg #[(Value.int .i64 t), (Value.int .i64 (t + gap))])) (cs := [(Value.int .i64 t), (Value.int .i64 (t + gap))]) (c' := #[(Value.int .i64 t), (Value.int .i64 (t + gap))]) M 0 rfl rfl Try.el62.sized rfl rfl rfl rfl (Nat.le_of_ble_eq_true rfl) (cel_cons rfl (cel_cons rfl cel_nil)) rfl rfl (fun w10 M => ?_)
  refine WL.nil ?_
  refine W.seq' ?_
  refine W.region rfl ?_
  refine WL.step (v := (Value.agg #[(Value.int .i64 t), (Value.int .i64 (t + gap))])) rfl (Step.loadN Try.ag62 rfl (M.blk 0 rfl) (Nat.le_of_ble_eq_true rfl) rfl) ?_
  refine WL.alloc (c := #[(Value.int .i64 0), (Value.int .i64 0)]) M rfl Try.el62.zero rfl (fun b11 w12 hb11 M => ?_)
  refine WL.store (v := (Value.agg #[(Value.int .i64 t), (Value.int .i64 (t + gap))])) (cs := [(Value.int .i64 t), (Value.int .i64 (t + gap))]) (c' := #[(Value.int .i64 t), (Value.int .i64 (t + gap))]) M 0 rfl rfl Try.el62.sized rfl rfl rfl rfl (Nat.le_of_ble_eq_true rfl) (cel_cons rfl (cel_cons rfl cel_nil)) rfl rfl (fun w13 M => ?_)
  refine WL.nil ?_
  refine W.seq' ?_
  refine W.region rfl ?_
  refine WL.step (v := (Value.slice none 0 0)) rfl (Step.assign rfl) ?_
  refine WL.step (v := (Value.slice none 0 0)) rfl (Step.assign rfl) ?_
  refine WL.nil ?_
  refine W.seq' ?_
  refine W.seq' ?_
  refine W.region rfl ?_
  refine WL.step (v := (Value.int .i64 0)) rfl (Step.assign rfl) ?_
  refine WL.nil ?_
  refine W.block ?_
  replace M := M.ownNil 62 2
  replace M : Mem _ _ _ [own 62 2 (Value.slice none 0 0) (([] : List Span).length) (([] : List Span).flatMap spanE), blk b11 (.cells #[(Value.int .i64 t), (Value.int .i64 (t + gap))] 62), blk b8 (.cells #[(Value.int .i64 t), (Value.int .i64 (t + gap))] 62), blk b3 (.cells #[(Value.int .i64 0), (Value.int .i64 0)] 62)] [SlAt 2 v xs.length (xs.flatMap spanE)] _ := M
  replace M := M.ownNil 62 2
  replace M : Mem _ _ _ [own 62 2 (Value.slice none 0 0) (([] : List Span).length) (([] : List Span).flatMap spanE), own 62 2 (Value.slice none 0 0) (([] : List Span).length) (([] : List Span).flatMap spanE), blk b11 (.cells #[(Value.int .i64 t), (Value.int .i64 (t + gap))] 62), blk b8 (.cells #[(Value.int .i64 t), (Value.int .i64 (t + gap))] 62), blk b3 (.cells #[(Value.int .i64 0), (Value.int .i64 0)] 62)] [SlAt 2 v xs.length (xs.flatMap spanE)] _ := M
  replace M := M.rechunk 0 (c' := own 62 2 (Value.slice none 0 0) ((insJ (xs.take 0) (⟨t, t + gap⟩ : Span)).length) ((insJ (xs.take 0) (⟨t, t + gap⟩ : Span)).flatMap spanE)) rfl rfl
  replace M : Mem _ _ _ [own 62 2 (Value.slice none 0 0) ((insJ (xs.take 0) (⟨t, t + gap⟩ : Span)).length) ((insJ (xs.take 0) (⟨t, t + gap⟩ : Span)).flatMap spanE), own 62 2 (Value.slice none 0 0) (([] : List Span).length) (([] : List Span).flatMap spanE), blk b11 (.cells #[(Value.int .i64 t), (Value.int .i64 (t + gap))] 62), blk b8 (.cells #[(Value.int .i64 t), (Value.int .i64 (t + gap))] 62), blk b3 (.cells #[(Value.int .i64 0), (Value.int .i64 0)] 62)] [SlAt 2 v xs.length (xs.flatMap spanE)] _ := M
  replace M := M.rechunk 1 (c' := own 62 2 (Value.slice none 0 0) ((insR (xs.take 0) (⟨t, t + gap⟩ : Span)).length) ((insR (xs.take 0) (⟨t, t + gap⟩ : Span)).flatMap spanE)) rfl rfl
  replace M : Mem _ _ _ [own 62 2 (Value.slice none 0 0) ((insJ (xs.take 0) (⟨t, t + gap⟩ : Span)).length) ((insJ (xs.take 0) (⟨t, t + gap⟩ : Span)).flatMap spanE), own 62 2 (Value.slice none 0 0) ((insR (xs.take 0) (⟨t, t + gap⟩ : Span)).length) ((insR (xs.take 0) (⟨t, t + gap⟩ : Span)).flatMap spanE), blk b11 (.cells #[(Value.int .i64 t), (Value.int .i64 (t + gap))] 62), blk b8 (.cells #[(Value.int .i64 t), (Value.int .i64 (t + gap))] 62), blk b3 (.cells #[(Value.int .i64 0), (Value.int .i64 0)] 62)] [SlAt 2 v xs.length (xs.flatMap spanE)] _ := M
  replace M := M.rechunk 2 (c' := blk b11 (.cells #[(Value.int .i64 ((insN (xs.take 0) (⟨t, t + gap⟩ : Span)).start)), (Value.int .i64 ((insN (xs.take 0) (⟨t, t + gap⟩ : Span)).fin))] 62)) rfl rfl
  replace M : Mem _ _ _ [own 62 2 (Value.slice none 0 0) ((insJ (xs.take 0) (⟨t, t + gap⟩ : Span)).length) ((insJ (xs.take 0) (⟨t, t + gap⟩ : Span)).flatMap spanE), own 62 2 (Value.slice none 0 0) ((insR (xs.take 0) (⟨t, t + gap⟩ : Span)).length) ((insR (xs.take 0) (⟨t, t + gap⟩ : Span)).flatMap spanE), blk b11 (.cells #[(Value.int .i64 ((insN (xs.take 0) (⟨t, t + gap⟩ : Span)).start)), (Value.int .i64 ((insN (xs.take 0) (⟨t, t + gap⟩ : Span)).fin))] 62), blk b8 (.cells #[(Value.int .i64 t), (Value.int .i64 (t + gap))] 62), blk b3 (.cells #[(Value.int .i64 0), (Value.int .i64 0)] 62)] [SlAt 2 v xs.length (xs.flatMap spanE)] _ := M
  replace M := M.sel (L' := [own 62 2 (Value.slice none 0 0) ((insJ (xs.take 0) (⟨t, t + gap⟩ : Span)).length) ((insJ (xs.take 0) (⟨t, t + gap⟩ : Span)).flatMap spanE), own 62 2 (Value.slice none 0 0) ((insR (xs.take 0) (⟨t, t + gap⟩ : Span)).length) ((insR (xs.take 0) (⟨t, t + gap⟩ : Span)).flatMap spanE), blk b11 (.cells #[(Value.int .i64 ((insN (xs.take 0) (⟨t, t + gap⟩ : Span)).start)), (Value.int .i64 ((insN (xs.take 0) (⟨t, t + gap⟩ : Span)).fin))] 62), blk b8 (.cells #[(Value.int .i64 t), (Value.int .i64 (t + gap))] 62), blk b3 (.cells #[(Value.int .i64 0), (Value.int .i64 0)] 62)]) [0, 1, 2, 3, 4] rfl (by decide)
  replace M : Mem _ _ _ [own 62 2 (Value.slice none 0 0) ((insJ (xs.take 0) (⟨t, t + gap⟩ : Span)).length) ((insJ (xs.take 0) (⟨t, t + gap⟩ : Span)).flatMap spanE), own 62 2 (Value.slice none 0 0) ((insR (xs.take 0) (⟨t, t + gap⟩ : Span)).length) ((insR (xs.take 0) (⟨t, t + gap⟩ : Span)).flatMap spanE), blk b11 (.cells #[(Value.int .i64 ((insN (xs.take 0) (⟨t, t + gap⟩ : Span)).start)), (Value.int .i64 ((insN (xs.take 0) (⟨t, t + gap⟩ : Span)).fin))] 62), blk b8 (.cells #[(Value.int .i64 t), (Value.int .i64 (t + gap))] 62), blk b3 (.cells #[(Value.int .i64 0), (Value.int .i64 0)] 62)] [SlAt 2 v xs.length (xs.flatMap spanE)] _ := M
  refine W.loop (fun kk ρ w' => ∃ (i_ : Nat) (jv_ : Value) (rv_ : Value), ((i_ ≤ xs.length) ∧ kk = xs.length - i_) ∧ ρ.has [(2, v), (6, (Value.slice none 0 0)), (7, (Value.pointer (some ⟨b3, 0, none⟩))), (8, (Value.slice none 0 0)), (9, (Value.int .i64 0)), (10, (Value.pointer (some ⟨b8, 0, none⟩))), (11, (Value.pointer (some ⟨b11, 0, none⟩))), (12, jv_), (13, rv_), (14, (Value.int .i64 ↑i_))] ∧ Mem G (fun _ => False) w [own 62 2 jv_ ((insJ (xs.take i_) (⟨t, t + gap⟩ : Span)).length) ((insJ (xs.take i_) (⟨t, t + gap⟩ : Span)).flatMap spanE), own 62 2 rv_ ((insR (xs.take i_) (⟨t, t + gap⟩ : Span)).length) ((insR (xs.take i_) (⟨t, t + gap⟩ : Span)).flatMap spanE), blk b11 (.cells #[(Value.int .i64 ((insN (xs.take i_) (⟨t, t + gap⟩ : Span)).start)), (Value.int .i64 ((insN (xs.take i_) (⟨t, t + gap⟩ : Span)).fin))] 62), blk b8 (.cells #[(Value.int .i64 t), (Value.int .i64 (t + gap))] 62), blk b3 (.cells #[(Value.int .i64 0), (Value.int .i64 0)] 62)] [SlAt 2 v xs.length (xs.flatMap spanE)]  w') _ ⟨0, _, _, ⟨(Nat.zero_le _), rfl⟩, ⟨rfl, rfl, rfl, rfl, rfl, rfl, rfl, rfl, rfl, rfl, rfl, rfl⟩, M⟩ ?_
  rintro _ ρ15 w14 ⟨i_, jv_, rv_, ⟨hi16, rfl⟩, hρ, M⟩
  obtain ⟨ρ15, rfl⟩ := hρ.know
  clear hρ
  have sl17 : IsSl jv_ := SlAt.isSl (own_slAt (M.chunk 0 rfl).inv)
  have sl18 : IsSl rv_ := SlAt.isSl (own_slAt (M.chunk 1 rfl).inv)
  have hjl_ := insJ_len (xs.take i_) (⟨t, t + gap⟩ : Span)
  have hrl_ := insR_len (xs.take i_) (⟨t, t + gap⟩ : Span)
  rw [List.length_take] at hjl_ hrl_
  refine W.seq' ?_
  refine W.seq' ?_
  refine W.region rfl ?_
  refine WL.step (v := (Value.int .i64 ↑i_)) rfl (Step.move rfl) ?_
  refine WL.step (v := v) rfl (Step.move rfl) ?_
  refine WL.step (v := (Value.int .i64 ↑xs.length)) rfl (Step.lenSl Try.un59 rfl (M.rep 0 rfl)) ?_
  refine WL.step (v := (Value.bool (decide ((↑i_ : Int) < (↑xs.length : Int))))) rfl (Step.pure (by kernel_rfl)) ?_
  refine WL.nil ?_
  refine W.cond (t := decide ((↑i_ : Int) < (↑xs.length : Int))) rfl (fun h19 => ?_) (fun h19 => ?_)
  ·
    have h19p := of_decide_eq_true h19
    refine W.skip ?_
    refine W.seq' ?_
    refine W.block ?_
    refine W.seq' ?_
    obtain ⟨cap21, hb20⟩ := SlAt.base (M.rep 0 rfl) (by omega)
    obtain ⟨x22, hx22⟩ := elem_of_lt (xs := xs) (i := i_) (by omega)
    obtain ⟨⟨_, _⟩, ⟨_, _⟩⟩ : (-9223372036854775808 ≤ x22.start ∧ x22.start ≤ 9223372036854775807) ∧ (-9223372036854775808 ≤ x22.fin ∧ x22.fin ≤ 9223372036854775807) := hin _ (List.mem_of_getElem? hx22)
    refine W.drawn M [0, 1, 2, 3, 4, 5] [5] [] [own 62 2 jv_ ((insJ (xs.take i_) (⟨t, t + gap⟩ : Span)).length) ((insJ (xs.take i_) (⟨t, t + gap⟩ : Span)).flatMap spanE), own 62 2 rv_ ((insR (xs.take i_) (⟨t, t + gap⟩ : Span)).length) ((insR (xs.take i_) (⟨t, t + gap⟩ : Span)).flatMap spanE), blk b11 (.cells #[(Value.int .i64 ((insN (xs.take i_) (⟨t, t + gap⟩ : Span)).start)), (Value.int .i64 ((insN (xs.take i_) (⟨t, t + gap⟩ : Span)).fin))] 62), blk b8 (.cells #[(Value.int .i64 t), (Value.int .i64 (t + gap))] 62), blk b3 (.cells #[(Value.int .i64 0), (Value.int .i64 0)] 62)] [SlAt 2 v xs.length (xs.flatMap spanE)] (List.Sublist.cons_cons _ (List.Sublist.cons_cons _ (List.Sublist.cons_cons _ (List.Sublist.cons_cons _ (List.Sublist.cons_cons _ List.Sublist.slnil))))) (fun _ h => h) Try.mixed (by kernel_rfl) ?_
    refine TW.pure (v := v) rfl (by decide) (by decide) rfl (fun w => (Step.move rfl)) ?_
    refine TW.pure (v := (Value.int .i64 ↑i_)) rfl (by decide) (by decide) rfl (fun w => (Step.move rfl)) ?_
    refine TW.pure (v := (Value.pointer (some ⟨(sBlk v), sOff v + i_ * 2, none⟩))) rfl (by decide) (by decide) rfl (fun w => (Step.indexAddr (i := i_) (Try.un59).run Try.el62.sized rfl rfl (by omega) hb20 (by omega))) ?_
    refine TW.read (v := (Value.agg #[(Value.int .i64 x22.start), (Value.int .i64 x22.fin)])) rfl (by decide) (by decide) rfl (fun A w M => (Step.loadEN (k := 0) (cs' := [(Value.int .i64 x22.start), (Value.int .i64 x22.fin)]) Try.ag62 (flat_ec (M.rep 0 rfl) hx22 spanE_len) (by decide) rfl rfl rfl)) ?_
    refine TW.read (v := (Value.agg #[(Value.int .i64 t), (Value.int .i64 (t + gap))])) rfl (by decide) (by decide) rfl (fun A w M => (Step.loadN Try.ag62 rfl (M.blk 4 rfl) (Nat.le_of_ble_eq_true rfl) rfl)) ?_
    refine TW.callX (ι := Unit) (fun jx v_ => v_ = (Value.bool (overS2 x22 (⟨t, t + gap⟩ : Span)))) (fun jx => [own 62 2 jv_ ((insJ (xs.take i_) (⟨t, t + gap⟩ : Span)).length) ((insJ (xs.take i_) (⟨t, t + gap⟩ : Span)).flatMap spanE), own 62 2 rv_ ((insR (xs.take i_) (⟨t, t + gap⟩ : Span)).length) ((insR (xs.take i_) (⟨t, t + gap⟩ : Span)).flatMap spanE), blk b11 (.cells #[(Value.int .i64 ((insN (xs.take i_) (⟨t, t + gap⟩ : Span)).start)), (Value.int .i64 ((insN (xs.take i_) (⟨t, t + gap⟩ : Span)).fin))] 62), blk b8 (.cells #[(Value.int .i64 t), (Value.int .i64 (t + gap))] 62), blk b3 (.cells #[(Value.int .i64 0), (Value.int .i64 0)] 62)]) (fun jx => [SlAt 2 v xs.length (xs.flatMap spanE)]) rfl (by decide) rfl (fun jx => (List.Sublist.cons_cons _ (List.Sublist.cons_cons _ (List.Sublist.cons_cons _ (List.Sublist.cons_cons _ (List.Sublist.cons_cons _ List.Sublist.slnil)))))) (fun jx r h => h) (fun A w M => Rets.mono (ref17_over x22 (⟨t, t + gap⟩ : Span) (M.enterW0 trivial)) (fun v_ w_ ⟨e_, m⟩ => ⟨(), e_, (M.leaveW0 m).sel (L' := [fl A, own 62 2 jv_ ((insJ (xs.take i_) (⟨t, t + gap⟩ : Span)).length) ((insJ (xs.take i_) (⟨t, t + gap⟩ : Span)).flatMap spanE), own 62 2 rv_ ((insR (xs.take i_) (⟨t, t + gap⟩ : Span)).length) ((insR (xs.take i_) (⟨t, t + gap⟩ : Span)).flatMap spanE), blk b11 (.cells #[(Value.int .i64 ((insN (xs.take i_) (⟨t, t + gap⟩ : Span)).start)), (Value.int .i64 ((insN (xs.take i_) (⟨t, t + gap⟩ : Span)).fin))] 62), blk b8 (.cells #[(Value.int .i64 t), (Value.int .i64 (t + gap))] 62), blk b3 (.cells #[(Value.int .i64 0), (Value.int .i64 0)] 62)]) [0, 1, 2, 3, 4, 5] rfl (by decide), fun b hb => M.keptW0 m (fl A) (List.mem_cons_self ..) b hb⟩)) (fun w => CallsF.func Try.en39 rfl) (fun jx v hp hin => ?_)
    replace hp := hp.symm; subst hp
    clear hin
    change TW _ _ _ _ _ _ _ _ (MemA _ _ _ [own 62 2 jv_ ((insJ (xs.take i_) (⟨t, t + gap⟩ : Span)).length) ((insJ (xs.take i_) (⟨t, t + gap⟩ : Span)).flatMap spanE), own 62 2 rv_ ((insR (xs.take i_) (⟨t, t + gap⟩ : Span)).length) ((insR (xs.take i_) (⟨t, t + gap⟩ : Span)).flatMap spanE), blk b11 (.cells #[(Value.int .i64 ((insN (xs.take i_) (⟨t, t + gap⟩ : Span)).start)), (Value.int .i64 ((insN (xs.take i_) (⟨t, t + gap⟩ : Span)).fin))] 62), blk b8 (.cells #[(Value.int .i64 t), (Value.int .i64 (t + gap))] 62), blk b3 (.cells #[(Value.int .i64 0), (Value.int .i64 0)] 62)] [SlAt 2 v xs.length (xs.flatMap spanE)])
    refine TW.done (fun w23 M => ?_)
    refine W.cond (t := overS2 x22 (⟨t, t + gap⟩ : Span)) rfl (fun h24 => ?_) (fun h24 => ?_)
    ·
      refine W.seq' ?_
      refine W.region rfl ?_
      refine WL.step (v := jv_) rfl (Step.move rfl) ?_
      refine WL.step (v := v) rfl (Step.move rfl) ?_
      refine WL.step (v := (Value.int .i64 ↑i_)) rfl (Step.move rfl) ?_
      refine WL.step (v := (Value.pointer (some ⟨(sBlk v), sOff v + i_ * 2, none⟩))) rfl (Step.indexAddr (i := i_) (Try.un59).run Try.el62.sized rfl rfl (by omega) hb20 (by omega)) ?_
      refine WL.step (v := (Value.agg #[(Value.int .i64 x22.start), (Value.int .i64 x22.fin)])) rfl (Step.loadEN (k := 0) (cs' := [(Value.int .i64 x22.start), (Value.int .i64 x22.fin)]) Try.ag62 (flat_ec (M.rep 0 rfl) hx22 spanE_len) (by decide) rfl rfl rfl) ?_
      refine WL.new (obj := .cells #[(Value.int .i64 x22.start), (Value.int .i64 x22.fin)] 62) (fun b => .slice (some ⟨b, 0, none⟩) 1 1) M rfl (fun w => Step.make (by kernel_rfl)) (fun b25 w26 hb25 M => ?_)
      refine WL.does rfl (M.appendF (insJ (xs.take i_) (⟨t, t + gap⟩ : Span)) ([x22] : List Span) (sv := (Value.slice (some ⟨b25, 0, none⟩) 1 1)) 1 Try.un59 Try.el62 rfl (by decide) rfl rfl rfl (SlAt.of_blk (M.blk 0 rfl) rfl (by decide)) spanE_cel (by have := (show (insJ (xs.take i_) (⟨t, t + gap⟩ : Span)).length ≤ 1000000 ∧ (insR (xs.take i_) (⟨t, t + gap⟩ : Span)).length ≤ 1000000 by omega); simp only [maxLen, List.length_nil, List.length_cons, List.length_append]; omega) (by have := (show (insJ (xs.take i_) (⟨t, t + gap⟩ : Span)).length ≤ 1000000 ∧ (insR (xs.take i_) (⟨t, t + gap⟩ : Span)).length ≤ 1000000 by omega); (try simp only [List.length_nil, List.length_cons, List.length_append]); omega)) ?_
      rintro v27 w28 M
      replace M : Mem _ _ _ [blk b25 (.cells #[(Value.int .i64 x22.start), (Value.int .i64 x22.fin)] 62), own 62 2 v27 (((insJ (xs.take i_) (⟨t, t + gap⟩ : Span)) ++ ([x22] : List Span)).length) (((insJ (xs.take i_) (⟨t, t + gap⟩ : Span)) ++ ([x22] : List Span)).flatMap spanE), own 62 2 rv_ ((insR (xs.take i_) (⟨t, t + gap⟩ : Span)).length) ((insR (xs.take i_) (⟨t, t + gap⟩ : Span)).flatMap spanE), blk b11 (.cells #[(Value.int .i64 ((insN (xs.take i_) (⟨t, t + gap⟩ : Span)).start)), (Value.int .i64 ((insN (xs.take i_) (⟨t, t + gap⟩ : Span)).fin))] 62), blk b8 (.cells #[(Value.int .i64 t), (Value.int .i64 (t + gap))] 62), blk b3 (.cells #[(Value.int .i64 0), (Value.int .i64 0)] 62)] [SlAt 2 v xs.length (xs.flatMap spanE)] _ := M
      have sl29 : IsSl v27 := SlAt.isSl (own_slAt (M.chunk 1 rfl).inv)
      refine WL.step (v := v27) rfl (Step.assign rfl) ?_
      refine WL.nil ?_
      refine W.drawn2 M [0, 1, 2, 3, 4, 5, 6, 7, 8, 9, 10, 11, 12, 13, 14, 15] [16, 17] [17] [] [blk b25 (.cells #[(Value.int .i64 x22.start), (Value.int .i64 x22.fin)] 62), own 62 2 v27 (((insJ (xs.take i_) (⟨t, t + gap⟩ : Span)) ++ ([x22] : List Span)).length) (((insJ (xs.take i_) (⟨t, t + gap⟩ : Span)) ++ ([x22] : List Span)).flatMap spanE), own 62 2 rv_ ((insR (xs.take i_) (⟨t, t + gap⟩ : Span)).length) ((insR (xs.take i_) (⟨t, t + gap⟩ : Span)).flatMap spanE), blk b11 (.cells #[(Value.int .i64 ((insN (xs.take i_) (⟨t, t + gap⟩ : Span)).start)), (Value.int .i64 ((insN (xs.take i_) (⟨t, t + gap⟩ : Span)).fin))] 62), blk b8 (.cells #[(Value.int .i64 t), (Value.int .i64 (t + gap))] 62), blk b3 (.cells #[(Value.int .i64 0), (Value.int .i64 0)] 62)] [SlAt 2 v xs.length (xs.flatMap spanE)] (List.Sublist.cons_cons _ (List.Sublist.cons_cons _ (List.Sublist.cons_cons _ (List.Sublist.cons_cons _ (List.Sublist.cons_cons _ (List.Sublist.cons_cons _ List.Sublist.slnil)))))) (fun _ h => h) Try.mixed (by kernel_rfl) ?_
      refine TW.pure (v := (Value.pointer (some ⟨b11, 0, none⟩))) rfl (by decide) (by decide) rfl (fun w => (Step.pure (by kernel_rfl))) ?_
      refine TW.read (v := (Value.int .i64 ((insN (xs.take i_) (⟨t, t + gap⟩ : Span)).start))) rfl (by decide) (by decide) rfl (fun A w M => (Step.load1 Try.sc2 rfl ((M.cell 4 rfl 0).trans rfl))) ?_
      refine TW.pure (v := v) rfl (by decide) (by decide) rfl (fun w => (Step.move rfl)) ?_
      refine TW.pure (v := (Value.int .i64 ↑i_)) rfl (by decide) (by decide) rfl (fun w => (Step.move rfl)) ?_
      refine TW.pure (v := (Value.pointer (some ⟨(sBlk v), sOff v + i_ * 2, none⟩))) rfl (by decide) (by decide) rfl (fun w => (Step.indexAddr (i := i_) (Try.un59).run Try.el62.sized rfl rfl (by omega) hb20 (by omega))) ?_
      refine TW.pure (v := (Value.pointer (some ⟨(sBlk v), sOff v + i_ * 2, none⟩))) rfl (by decide) (by decide) rfl (fun w => (Step.pure (by kernel_rfl))) ?_
      refine TW.read (v := (Value.int .i64 x22.start)) rfl (by decide) (by decide) rfl (fun A w M => (Step.loadE (k := 0) Try.sc2 (flat_ec (M.rep 0 rfl) hx22 spanE_len) (by decide) rfl rfl)) ?_
      refine TW.pure (v := (Value.int .i64 (min ((insN (xs.take i_) (⟨t, t + gap⟩ : Span)).start : Int) (x22.start : Int)))) rfl (by decide) (by decide) rfl (fun w => (Step.minI rfl rfl)) ?_
      refine TW.pure (v := (Value.pointer (some ⟨b11, 1, none⟩))) rfl (by decide) (by decide) rfl (fun w => (Step.pure (by kernel_rfl))) ?_
      refine TW.read (v := (Value.int .i64 ((insN (xs.take i_) (⟨t, t + gap⟩ : Span)).fin))) rfl (by decide) (by decide) rfl (fun A w M => (Step.load1 Try.sc2 rfl ((M.cell 4 rfl 1).trans rfl))) ?_
      refine TW.pure (v := v) rfl (by decide) (by decide) rfl (fun w => (Step.move rfl)) ?_
      refine TW.pure (v := (Value.int .i64 ↑i_)) rfl (by decide) (by decide) rfl (fun w => (Step.move rfl)) ?_
      refine TW.pure (v := (Value.pointer (some ⟨(sBlk v), sOff v + i_ * 2, none⟩))) rfl (by decide) (by decide) rfl (fun w => (Step.indexAddr (i := i_) (Try.un59).run Try.el62.sized rfl rfl (by omega) hb20 (by omega))) ?_
      refine TW.pure (v := (Value.pointer (some ⟨(sBlk v), sOff v + i_ * 2 + 1, none⟩))) rfl (by decide) (by decide) rfl (fun w => (Step.pure (by kernel_rfl))) ?_
      refine TW.read (v := (Value.int .i64 x22.fin)) rfl (by decide) (by decide) rfl (fun A w M => (Step.loadE (k := 1) Try.sc2 (flat_ec (M.rep 0 rfl) hx22 spanE_len) (by decide) rfl rfl)) ?_
      refine TW.pure (v := (Value.int .i64 (max ((insN (xs.take i_) (⟨t, t + gap⟩ : Span)).fin : Int) (x22.fin : Int)))) rfl (by decide) (by decide) rfl (fun w => (Step.maxI rfl rfl)) ?_
      refine TW.turn [blk b25 (.cells #[(Value.int .i64 x22.start), (Value.int .i64 x22.fin)] 62), own 62 2 v27 (((insJ (xs.take i_) (⟨t, t + gap⟩ : Span)) ++ ([x22] : List Span)).length) (((insJ (xs.take i_) (⟨t, t + gap⟩ : Span)) ++ ([x22] : List Span)).flatMap spanE), own 62 2 rv_ ((insR (xs.take i_) (⟨t, t + gap⟩ : Span)).length) ((insR (xs.take i_) (⟨t, t + gap⟩ : Span)).flatMap spanE), blk b8 (.cells #[(Value.int .i64 t), (Value.int .i64 (t + gap))] 62), blk b3 (.cells #[(Value.int .i64 0), (Value.int .i64 0)] 62)] [SlAt 2 v xs.length (xs.flatMap spanE)] (List.Sublist.cons_cons _ (List.Sublist.cons_cons _ (List.Sublist.cons_cons _ (List.Sublist.cons _ (List.Sublist.cons_cons _ (List.Sublist.cons_cons _ List.Sublist.slnil)))))) (fun _ h => h) ?_
      refine TW.pure (v := (Value.agg #[(Value.int .i64 (min ((insN (xs.take i_) (⟨t, t + gap⟩ : Span)).start : Int) (x22.start : Int))), (Value.int .i64 (max ((insN (xs.take i_) (⟨t, t + gap⟩ : Span)).fin : Int) (x22.fin : Int)))])) rfl (by decide) (by decide) rfl (fun w => (Step.pure (by kernel_rfl))) ?_
      refine TW.store (v := (Value.agg #[(Value.int .i64 (min ((insN (xs.take i_) (⟨t, t + gap⟩ : Span)).start : Int) (x22.start : Int))), (Value.int .i64 (max ((insN (xs.take i_) (⟨t, t + gap⟩ : Span)).fin : Int) (x22.fin : Int)))])) (cs := [(Value.int .i64 (min ((insN (xs.take i_) (⟨t, t + gap⟩ : Span)).start : Int) (x22.start : Int))), (Value.int .i64 (max ((insN (xs.take i_) (⟨t, t + gap⟩ : Span)).fin : Int) (x22.fin : Int)))]) (c' := #[(Value.int .i64 (min ((insN (xs.take i_) (⟨t, t + gap⟩ : Span)).start : Int) (x22.start : Int))), (Value.int .i64 (max ((insN (xs.take i_) (⟨t, t + gap⟩ : Span)).fin : Int) (x22.fin : Int)))]) 3 rfl rfl (by decide) rfl Try.el62.sized rfl rfl rfl rfl (Nat.le_of_ble_eq_true rfl) (cel_cons rfl (cel_cons rfl cel_nil)) rfl rfl (List.Sublist.cons_cons _ (List.Sublist.cons_cons _ (List.Sublist.cons_cons _ (List.Sublist.cons _ (List.Sublist.cons_cons _ (List.Sublist.cons_cons _ List.Sublist.slnil)))))) (fun r h => h) ?_
      refine TW.done (fun w33 M => ?_)
      refine W.region rfl ?_
      refine WL.step (v := (Value.int .i64 ↑i_)) rfl (Step.move rfl) ?_
      refine WL.step (v := (Value.int .i64 (↑i_ + 1))) rfl (Step.add rfl rfl (wrap_i64 (by omega))) ?_
      refine WL.step (v := (Value.int .i64 (↑i_ + 1))) rfl (Step.assign rfl) ?_
      refine WL.nil ?_
      replace M := M.rechunk 1 (c' := own 62 2 v27 ((insJ (xs.take (i_ + 1)) (⟨t, t + gap⟩ : Span)).length) ((insJ (xs.take (i_ + 1)) (⟨t, t + gap⟩ : Span)).flatMap spanE)) rfl (by rw [insJ_hit hx22 (by simpa using h24)])
      replace M : Mem _ _ _ [blk b25 (.cells #[(Value.int .i64 x22.start), (Value.int .i64 x22.fin)] 62), own 62 2 v27 ((insJ (xs.take (i_ + 1)) (⟨t, t + gap⟩ : Span)).length) ((insJ (xs.take (i_ + 1)) (⟨t, t + gap⟩ : Span)).flatMap spanE), own 62 2 rv_ ((insR (xs.take i_) (⟨t, t + gap⟩ : Span)).length) ((insR (xs.take i_) (⟨t, t + gap⟩ : Span)).flatMap spanE), blk b11 (.cells #[(Value.int .i64 (min ((insN (xs.take i_) (⟨t, t + gap⟩ : Span)).start : Int) (x22.start : Int))), (Value.int .i64 (max ((insN (xs.take i_) (⟨t, t + gap⟩ : Span)).fin : Int) (x22.fin : Int)))] 62), blk b8 (.cells #[(Value.int .i64 t), (Value.int .i64 (t + gap))] 62), blk b3 (.cells #[(Value.int .i64 0), (Value.int .i64 0)] 62)] [SlAt 2 v xs.length (xs.flatMap spanE)] _ := M
      replace M := M.rechunk 2 (c' := own 62 2 rv_ ((insR (xs.take (i_ + 1)) (⟨t, t + gap⟩ : Span)).length) ((insR (xs.take (i_ + 1)) (⟨t, t + gap⟩ : Span)).flatMap spanE)) rfl (by rw [insR_hit hx22 (by simpa using h24)])
      replace M : Mem _ _ _ [blk b25 (.cells #[(Value.int .i64 x22.start), (Value.int .i64 x22.fin)] 62), own 62 2 v27 ((insJ (xs.take (i_ + 1)) (⟨t, t + gap⟩ : Span)).length) ((insJ (xs.take (i_ + 1)) (⟨t, t + gap⟩ : Span)).flatMap spanE), own 62 2 rv_ ((insR (xs.take (i_ + 1)) (⟨t, t + gap⟩ : Span)).length) ((insR (xs.take (i_ + 1)) (⟨t, t + gap⟩ : Span)).flatMap spanE), blk b11 (.cells #[(Value.int .i64 (min ((insN (xs.take i_) (⟨t, t + gap⟩ : Span)).start : Int) (x22.start : Int))), (Value.int .i64 (max ((insN (xs.take i_) (⟨t, t + gap⟩ : Span)).fin : Int) (x22.fin : Int)))] 62), blk b8 (.cells #[(Value.int .i64 t), (Value.int .i64 (t + gap))] 62), blk b3 (.cells #[(Value.int .i64 0), (Value.int .i64 0)] 62)] [SlAt 2 v xs.length (xs.flatMap spanE)] _ := M
      replace M := M.rechunk 3 (c' := blk b11 (.cells #[(Value.int .i64 ((insN (xs.take (i_ + 1)) (⟨t, t + gap⟩ : Span)).start)), (Value.int .i64 ((insN (xs.take (i_ + 1)) (⟨t, t + gap⟩ : Span)).fin))] 62)) rfl (by rw [insN_hit hx22 (by simpa using h24)])
      replace M : Mem _ _ _ [blk b25 (.cells #[(Value.int .i64 x22.start), (Value.int .i64 x22.fin)] 62), own 62 2 v27 ((insJ (xs.take (i_ + 1)) (⟨t, t + gap⟩ : Span)).length) ((insJ (xs.take (i_ + 1)) (⟨t, t + gap⟩ : Span)).flatMap spanE), own 62 2 rv_ ((insR (xs.take (i_ + 1)) (⟨t, t + gap⟩ : Span)).length) ((insR (xs.take (i_ + 1)) (⟨t, t + gap⟩ : Span)).flatMap spanE), blk b11 (.cells #[(Value.int .i64 ((insN (xs.take (i_ + 1)) (⟨t, t + gap⟩ : Span)).start)), (Value.int .i64 ((insN (xs.take (i_ + 1)) (⟨t, t + gap⟩ : Span)).fin))] 62), blk b8 (.cells #[(Value.int .i64 t), (Value.int .i64 (t + gap))] 62), blk b3 (.cells #[(Value.int .i64 0), (Value.int .i64 0)] 62)] [SlAt 2 v xs.length (xs.flatMap spanE)] _ := M
      replace M := M.sel (L' := [own 62 2 v27 ((insJ (xs.take (i_ + 1)) (⟨t, t + gap⟩ : Span)).length) ((insJ (xs.take (i_ + 1)) (⟨t, t + gap⟩ : Span)).flatMap spanE), own 62 2 rv_ ((insR (xs.take (i_ + 1)) (⟨t, t + gap⟩ : Span)).length) ((insR (xs.take (i_ + 1)) (⟨t, t + gap⟩ : Span)).flatMap spanE), blk b11 (.cells #[(Value.int .i64 ((insN (xs.take (i_ + 1)) (⟨t, t + gap⟩ : Span)).start)), (Value.int .i64 ((insN (xs.take (i_ + 1)) (⟨t, t + gap⟩ : Span)).fin))] 62), blk b8 (.cells #[(Value.int .i64 t), (Value.int .i64 (t + gap))] 62), blk b3 (.cells #[(Value.int .i64 0), (Value.int .i64 0)] 62)]) [1, 2, 3, 4, 5] rfl (by decide)
      exact ⟨_, (by omega), i_ + 1, _, _, ⟨(by omega), rfl⟩, ⟨rfl, rfl, rfl, rfl, rfl, rfl, rfl, rfl, rfl, rfl, rfl, rfl⟩, M⟩
    ·
      refine W.region rfl ?_
      refine WL.step (v := rv_) rfl (Step.move rfl) ?_
      refine WL.step (v := v) rfl (Step.move rfl) ?_
      refine WL.step (v := (Value.int .i64 ↑i_)) rfl (Step.move rfl) ?_
      refine WL.step (v := (Value.pointer (some ⟨(sBlk v), sOff v + i_ * 2, none⟩))) rfl (Step.indexAddr (i := i_) (Try.un59).run Try.el62.sized rfl rfl (by omega) hb20 (by omega)) ?_
      refine WL.step (v := (Value.agg #[(Value.int .i64 x22.start), (Value.int .i64 x22.fin)])) rfl (Step.loadEN (k := 0) (cs' := [(Value.int .i64 x22.start), (Value.int .i64 x22.fin)]) Try.ag62 (flat_ec (M.rep 0 rfl) hx22 spanE_len) (by decide) rfl rfl rfl) ?_
      refine WL.new (obj := .cells #[(Value.int .i64 x22.start), (Value.int .i64 x22.fin)] 62) (fun b => .slice (some ⟨b, 0, none⟩) 1 1) M rfl (fun w => Step.make (by kernel_rfl)) (fun b34 w35 hb34 M => ?_)
      refine WL.does rfl (M.appendF (insR (xs.take i_) (⟨t, t + gap⟩ : Span)) ([x22] : List Span) (sv := (Value.slice (some ⟨b34, 0, none⟩) 1 1)) 2 Try.un59 Try.el62 rfl (by decide) rfl rfl rfl (SlAt.of_blk (M.blk 0 rfl) rfl (by decide)) spanE_cel (by have := (show (insJ (xs.take i_) (⟨t, t + gap⟩ : Span)).length ≤ 1000000 ∧ (insR (xs.take i_) (⟨t, t + gap⟩ : Span)).length ≤ 1000000 by omega); simp only [maxLen, List.length_nil, List.length_cons, List.length_append]; omega) (by have := (show (insJ (xs.take i_) (⟨t, t + gap⟩ : Span)).length ≤ 1000000 ∧ (insR (xs.take i_) (⟨t, t + gap⟩ : Span)).length ≤ 1000000 by omega); (try simp only [List.length_nil, List.length_cons, List.length_append]); omega)) ?_
      rintro v36 w37 M
      replace M : Mem _ _ _ [blk b34 (.cells #[(Value.int .i64 x22.start), (Value.int .i64 x22.fin)] 62), own 62 2 jv_ ((insJ (xs.take i_) (⟨t, t + gap⟩ : Span)).length) ((insJ (xs.take i_) (⟨t, t + gap⟩ : Span)).flatMap spanE), own 62 2 v36 (((insR (xs.take i_) (⟨t, t + gap⟩ : Span)) ++ ([x22] : List Span)).length) (((insR (xs.take i_) (⟨t, t + gap⟩ : Span)) ++ ([x22] : List Span)).flatMap spanE), blk b11 (.cells #[(Value.int .i64 ((insN (xs.take i_) (⟨t, t + gap⟩ : Span)).start)), (Value.int .i64 ((insN (xs.take i_) (⟨t, t + gap⟩ : Span)).fin))] 62), blk b8 (.cells #[(Value.int .i64 t), (Value.int .i64 (t + gap))] 62), blk b3 (.cells #[(Value.int .i64 0), (Value.int .i64 0)] 62)] [SlAt 2 v xs.length (xs.flatMap spanE)] _ := M
      have sl38 : IsSl v36 := SlAt.isSl (own_slAt (M.chunk 2 rfl).inv)
      refine WL.step (v := v36) rfl (Step.assign rfl) ?_
      refine WL.nil ?_
      refine W.region rfl ?_
      refine WL.step (v := (Value.int .i64 ↑i_)) rfl (Step.move rfl) ?_
      refine WL.step (v := (Value.int .i64 (↑i_ + 1))) rfl (Step.add rfl rfl (wrap_i64 (by omega))) ?_
      refine WL.step (v := (Value.int .i64 (↑i_ + 1))) rfl (Step.assign rfl) ?_
      refine WL.nil ?_
      replace M := M.rechunk 1 (c' := own 62 2 jv_ ((insJ (xs.take (i_ + 1)) (⟨t, t + gap⟩ : Span)).length) ((insJ (xs.take (i_ + 1)) (⟨t, t + gap⟩ : Span)).flatMap spanE)) rfl (by rw [insJ_miss hx22 (by simpa using h24)])
      replace M : Mem _ _ _ [blk b34 (.cells #[(Value.int .i64 x22.start), (Value.int .i64 x22.fin)] 62), own 62 2 jv_ ((insJ (xs.take (i_ + 1)) (⟨t, t + gap⟩ : Span)).length) ((insJ (xs.take (i_ + 1)) (⟨t, t + gap⟩ : Span)).flatMap spanE), own 62 2 v36 (((insR (xs.take i_) (⟨t, t + gap⟩ : Span)) ++ ([x22] : List Span)).length) (((insR (xs.take i_) (⟨t, t + gap⟩ : Span)) ++ ([x22] : List Span)).flatMap spanE), blk b11 (.cells #[(Value.int .i64 ((insN (xs.take i_) (⟨t, t + gap⟩ : Span)).start)), (Value.int .i64 ((insN (xs.take i_) (⟨t, t + gap⟩ : Span)).fin))] 62), blk b8 (.cells #[(Value.int .i64 t), (Value.int .i64 (t + gap))] 62), blk b3 (.cells #[(Value.int .i64 0), (Value.int .i64 0)] 62)] [SlAt 2 v xs.length (xs.flatMap spanE)] _ := M
      replace M := M.rechunk 2 (c' := own 62 2 v36 ((insR (xs.take (i_ + 1)) (⟨t, t + gap⟩ : Span)).length) ((insR (xs.take (i_ + 1)) (⟨t, t + gap⟩ : Span)).flatMap spanE)) rfl (by rw [insR_miss hx22 (by simpa using h24)])
      replace M : Mem _ _ _ [blk b34 (.cells #[(Value.int .i64 x22.start), (Value.int .i64 x22.fin)] 62), own 62 2 jv_ ((insJ (xs.take (i_ + 1)) (⟨t, t + gap⟩ : Span)).length) ((insJ (xs.take (i_ + 1)) (⟨t, t + gap⟩ : Span)).flatMap spanE), own 62 2 v36 ((insR (xs.take (i_ + 1)) (⟨t, t + gap⟩ : Span)).length) ((insR (xs.take (i_ + 1)) (⟨t, t + gap⟩ : Span)).flatMap spanE), blk b11 (.cells #[(Value.int .i64 ((insN (xs.take i_) (⟨t, t + gap⟩ : Span)).start)), (Value.int .i64 ((insN (xs.take i_) (⟨t, t + gap⟩ : Span)).fin))] 62), blk b8 (.cells #[(Value.int .i64 t), (Value.int .i64 (t + gap))] 62), blk b3 (.cells #[(Value.int .i64 0), (Value.int .i64 0)] 62)] [SlAt 2 v xs.length (xs.flatMap spanE)] _ := M
      replace M := M.rechunk 3 (c' := blk b11 (.cells #[(Value.int .i64 ((insN (xs.take (i_ + 1)) (⟨t, t + gap⟩ : Span)).start)), (Value.int .i64 ((insN (xs.take (i_ + 1)) (⟨t, t + gap⟩ : Span)).fin))] 62)) rfl (by rw [insN_miss hx22 (by simpa using h24)])
      replace M : Mem _ _ _ [blk b34 (.cells #[(Value.int .i64 x22.start), (Value.int .i64 x22.fin)] 62), own 62 2 jv_ ((insJ (xs.take (i_ + 1)) (⟨t, t + gap⟩ : Span)).length) ((insJ (xs.take (i_ + 1)) (⟨t, t + gap⟩ : Span)).flatMap spanE), own 62 2 v36 ((insR (xs.take (i_ + 1)) (⟨t, t + gap⟩ : Span)).length) ((insR (xs.take (i_ + 1)) (⟨t, t + gap⟩ : Span)).flatMap spanE), blk b11 (.cells #[(Value.int .i64 ((insN (xs.take (i_ + 1)) (⟨t, t + gap⟩ : Span)).start)), (Value.int .i64 ((insN (xs.take (i_ + 1)) (⟨t, t + gap⟩ : Span)).fin))] 62), blk b8 (.cells #[(Value.int .i64 t), (Value.int .i64 (t + gap))] 62), blk b3 (.cells #[(Value.int .i64 0), (Value.int .i64 0)] 62)] [SlAt 2 v xs.length (xs.flatMap spanE)] _ := M
      replace M := M.sel (L' := [own 62 2 jv_ ((insJ (xs.take (i_ + 1)) (⟨t, t + gap⟩ : Span)).length) ((insJ (xs.take (i_ + 1)) (⟨t, t + gap⟩ : Span)).flatMap spanE), own 62 2 v36 ((insR (xs.take (i_ + 1)) (⟨t, t + gap⟩ : Span)).length) ((insR (xs.take (i_ + 1)) (⟨t, t + gap⟩ : Span)).flatMap spanE), blk b11 (.cells #[(Value.int .i64 ((insN (xs.take (i_ + 1)) (⟨t, t + gap⟩ : Span)).start)), (Value.int .i64 ((insN (xs.take (i_ + 1)) (⟨t, t + gap⟩ : Span)).fin))] 62), blk b8 (.cells #[(Value.int .i64 t), (Value.int .i64 (t + gap))] 62), blk b3 (.cells #[(Value.int .i64 0), (Value.int .i64 0)] 62)]) [1, 2, 3, 4, 5] rfl (by decide)
      exact ⟨_, (by omega), i_ + 1, _, _, ⟨(by omega), rfl⟩, ⟨rfl, rfl, rfl, rfl, rfl, rfl, rfl, rfl, rfl, rfl, rfl, rfl⟩, M⟩
  ·
    have h19p := of_decide_eq_false h19
    have hall_ : xs.take i_ = xs := List.take_of_length_le (by omega)
    have hjl2_ := insJ_len xs (⟨t, t + gap⟩ : Span)
    have hrl2_ := insR_len xs (⟨t, t + gap⟩ : Span)
    have hlb_ := lowB_le (insR xs (⟨t, t + gap⟩ : Span)) (insN xs (⟨t, t + gap⟩ : Span)).start
    replace M := M.rechunk 0 (c' := own 62 2 jv_ ((insJ xs (⟨t, t + gap⟩ : Span)).length) ((insJ xs (⟨t, t + gap⟩ : Span)).flatMap spanE)) rfl (by rw [hall_])
    replace M : Mem _ _ _ [own 62 2 jv_ ((insJ xs (⟨t, t + gap⟩ : Span)).length) ((insJ xs (⟨t, t + gap⟩ : Span)).flatMap spanE), own 62 2 rv_ ((insR (xs.take i_) (⟨t, t + gap⟩ : Span)).length) ((insR (xs.take i_) (⟨t, t + gap⟩ : Span)).flatMap spanE), blk b11 (.cells #[(Value.int .i64 ((insN (xs.take i_) (⟨t, t + gap⟩ : Span)).start)), (Value.int .i64 ((insN (xs.take i_) (⟨t, t + gap⟩ : Span)).fin))] 62), blk b8 (.cells #[(Value.int .i64 t), (Value.int .i64 (t + gap))] 62), blk b3 (.cells #[(Value.int .i64 0), (Value.int .i64 0)] 62)] [SlAt 2 v xs.length (xs.flatMap spanE)] _ := M
    replace M := M.rechunk 1 (c' := own 62 2 rv_ ((insR xs (⟨t, t + gap⟩ : Span)).length) ((insR xs (⟨t, t + gap⟩ : Span)).flatMap spanE)) rfl (by rw [hall_])
    replace M : Mem _ _ _ [own 62 2 jv_ ((insJ xs (⟨t, t + gap⟩ : Span)).length) ((insJ xs (⟨t, t + gap⟩ : Span)).flatMap spanE), own 62 2 rv_ ((insR xs (⟨t, t + gap⟩ : Span)).length) ((insR xs (⟨t, t + gap⟩ : Span)).flatMap spanE), blk b11 (.cells #[(Value.int .i64 ((insN (xs.take i_) (⟨t, t + gap⟩ : Span)).start)), (Value.int .i64 ((insN (xs.take i_) (⟨t, t + gap⟩ : Span)).fin))] 62), blk b8 (.cells #[(Value.int .i64 t), (Value.int .i64 (t + gap))] 62), blk b3 (.cells #[(Value.int .i64 0), (Value.int .i64 0)] 62)] [SlAt 2 v xs.length (xs.flatMap spanE)] _ := M
    replace M := M.rechunk 2 (c' := blk b11 (.cells #[(Value.int .i64 ((insN xs (⟨t, t + gap⟩ : Span)).start)), (Value.int .i64 ((insN xs (⟨t, t + gap⟩ : Span)).fin))] 62)) rfl (by rw [hall_])
    replace M : Mem _ _ _ [own 62 2 jv_ ((insJ xs (⟨t, t + gap⟩ : Span)).length) ((insJ xs (⟨t, t + gap⟩ : Span)).flatMap spanE), own 62 2 rv_ ((insR xs (⟨t, t + gap⟩ : Span)).length) ((insR xs (⟨t, t + gap⟩ : Span)).flatMap spanE), blk b11 (.cells #[(Value.int .i64 ((insN xs (⟨t, t + gap⟩ : Span)).start)), (Value.int .i64 ((insN xs (⟨t, t + gap⟩ : Span)).fin))] 62), blk b8 (.cells #[(Value.int .i64 t), (Value.int .i64 (t + gap))] 62), blk b3 (.cells #[(Value.int .i64 0), (Value.int .i64 0)] 62)] [SlAt 2 v xs.length (xs.flatMap spanE)] _ := M
    refine W.exit ?_
    refine thn_exit ?_
    refine thn_exit ?_
    refine inBlk_hit ?_
    refine W.seq' ?_
    refine W.region rfl ?_
    refine WL.step (v := rv_) rfl (Step.move rfl) ?_
    refine WL.step (v := (Value.agg #[(Value.int .i64 ((insN xs (⟨t, t + gap⟩ : Span)).start)), (Value.int .i64 ((insN xs (⟨t, t + gap⟩ : Span)).fin))])) rfl (Step.loadN Try.ag62 rfl (M.blk 2 rfl) (Nat.le_of_ble_eq_true rfl) rfl) ?_
    refine WL.new (obj := .cells #[(Value.int .i64 ((insN xs (⟨t, t + gap⟩ : Span)).start)), (Value.int .i64 ((insN xs (⟨t, t + gap⟩ : Span)).fin))] 62) (fun b => .slice (some ⟨b, 0, none⟩) 1 1) M rfl (fun w => Step.make (by kernel_rfl)) (fun b39 w40 hb39 M => ?_)
    refine WL.does rfl (M.appendF (insR xs (⟨t, t + gap⟩ : Span)) ([(insN xs (⟨t, t + gap⟩ : Span))] : List Span) (sv := (Value.slice (some ⟨b39, 0, none⟩) 1 1)) 2 Try.un59 Try.el62 rfl (by decide) rfl rfl rfl (SlAt.of_blk (M.blk 0 rfl) rfl (by decide)) spanE_cel (by have := (show (insR xs (⟨t, t + gap⟩ : Span)).length ≤ 1000000 by have := insR_len xs (⟨t, t + gap⟩ : Span); omega); simp only [maxLen, List.length_nil, List.length_cons, List.length_append]; omega) (by have := (show (insR xs (⟨t, t + gap⟩ : Span)).length ≤ 1000000 by have := insR_len xs (⟨t, t + gap⟩ : Span); omega); (try simp only [List.length_nil, List.length_cons, List.length_append]); omega)) ?_
    rintro v41 w42 M
    replace M : Mem _ _ _ [blk b39 (.cells #[(Value.int .i64 ((insN xs (⟨t, t + gap⟩ : Span)).start)), (Value.int .i64 ((insN xs (⟨t, t + gap⟩ : Span)).fin))] 62), own 62 2 jv_ ((insJ xs (⟨t, t + gap⟩ : Span)).length) ((insJ xs (⟨t, t + gap⟩ : Span)).flatMap spanE), own 62 2 v41 (((insR xs (⟨t, t + gap⟩ : Span)) ++ ([(insN xs (⟨t, t + gap⟩ : Span))] : List Span)).length) (((insR xs (⟨t, t + gap⟩ : Span)) ++ ([(insN xs (⟨t, t + gap⟩ : Span))] : List Span)).flatMap spanE), blk b11 (.cells #[(Value.int .i64 ((insN xs (⟨t, t + gap⟩ : Span)).start)), (Value.int .i64 ((insN xs (⟨t, t + gap⟩ : Span)).fin))] 62), blk b8 (.cells #[(Value.int .i64 t), (Value.int .i64 (t + gap))] 62), blk b3 (.cells #[(Value.int .i64 0), (Value.int .i64 0)] 62)] [SlAt 2 v xs.length (xs.flatMap spanE)] _ := M
    have sl43 : IsSl v41 := SlAt.isSl (own_slAt (M.chunk 2 rfl).inv)
    refine WL.step (v := v41) rfl (Step.assign rfl) ?_
    refine WL.nil ?_
    refine W.seq' ?_
    refine W.drawn M [0, 1, 2, 3, 4, 5, 6, 7] [3, 5] [] [blk b39 (.cells #[(Value.int .i64 ((insN xs (⟨t, t + gap⟩ : Span)).start)), (Value.int .i64 ((insN xs (⟨t, t + gap⟩ : Span)).fin))] 62), own 62 2 jv_ ((insJ xs (⟨t, t + gap⟩ : Span)).length) ((insJ xs (⟨t, t + gap⟩ : Span)).flatMap spanE), own 62 2 v41 (((insR xs (⟨t, t + gap⟩ : Span)) ++ ([(insN xs (⟨t, t + gap⟩ : Span))] : List Span)).length) (((insR xs (⟨t, t + gap⟩ : Span)) ++ ([(insN xs (⟨t, t + gap⟩ : Span))] : List Span)).flatMap spanE), blk b11 (.cells #[(Value.int .i64 ((insN xs (⟨t, t + gap⟩ : Span)).start)), (Value.int .i64 ((insN xs (⟨t, t + gap⟩ : Span)).fin))] 62), blk b8 (.cells #[(Value.int .i64 t), (Value.int .i64 (t + gap))] 62)] [SlAt 2 v xs.length (xs.flatMap spanE)] (List.Sublist.cons_cons _ (List.Sublist.cons_cons _ (List.Sublist.cons_cons _ (List.Sublist.cons_cons _ (List.Sublist.cons_cons _ (List.Sublist.cons _ List.Sublist.slnil)))))) (fun _ h => h) Try.mixed (by kernel_rfl) ?_
    refine TW.pure (v := jv_) rfl (by decide) (by decide) rfl (fun w => (Step.move rfl)) ?_
    refine TW.read (v := (Value.agg #[(Value.int .i64 ((insN xs (⟨t, t + gap⟩ : Span)).start)), (Value.int .i64 ((insN xs (⟨t, t + gap⟩ : Span)).fin))])) rfl (by decide) (by decide) rfl (fun A w M => (Step.loadN Try.ag62 rfl (M.blk 4 rfl) (Nat.le_of_ble_eq_true rfl) rfl)) ?_
    refine TW.pure (v := v41) rfl (by decide) (by decide) rfl (fun w => (Step.move rfl)) ?_
    refine TW.callX (ι := Value) (fun jx v_ => v_ = jx) (fun jx => [own 62 2 jx ((canS ((insR xs (⟨t, t + gap⟩ : Span)) ++ ([(insN xs (⟨t, t + gap⟩ : Span))] : List Span))).length) ((canS ((insR xs (⟨t, t + gap⟩ : Span)) ++ ([(insN xs (⟨t, t + gap⟩ : Span))] : List Span))).flatMap spanE), blk b39 (.cells #[(Value.int .i64 ((insN xs (⟨t, t + gap⟩ : Span)).start)), (Value.int .i64 ((insN xs (⟨t, t + gap⟩ : Span)).fin))] 62), own 62 2 jv_ ((insJ xs (⟨t, t + gap⟩ : Span)).length) ((insJ xs (⟨t, t + gap⟩ : Span)).flatMap spanE), own 62 2 v41 (((insR xs (⟨t, t + gap⟩ : Span)) ++ ([(insN xs (⟨t, t + gap⟩ : Span))] : List Span)).length) (((insR xs (⟨t, t + gap⟩ : Span)) ++ ([(insN xs (⟨t, t + gap⟩ : Span))] : List Span)).flatMap spanE), blk b11 (.cells #[(Value.int .i64 ((insN xs (⟨t, t + gap⟩ : Span)).start)), (Value.int .i64 ((insN xs (⟨t, t + gap⟩ : Span)).fin))] 62), blk b8 (.cells #[(Value.int .i64 t), (Value.int .i64 (t + gap))] 62), blk b3 (.cells #[(Value.int .i64 0), (Value.int .i64 0)] 62)]) (fun jx => [SlAt 2 v xs.length (xs.flatMap spanE)]) rfl (by decide) rfl (fun jx => (List.Sublist.cons _ (List.Sublist.cons_cons _ (List.Sublist.cons_cons _ (List.Sublist.cons_cons _ (List.Sublist.cons_cons _ (List.Sublist.cons_cons _ (List.Sublist.cons _ List.Sublist.slnil)))))))) (fun jx r h => h) (fun A w M => Rets.mono (ref17_all v41 ((insR xs (⟨t, t + gap⟩ : Span)) ++ ([(insN xs (⟨t, t + gap⟩ : Span))] : List Span)) (by first | omega | (simp only [List.length_append, List.length_cons, List.length_nil]; omega)) (okL_ins hcan_ (show t < t + gap by omega)) (M.enterW0 ⟨((M.wideC0 3 rfl).imp fun _ h => own_slAt h), trivial⟩)) (fun v_ w_ ⟨v48, e_, m⟩ => ⟨v48, e_, (M.leaveW0 m).sel (L' := [fl A, own 62 2 v48 ((canS ((insR xs (⟨t, t + gap⟩ : Span)) ++ ([(insN xs (⟨t, t + gap⟩ : Span))] : List Span))).length) ((canS ((insR xs (⟨t, t + gap⟩ : Span)) ++ ([(insN xs (⟨t, t + gap⟩ : Span))] : List Span))).flatMap spanE), blk b39 (.cells #[(Value.int .i64 ((insN xs (⟨t, t + gap⟩ : Span)).start)), (Value.int .i64 ((insN xs (⟨t, t + gap⟩ : Span)).fin))] 62), own 62 2 jv_ ((insJ xs (⟨t, t + gap⟩ : Span)).length) ((insJ xs (⟨t, t + gap⟩ : Span)).flatMap spanE), own 62 2 v41 (((insR xs (⟨t, t + gap⟩ : Span)) ++ ([(insN xs (⟨t, t + gap⟩ : Span))] : List Span)).length) (((insR xs (⟨t, t + gap⟩ : Span)) ++ ([(insN xs (⟨t, t + gap⟩ : Span))] : List Span)).flatMap spanE), blk b11 (.cells #[(Value.int .i64 ((insN xs (⟨t, t + gap⟩ : Span)).start)), (Value.int .i64 ((insN xs (⟨t, t + gap⟩ : Span)).fin))] 62), blk b8 (.cells #[(Value.int .i64 t), (Value.int .i64 (t + gap))] 62), blk b3 (.cells #[(Value.int .i64 0), (Value.int .i64 0)] 62)]) [1, 0, 2, 3, 4, 5, 6, 7] rfl (by decide), fun b hb => M.keptW0 m (fl A) (List.mem_cons_self ..) b hb⟩)) (fun w => CallsF.func Try.en59 rfl) (fun v48 v hp hin => ?_)
    replace hp := hp.symm; subst hp
    obtain ⟨_, _, hin⟩ := hin
    have sl49 : IsSl v48 := SlAt.isSl (own_slAt (Mem.chunk hin 1 rfl).inv)
    have hle50 := SlAt.le' (own_slAt (Mem.chunk hin 1 rfl).inv)
    clear hin
    change TW _ _ _ _ _ _ _ _ (MemA _ _ _ [own 62 2 v48 ((canS ((insR xs (⟨t, t + gap⟩ : Span)) ++ ([(insN xs (⟨t, t + gap⟩ : Span))] : List Span))).length) ((canS ((insR xs (⟨t, t + gap⟩ : Span)) ++ ([(insN xs (⟨t, t + gap⟩ : Span))] : List Span))).flatMap spanE), blk b39 (.cells #[(Value.int .i64 ((insN xs (⟨t, t + gap⟩ : Span)).start)), (Value.int .i64 ((insN xs (⟨t, t + gap⟩ : Span)).fin))] 62), own 62 2 jv_ ((insJ xs (⟨t, t + gap⟩ : Span)).length) ((insJ xs (⟨t, t + gap⟩ : Span)).flatMap spanE), own 62 2 v41 (((insR xs (⟨t, t + gap⟩ : Span)) ++ ([(insN xs (⟨t, t + gap⟩ : Span))] : List Span)).length) (((insR xs (⟨t, t + gap⟩ : Span)) ++ ([(insN xs (⟨t, t + gap⟩ : Span))] : List Span)).flatMap spanE), blk b11 (.cells #[(Value.int .i64 ((insN xs (⟨t, t + gap⟩ : Span)).start)), (Value.int .i64 ((insN xs (⟨t, t + gap⟩ : Span)).fin))] 62), blk b8 (.cells #[(Value.int .i64 t), (Value.int .i64 (t + gap))] 62), blk b3 (.cells #[(Value.int .i64 0), (Value.int .i64 0)] 62)] [SlAt 2 v xs.length (xs.flatMap spanE)])
    refine TW.pure (v := jv_) rfl (by decide) (by decide) rfl (fun w => (Step.assign rfl)) ?_
    refine TW.store (v := (Value.agg #[(Value.int .i64 ((insN xs (⟨t, t + gap⟩ : Span)).start)), (Value.int .i64 ((insN xs (⟨t, t + gap⟩ : Span)).fin))])) (cs := [(Value.int .i64 ((insN xs (⟨t, t + gap⟩ : Span)).start)), (Value.int .i64 ((insN xs (⟨t, t + gap⟩ : Span)).fin))]) (c' := #[(Value.int .i64 ((insN xs (⟨t, t + gap⟩ : Span)).start)), (Value.int .i64 ((insN xs (⟨t, t + gap⟩ : Span)).fin))]) 6 rfl rfl (by decide) rfl Try.el62.sized rfl rfl rfl rfl (Nat.le_of_ble_eq_true rfl) (cel_cons rfl (cel_cons rfl cel_nil)) rfl rfl (List.Sublist.cons _ (List.Sublist.cons_cons _ (List.Sublist.cons_cons _ (List.Sublist.cons_cons _ (List.Sublist.cons_cons _ (List.Sublist.cons_cons _ (List.Sublist.cons _ List.Sublist.slnil))))))) (fun r h => h) ?_
    refine TW.pure (v := v48) rfl (by decide) (by decide) rfl (fun w => (Step.assign rfl)) ?_
    refine TW.pure (v := (Value.int .i64 0)) rfl (by decide) (by decide) rfl (fun w => (Step.assign rfl)) ?_
    refine TW.done (fun w51 M => ?_)
    refine W.ret ?_
    refine ⟨.inl rfl, (Value.tuple #[jv_, (Value.agg #[(Value.int .i64 ((insN xs (⟨t, t + gap⟩ : Span)).start)), (Value.int .i64 ((insN xs (⟨t, t + gap⟩ : Span)).fin))]), v48, (Value.int .i64 0)]), ?_, ?_⟩
    · exact ⟨rfl, (Res.r4 (show RV _ _ _ (.tmp 6) jv_ from by exact rfl) (RV.cellN Try.ag62 rfl (M.blk 6 rfl) rfl) (show RV _ _ _ (.tmp 8) v48 from by exact rfl) (show RV _ _ _ (.tmp 9) (Value.int .i64 0) from by exact rfl))⟩
    have e52 : insA xs (⟨t, t + gap⟩ : Span) = canS ((insR xs (⟨t, t + gap⟩ : Span)) ++ ([(insN xs (⟨t, t + gap⟩ : Span))] : List Span)) := by
      exact (canS_ins hcan_ (show t < t + gap by omega)).symm
    replace M := M.rechunk 0 (c' := own 62 2 v48 ((insA xs (⟨t, t + gap⟩ : Span)).length) ((insA xs (⟨t, t + gap⟩ : Span)).flatMap spanE)) rfl (congrArg (fun z => own 62 2 v48 z.length (z.flatMap spanE)) e52.symm)
    replace M : Mem _ _ _ [own 62 2 v48 ((insA xs (⟨t, t + gap⟩ : Span)).length) ((insA xs (⟨t, t + gap⟩ : Span)).flatMap spanE), blk b39 (.cells #[(Value.int .i64 ((insN xs (⟨t, t + gap⟩ : Span)).start)), (Value.int .i64 ((insN xs (⟨t, t + gap⟩ : Span)).fin))] 62), own 62 2 jv_ ((insJ xs (⟨t, t + gap⟩ : Span)).length) ((insJ xs (⟨t, t + gap⟩ : Span)).flatMap spanE), own 62 2 v41 (((insR xs (⟨t, t + gap⟩ : Span)) ++ ([(insN xs (⟨t, t + gap⟩ : Span))] : List Span)).length) (((insR xs (⟨t, t + gap⟩ : Span)) ++ ([(insN xs (⟨t, t + gap⟩ : Span))] : List Span)).flatMap spanE), blk b11 (.cells #[(Value.int .i64 ((insN xs (⟨t, t + gap⟩ : Span)).start)), (Value.int .i64 ((insN xs (⟨t, t + gap⟩ : Span)).fin))] 62), blk b8 (.cells #[(Value.int .i64 t), (Value.int .i64 (t + gap))] 62), blk b3 (.cells #[(Value.int .i64 ((insN xs (⟨t, t + gap⟩ : Span)).start)), (Value.int .i64 ((insN xs (⟨t, t + gap⟩ : Span)).fin))] 62)] [SlAt 2 v xs.length (xs.flatMap spanE)] _ := M
    refine ⟨jv_, v48, ?_, M.close [2, 0] rfl (by decide) trivial⟩
    rfl

theorem ref17_insno {G : Nat → Prop} {w : World} (gap : Int) (t : Int) (v : Value) (xs : List Span)  (hin : ∀ s, s ∈ xs → in64 s.start ∧ in64 s.fin) (ho : okI gap t xs = false) (M : Mem G (fun _ => False) w [] [SlAt 2 v xs.length (xs.flatMap spanE)] w) : Rets Try.prog 31 #[(Value.int .i64 gap), (Value.int .i64 t), v] w fun r w' => r = (Value.tuple #[(Value.slice none 0 0), (Value.agg #[(Value.int .i64 0), (Value.int .i64 0)]), (Value.slice none 0 0), (Value.int .i64 2)]) ∧ Mem G (fun _ => False) w [] [] w' := by
  refine Rets.enter 87 _ Try.func31 rfl Try.ntmps31 Try.results31 (by simp) ?_
  have hle1 := SlAt.le' (M.rep 0 rfl)
  have sl2 : IsSl v := SlAt.isSl (Mem.rep M 0 rfl)
  refine W.seq' ?_
  refine W.region rfl ?_
  refine WL.step (v := (Value.slice none 0 0)) rfl (Step.assign rfl) ?_
  refine WL.alloc (c := #[(Value.int .i64 0), (Value.int .i64 0)]) M rfl Try.el62.zero rfl (fun b3 w4 hb3 M => ?_)
  refine WL.step (v := (Value.slice none 0 0)) rfl (Step.assign rfl) ?_
  refine WL.step (v := (Value.int .i64 0)) rfl (Step.assign rfl) ?_
  refine WL.nil ?_
  refine W.seq' ?_
  refine W.seq' ?_
  refine W.region rfl ?_
  refine WL.step (v := (Value.int .i64 gap)) rfl (Step.move rfl) ?_
  refine WL.callX rfl (ref17_gap gap (M.enterW0 trivial)) (CallsF.func Try.en57 rfl) ?_
  rintro _ w5 ⟨rfl, m⟩
  replace M := M.leaveW0 m
  clear m
  replace M : Mem _ _ _ [blk b3 (.cells #[(Value.int .i64 0), (Value.int .i64 0)] 62)] [SlAt 2 v xs.length (xs.flatMap spanE)] _ := M
  refine WL.step (v := (Value.bool (!(gapB gap)))) rfl (Step.pure (by kernel_rfl)) ?_
  refine WL.step (v := (Value.bool (!(gapB gap)))) rfl (Step.move rfl) ?_
  rcases Bool.eq_false_or_eq_true (!(gapB gap)) with h6 | h6
  ·
    rw [h6]
    refine WL.pass rfl ?_
    refine WL.pass rfl ?_
    refine WL.pass rfl ?_
    refine WL.step (v := (Value.bool true)) rfl (Step.pick (t := true) rfl rfl) ?_
    refine WL.step (v := (Value.bool true)) rfl (Step.move rfl) ?_
    refine WL.pass rfl ?_
    refine WL.pass rfl ?_
    refine WL.pass rfl ?_
    refine WL.pass rfl ?_
    refine WL.step (v := (Value.bool true)) rfl (Step.pick (t := true) rfl rfl) ?_
    refine WL.nil ?_
    refine W.cond (t := true) rfl (fun _ => ?_) (fun h => by cases h)
    refine W.seq' ?_
    refine W.region rfl ?_
    refine WL.step (v := (Value.agg #[(Value.int .i64 0), (Value.int .i64 0)])) rfl (Step.pure (by kernel_rfl)) ?_
    refine WL.step (v := (Value.slice none 0 0)) rfl (Step.assign rfl) ?_
    refine WL.store (v := (Value.agg #[(Value.int .i64 0), (Value.int .i64 0)])) (cs := [(Value.int .i64 0), (Value.int .i64 0)]) (c' := #[(Value.int .i64 0), (Value.int .i64 0)]) M 0 rfl rfl Try.el62.sized rfl rfl rfl rfl (Nat.le_of_ble_eq_true rfl) (cel_cons rfl (cel_cons rfl cel_nil)) rfl rfl (fun w7 M => ?_)
    refine WL.step (v := (Value.slice none 0 0)) rfl (Step.assign rfl) ?_
    refine WL.step (v := (Value.int .i64 2)) rfl (Step.assign rfl) ?_
    refine WL.nil ?_
    refine W.ret ?_
    refine ⟨.inl rfl, (Value.tuple #[(Value.slice none 0 0), (Value.agg #[(Value.int .i64 0), (Value.int .i64 0)]), (Value.slice none 0 0), (Value.int .i64 2)]), ?_, ?_⟩
    · exact ⟨rfl, (Res.r4 (show RV _ _ _ (.tmp 6) (Value.slice none 0 0) from by exact rfl) (RV.cellN Try.ag62 rfl (M.blk 0 rfl) rfl) (show RV _ _ _ (.tmp 8) (Value.slice none 0 0) from by exact rfl) (show RV _ _ _ (.tmp 9) (Value.int .i64 2) from by exact rfl))⟩
    refine ⟨?_, M.close [] rfl (by decide) trivial⟩
    rfl
  ·
    obtain ⟨_, _⟩ := gapB_iff.1 (show gapB gap = true by simpa using h6)
    rw [h6]
    refine WL.step (v := (Value.int .i64 t)) rfl (Step.move rfl) ?_
    refine WL.callX rfl (ref17_time t (M.enterW0 trivial)) (CallsF.func Try.en58 rfl) ?_
    rintro _ w8 ⟨rfl, m⟩
    replace M := M.leaveW0 m
    clear m
    replace M : Mem _ _ _ [blk b3 (.cells #[(Value.int .i64 0), (Value.int .i64 0)] 62)] [SlAt 2 v xs.length (xs.flatMap spanE)] _ := M
    refine WL.step (v := (Value.bool (!(timeB t)))) rfl (Step.pure (by kernel_rfl)) ?_
    refine WL.step (v := (Value.bool (!(timeB t)))) rfl (Step.pick (t := false) rfl rfl) ?_
    refine WL.step (v := (Value.bool (!(timeB t)))) rfl (Step.move rfl) ?_
    rcases Bool.eq_false_or_eq_true (!(timeB t)) with h9 | h9
    ·
      rw [h9]
      refine WL.pass rfl ?_
      refine WL.pass rfl ?_
      refine WL.pass rfl ?_
      refine WL.pass rfl ?_
      refine WL.step (v := (Value.bool true)) rfl (Step.pick (t := true) rfl rfl) ?_
      refine WL.nil ?_
      refine W.cond (t := true) rfl (fun _ => ?_) (fun h => by cases h)
      refine W.seq' ?_
      refine W.region rfl ?_
      refine WL.step (v := (Value.agg #[(Value.int .i64 0), (Value.int .i64 0)])) rfl (Step.pure (by kernel_rfl)) ?_
      refine WL.step (v := (Value.slice none 0 0)) rfl (Step.assign rfl) ?_
      refine WL.store (v := (Value.agg #[(Value.int .i64 0), (Value.int .i64 0)])) (cs := [(Value.int .i64 0), (Value.int .i64 0)]) (c' := #[(Value.int .i64 0), (Value.int .i64 0)]) M 0 rfl rfl Try.el62.sized rfl rfl rfl rfl (Nat.le_of_ble_eq_true rfl) (cel_cons rfl (cel_cons rfl cel_nil)) rfl rfl (fun w10 M => ?_)
      refine WL.step (v := (Value.slice none 0 0)) rfl (Step.assign rfl) ?_
      refine WL.step (v := (Value.int .i64 2)) rfl (Step.assign rfl) ?_
      refine WL.nil ?_
      refine W.ret ?_
      refine ⟨.inl rfl, (Value.tuple #[(Value.slice none 0 0), (Value.agg #[(Value.int .i64 0), (Value.int .i64 0)]), (Value.slice none 0 0), (Value.int .i64 2)]), ?_, ?_⟩
      · exact ⟨rfl, (Res.r4 (show RV _ _ _ (.tmp 6) (Value.slice none 0 0) from by exact rfl) (RV.cellN Try.ag62 rfl (M.blk 0 rfl) rfl) (show RV _ _ _ (.tmp 8) (Value.slice none 0 0) from by exact rfl) (show RV _ _ _ (.tmp 9) (Value.int .i64 2) from by exact rfl))⟩
      refine ⟨?_, M.close [] rfl (by decide) trivial⟩
      rfl
    ·
      rw [h9]
      refine WL.step (v := (Value.int .i64 gap)) rfl (Step.move rfl) ?_
      refine WL.step (v := v) rfl (Step.move rfl) ?_
      refine WL.callX rfl (ref17_right gap v xs (by first | assumption | decide) (by first | assumption | (unfold in64; omega)) (M.enterW0 ⟨(M.wideR0 0 rfl), trivial⟩)) (CallsF.func Try.en41 rfl) ?_
      rintro _ w11 ⟨rfl, m⟩
      replace M := M.leaveW0 m
      clear m
      replace M : Mem _ _ _ [blk b3 (.cells #[(Value.int .i64 0), (Value.int .i64 0)] 62)] [SlAt 2 v xs.length (xs.flatMap spanE)] _ := M
      refine WL.step (v := (Value.bool (!(rightB gap xs)))) rfl (Step.pure (by kernel_rfl)) ?_
      refine WL.step (v := (Value.bool (!(rightB gap xs)))) rfl (Step.pick (t := false) rfl rfl) ?_
      refine WL.nil ?_
      refine W.cond (t := !(rightB gap xs)) rfl (fun h12 => ?_) (fun h12 => ?_)
      ·
        refine W.seq' ?_
        refine W.region rfl ?_
        refine WL.step (v := (Value.agg #[(Value.int .i64 0), (Value.int .i64 0)])) rfl (Step.pure (by kernel_rfl)) ?_
        refine WL.step (v := (Value.slice none 0 0)) rfl (Step.assign rfl) ?_
        refine WL.store (v := (Value.agg #[(Value.int .i64 0), (Value.int .i64 0)])) (cs := [(Value.int .i64 0), (Value.int .i64 0)]) (c' := #[(Value.int .i64 0), (Value.int .i64 0)]) M 0 rfl rfl Try.el62.sized rfl rfl rfl rfl (Nat.le_of_ble_eq_true rfl) (cel_cons rfl (cel_cons rfl cel_nil)) rfl rfl (fun w13 M => ?_)
        refine WL.step (v := (Value.slice none 0 0)) rfl (Step.assign rfl) ?_
        refine WL.step (v := (Value.int .i64 2)) rfl (Step.assign rfl) ?_
        refine WL.nil ?_
        refine W.ret ?_
        refine ⟨.inl rfl, (Value.tuple #[(Value.slice none 0 0), (Value.agg #[(Value.int .i64 0), (Value.int .i64 0)]), (Value.slice none 0 0), (Value.int .i64 2)]), ?_, ?_⟩
        · exact ⟨rfl, (Res.r4 (show RV _ _ _ (.tmp 6) (Value.slice none 0 0) from by exact rfl) (RV.cellN Try.ag62 rfl (M.blk 0 rfl) rfl) (show RV _ _ _ (.tmp 8) (Value.slice none 0 0) from by exact rfl) (show RV _ _ _ (.tmp 9) (Value.int .i64 2) from by exact rfl))⟩
        refine ⟨?_, M.close [] rfl (by decide) trivial⟩
        rfl
      ·
        exact (okI_no ho (by simpa using h12) (mayB_two (by simpa using h6) (by simpa using h9))).elim
end Go.Proofs
