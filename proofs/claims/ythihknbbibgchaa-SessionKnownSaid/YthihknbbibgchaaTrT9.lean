/- Walks. -/
import Derived.Test.YthihknbbibgchaaTrT8
import Derived.Test.YthihknbbibgchaaTrSesJ
set_option maxRecDepth 100000
set_option linter.all false
namespace Go.Proofs
open Go Tp


theorem law17_refs {G : Nat → Prop} {w : World} (v : Value) (l : List Span)  (hb : l.length ≤ 1000000) (M : Mem G (fun _ => False) w [] [SlAt 2 v l.length (l.flatMap spanE)] w) : Rets Try.prog 30 #[v] w fun r w' => ∃ (v' : Value), r = v' ∧ Mem G (fun _ => False) w [own 62 2 v' l.length (l.flatMap spanE)] [] w' := by
  refine Rets.enter 26 _ Try.func30 rfl Try.ntmps30 Try.results30 (by simp) ?_
  have hle1 := SlAt.le' (M.rep 0 rfl)
  have sl2 : IsSl v := SlAt.isSl (Mem.rep M 0 rfl)
  refine W.seq' ?_
  refine W.region rfl ?_
  refine WL.step (v := (Value.slice none 0 0)) rfl (Step.assign rfl) ?_
  refine WL.nil ?_
  refine W.seq' ?_
  refine W.region rfl ?_
  refine WL.step (v := (Value.slice none 0 0)) rfl (Step.assign rfl) ?_
  refine WL.nil ?_
  refine W.seq' ?_
  refine W.seq' ?_
  refine W.region rfl ?_
  refine WL.step (v := (Value.int .i64 0)) rfl (Step.assign rfl) ?_
  refine WL.nil ?_
  refine W.block ?_
  replace M := M.ownNil 62 2
  replace M := M.rechunk 0 (c' := own 62 2 (Value.slice none 0 0) ((l.take 0).length) ((l.take 0).flatMap spanE)) rfl rfl
  replace M : Mem _ _ _ [own 62 2 (Value.slice none 0 0) ((l.take 0).length) ((l.take 0).flatMap spanE)] [SlAt 2 v l.length (l.flatMap spanE)] _ := M
  refine W.loop (fun kk ρ w' => ∃ (i_ : Nat) (acci_ : Value), ((i_ ≤ l.length) ∧ kk = l.length - i_) ∧ ρ.has [(0, v), (2, (Value.slice none 0 0)), (3, acci_), (4, (Value.int .i64 ↑i_))] ∧ Mem G (fun _ => False) w [own 62 2 acci_ ((l.take i_).length) ((l.take i_).flatMap spanE)] [SlAt 2 v l.length (l.flatMap spanE)]  w') _ ⟨0, _, ⟨(Nat.zero_le _), rfl⟩, ⟨rfl, rfl, rfl, rfl, rfl, rfl⟩, M⟩ ?_
  rintro _ ρ4 w3 ⟨i_, acci_, ⟨hi5, rfl⟩, hρ, M⟩
  obtain ⟨ρ4, rfl⟩ := hρ.know
  clear hρ
  have sl6 : IsSl acci_ := SlAt.isSl (own_slAt (M.chunk 0 rfl).inv)
  have hacl : (l.take i_).length ≤ 1000000 := by rw [List.length_take]; omega
  refine W.seq' ?_
  refine W.seq' ?_
  refine W.region rfl ?_
  refine WL.step (v := (Value.int .i64 ↑i_)) rfl (Step.move rfl) ?_
  refine WL.step (v := v) rfl (Step.move rfl) ?_
  refine WL.step (v := (Value.int .i64 ↑l.length)) rfl (Step.lenSl Try.un58 rfl (M.rep 0 rfl)) ?_
  refine WL.step (v := (Value.bool (decide ((↑i_ : Int) < (↑l.length : Int))))) rfl (Step.pure (by kernel_rfl)) ?_
  refine WL.nil ?_
  refine W.cond (t := decide ((↑i_ : Int) < (↑l.length : Int))) rfl (fun h7 => ?_) (fun h7 => ?_)
  ·
    have h7p := of_decide_eq_true h7
    refine W.skip ?_
    refine W.seq' ?_
    refine W.block ?_
    obtain ⟨cap9, hb8⟩ := SlAt.base (M.rep 0 rfl) (by omega)
    obtain ⟨x10, hx10⟩ := elem_of_lt (xs := l) (i := i_) (by omega)
    refine W.drawn M [0, 1, 2, 3, 4, 5, 6, 7, 8, 9, 10, 11, 12, 13, 14] [13] [12] [] [SlAt 2 v l.length (l.flatMap spanE)] (List.Sublist.cons _ List.Sublist.slnil) (fun _ h => h) Try.mixed (by kernel_rfl) ?_
    refine TW.pure (v := acci_) rfl (by decide) (by decide) rfl (fun w => (Step.move rfl)) ?_
    refine TW.pure (v := v) rfl (by decide) (by decide) rfl (fun w => (Step.move rfl)) ?_
    refine TW.pure (v := (Value.int .i64 ↑i_)) rfl (by decide) (by decide) rfl (fun w => (Step.move rfl)) ?_
    refine TW.pure (v := (Value.pointer (some ⟨(sBlk v), sOff v + i_ * 2, none⟩))) rfl (by decide) (by decide) rfl (fun w => (Step.indexAddr (i := i_) (Try.un58).run Try.el65.sized rfl rfl (by omega) hb8 (by omega))) ?_
    refine TW.pure (v := (Value.pointer (some ⟨(sBlk v), sOff v + i_ * 2, none⟩))) rfl (by decide) (by decide) rfl (fun w => (Step.pure (by kernel_rfl))) ?_
    refine TW.read (v := (Value.int .i64 x10.start)) rfl (by decide) (by decide) rfl (fun A w M => (Step.loadE (k := 0) Try.sc2 (flat_ec (M.rep 0 rfl) hx10 spanE_len) (by decide) rfl rfl)) ?_
    refine TW.pure (v := v) rfl (by decide) (by decide) rfl (fun w => (Step.move rfl)) ?_
    refine TW.pure (v := (Value.int .i64 ↑i_)) rfl (by decide) (by decide) rfl (fun w => (Step.move rfl)) ?_
    refine TW.pure (v := (Value.pointer (some ⟨(sBlk v), sOff v + i_ * 2, none⟩))) rfl (by decide) (by decide) rfl (fun w => (Step.indexAddr (i := i_) (Try.un58).run Try.el65.sized rfl rfl (by omega) hb8 (by omega))) ?_
    refine TW.pure (v := (Value.pointer (some ⟨(sBlk v), sOff v + i_ * 2 + 1, none⟩))) rfl (by decide) (by decide) rfl (fun w => (Step.pure (by kernel_rfl))) ?_
    refine TW.read (v := (Value.int .i64 x10.fin)) rfl (by decide) (by decide) rfl (fun A w M => (Step.loadE (k := 1) Try.sc2 (flat_ec (M.rep 0 rfl) hx10 spanE_len) (by decide) rfl rfl)) ?_
    refine TW.pure (v := (Value.agg #[(Value.int .i64 x10.start), (Value.int .i64 x10.fin)])) rfl (by decide) (by decide) rfl (fun w => (Step.pure (by kernel_rfl))) ?_
    refine TW.new (obj := .cells #[(Value.int .i64 x10.start), (Value.int .i64 x10.fin)] 62) (fun b => .slice (some ⟨b, 0, none⟩) 1 1) rfl (by decide) (by decide) rfl (fun w => Step.make (by kernel_rfl)) (fun b19 => ?_)
    refine TW.doesM (fun v_ => own 62 2 v_ (((l.take i_) ++ ([x10] : List Span)).length) (((l.take i_) ++ ([x10] : List Span)).flatMap spanE)) 1 rfl rfl (by decide) rfl (fun v_ => (List.Sublist.cons _ (List.Sublist.cons _ List.Sublist.slnil))) (fun r h => h) (fun A w M => M.appendF' (l.take i_) ([x10] : List Span) (sv := (Value.slice (some ⟨b19, 0, none⟩) 1 1)) 2 Try.un59 Try.el62 rfl (by decide) rfl rfl rfl (SlAt.of_blk (M.blk 1 rfl) rfl (by decide)) spanE_cel (by have := hacl; simp only [maxLen, List.length_nil, List.length_cons, List.length_append]; omega) (by have := hacl; (try simp only [List.length_nil, List.length_cons, List.length_append]); omega)) (fun v20 hin => ?_)
    obtain ⟨_, _, hin⟩ := hin
    have sl22 : IsSl v20 := SlAt.isSl (own_slAt (Mem.chunk hin 2 rfl).inv)
    clear hin
    change TW _ _ _ _ _ _ _ _ (MemA _ _ _ [blk b19 (.cells #[(Value.int .i64 x10.start), (Value.int .i64 x10.fin)] 62), own 62 2 v20 (((l.take i_) ++ ([x10] : List Span)).length) (((l.take i_) ++ ([x10] : List Span)).flatMap spanE)] [SlAt 2 v l.length (l.flatMap spanE)])
    refine TW.pure (v := v20) rfl (by decide) (by decide) rfl (fun w => (Step.assign rfl)) ?_
    refine TW.done (fun w23 M => ?_)
    refine W.region rfl ?_
    refine WL.step (v := (Value.int .i64 ↑i_)) rfl (Step.move rfl) ?_
    refine WL.step (v := (Value.int .i64 (↑i_ + 1))) rfl (Step.add rfl rfl (wrap_i64 (by omega))) ?_
    refine WL.step (v := (Value.int .i64 (↑i_ + 1))) rfl (Step.assign rfl) ?_
    refine WL.nil ?_
    replace M := M.rechunk 1 (c' := own 62 2 v20 ((l.take (i_ + 1)).length) ((l.take (i_ + 1)).flatMap spanE)) rfl (by rw [← take_snoc hx10])
    replace M : Mem _ _ _ [blk b19 (.cells #[(Value.int .i64 x10.start), (Value.int .i64 x10.fin)] 62), own 62 2 v20 ((l.take (i_ + 1)).length) ((l.take (i_ + 1)).flatMap spanE)] [SlAt 2 v l.length (l.flatMap spanE)] _ := M
    replace M := M.sel (L' := [own 62 2 v20 ((l.take (i_ + 1)).length) ((l.take (i_ + 1)).flatMap spanE)]) [1] rfl (by decide)
    exact ⟨_, (by omega), i_ + 1, v20, ⟨(by omega), rfl⟩, ⟨rfl, rfl, rfl, rfl, rfl, rfl⟩, M⟩
  ·
    have h7p := of_decide_eq_false h7
    refine W.exit ?_
    refine thn_exit ?_
    refine thn_exit ?_
    refine inBlk_hit ?_
    refine W.seq' ?_
    refine W.region rfl ?_
    refine WL.step (v := acci_) rfl (Step.move rfl) ?_
    refine WL.step (v := acci_) rfl (Step.assign rfl) ?_
    refine WL.nil ?_
    refine W.ret ?_
    refine ⟨.inl rfl, acci_, ?_, ?_⟩
    · exact ⟨rfl, (Res.r1 (show RV _ _ _ (.tmp 2) acci_ from by exact rfl))⟩
    have e24 : l = l.take i_ := by
      rw [show i_ = l.length by omega, List.take_length]
    replace M := M.rechunk 0 (c' := own 62 2 acci_ l.length (l.flatMap spanE)) rfl (congrArg (fun z => own 62 2 acci_ z.length (z.flatMap spanE)) e24.symm)
    replace M : Mem _ _ _ [own 62 2 acci_ l.length (l.flatMap spanE)] [SlAt 2 v l.length (l.flatMap spanE)] _ := M
    refine ⟨acci_, ?_, M.close [0] rfl (by decide) trivial⟩
    rfl

theorem law17_same {G : Nat → Prop} {w : World} (v : Value) (xs : List Span) (u : Value) (ys : List Span)   (M : Mem G (fun _ => False) w [] [SlAt 2 v xs.length (xs.flatMap spanE), SlAt 2 u ys.length (ys.flatMap spanE)] w) : Rets Try.prog 33 #[v, u] w fun r w' => r = (Value.bool (decide (xs = ys))) ∧ Mem G (fun _ => False) w [] [] w' := by
  refine Rets.enter 41 _ Try.func33 rfl Try.ntmps33 Try.results33 (by simp) ?_
  have hle1 := SlAt.le' (M.rep 0 rfl)
  have hle2 := SlAt.le' (M.rep 1 rfl)
  have sl3 : IsSl v := SlAt.isSl (Mem.rep M 0 rfl)
  have sl4 : IsSl u := SlAt.isSl (Mem.rep M 1 rfl)
  refine W.seq' ?_
  refine W.region rfl ?_
  refine WL.step (v := (Value.bool false)) rfl (Step.assign rfl) ?_
  refine WL.nil ?_
  refine W.seq' ?_
  refine W.seq' ?_
  refine W.region rfl ?_
  refine WL.step (v := v) rfl (Step.move rfl) ?_
  refine WL.step (v := (Value.int .i64 ↑xs.length)) rfl (Step.lenSl Try.un58 rfl (M.rep 0 rfl)) ?_
  refine WL.step (v := u) rfl (Step.move rfl) ?_
  refine WL.step (v := (Value.int .i64 ↑ys.length)) rfl (Step.lenSl Try.un59 rfl (M.rep 1 rfl)) ?_
  refine WL.step (v := (Value.bool ((↑xs.length : Int) != (↑ys.length : Int)))) rfl (Step.pure (by kernel_rfl)) ?_
  refine WL.nil ?_
  refine W.cond (t := (↑xs.length : Int) != (↑ys.length : Int)) rfl (fun h5 => ?_) (fun h5 => ?_)
  ·
    have h5p : ¬ (↑xs.length : Int) = (↑ys.length : Int) := by simpa using h5
    refine W.seq' ?_
    refine W.region rfl ?_
    refine WL.step (v := (Value.bool false)) rfl (Step.assign rfl) ?_
    refine WL.nil ?_
    refine W.ret ?_
    refine ⟨.inl rfl, (Value.bool false), ?_, ?_⟩
    · exact ⟨rfl, (Res.r1 (show RV _ _ _ (.tmp 4) (Value.bool false) from by exact rfl))⟩
    refine ⟨?_, M.close [] rfl (by decide) trivial⟩
    refine congrArg Value.bool ?_
    exact eqL_len h5p
  ·
    have h5p : (↑xs.length : Int) = (↑ys.length : Int) := by simpa using h5
    refine W.skip ?_
    refine W.seq' ?_
    refine W.seq' ?_
    refine W.region rfl ?_
    refine WL.step (v := (Value.int .i64 0)) rfl (Step.assign rfl) ?_
    refine WL.nil ?_
    refine W.block ?_
    refine W.loop (fun kk ρ w' => ∃ (i_ : Nat), ((i_ ≤ xs.length) ∧ (xs.take i_ = ys.take i_) ∧ kk = xs.length - i_) ∧ ρ.has [(0, v), (1, u), (5, (Value.int .i64 ↑i_))] ∧ Mem G (fun _ => False) w [] [SlAt 2 v xs.length (xs.flatMap spanE), SlAt 2 u ys.length (ys.flatMap spanE)]  w') _ ⟨0, ⟨(Nat.zero_le _), rfl, rfl⟩, ⟨rfl, rfl, rfl, rfl, rfl⟩, M⟩ ?_
    rintro _ ρ7 w6 ⟨i_, ⟨hi8, hi9, rfl⟩, hρ, M⟩
    obtain ⟨ρ7, rfl⟩ := hρ.know
    clear hρ
    refine W.seq' ?_
    refine W.seq' ?_
    refine W.region rfl ?_
    refine WL.step (v := (Value.int .i64 ↑i_)) rfl (Step.move rfl) ?_
    refine WL.step (v := v) rfl (Step.move rfl) ?_
    refine WL.step (v := (Value.int .i64 ↑xs.length)) rfl (Step.lenSl Try.un58 rfl (M.rep 0 rfl)) ?_
    refine WL.step (v := (Value.bool (decide ((↑i_ : Int) < (↑xs.length : Int))))) rfl (Step.pure (by kernel_rfl)) ?_
    refine WL.nil ?_
    refine W.cond (t := decide ((↑i_ : Int) < (↑xs.length : Int))) rfl (fun h10 => ?_) (fun h10 => ?_)
    ·
      have h10p := of_decide_eq_true h10
      refine W.skip ?_
      refine W.seq' ?_
      refine W.block ?_
      refine W.seq' ?_
      obtain ⟨cap12, hb11⟩ := SlAt.base (M.rep 0 rfl) (by omega)
      obtain ⟨x13, hx13⟩ := elem_of_lt (xs := xs) (i := i_) (by omega)
      obtain ⟨cap15, hb14⟩ := SlAt.base (M.rep 1 rfl) (by omega)
      obtain ⟨x16, hx16⟩ := elem_of_lt (xs := ys) (i := i_) (by omega)
      rcases Bool.eq_false_or_eq_true ((x13.start : Int) != (x16.start : Int)) with h17 | h17
      ·
        have h17p : ¬ (x13.start : Int) = (x16.start : Int) := by simpa using h17
        refine W.drawn M [0, 1, 2, 3, 4, 5, 6, 7, 8, 9, 10, 11, 12, 13, 14, 15, 16, 17, 18, 19, 20, 21, 22, 23] [] [] [] [SlAt 2 v xs.length (xs.flatMap spanE), SlAt 2 u ys.length (ys.flatMap spanE)] List.Sublist.slnil (fun _ h => h) Try.mixed (by kernel_rfl) ?_
        refine TW.pure (v := v) rfl (by decide) (by decide) rfl (fun w => (Step.move rfl)) ?_
        refine TW.pure (v := (Value.int .i64 ↑i_)) rfl (by decide) (by decide) rfl (fun w => (Step.move rfl)) ?_
        refine TW.pure (v := (Value.pointer (some ⟨(sBlk v), sOff v + i_ * 2, none⟩))) rfl (by decide) (by decide) rfl (fun w => (Step.indexAddr (i := i_) (Try.un58).run Try.el65.sized rfl rfl (by omega) hb11 (by omega))) ?_
        refine TW.pure (v := (Value.pointer (some ⟨(sBlk v), sOff v + i_ * 2, none⟩))) rfl (by decide) (by decide) rfl (fun w => (Step.pure (by kernel_rfl))) ?_
        refine TW.read (v := (Value.int .i64 x13.start)) rfl (by decide) (by decide) rfl (fun A w M => (Step.loadE (k := 0) Try.sc2 (flat_ec (M.rep 0 rfl) hx13 spanE_len) (by decide) rfl rfl)) ?_
        refine TW.pure (v := u) rfl (by decide) (by decide) rfl (fun w => (Step.move rfl)) ?_
        refine TW.pure (v := (Value.int .i64 ↑i_)) rfl (by decide) (by decide) rfl (fun w => (Step.move rfl)) ?_
        refine TW.pure (v := (Value.pointer (some ⟨(sBlk u), sOff u + i_ * 2, none⟩))) rfl (by decide) (by decide) rfl (fun w => (Step.indexAddr (i := i_) (Try.un59).run Try.el62.sized rfl rfl (by omega) hb14 (by omega))) ?_
        refine TW.pure (v := (Value.pointer (some ⟨(sBlk u), sOff u + i_ * 2, none⟩))) rfl (by decide) (by decide) rfl (fun w => (Step.pure (by kernel_rfl))) ?_
        refine TW.read (v := (Value.int .i64 x16.start)) rfl (by decide) (by decide) rfl (fun A w M => (Step.loadE (k := 0) Try.sc2 (flat_ec (M.rep 1 rfl) hx16 spanE_len) (by decide) rfl rfl)) ?_
        refine TW.pure (v := (Value.bool true)) rfl (by decide) (by decide) rfl (fun w => (Step.cast (congrArg Value.bool h17) (Step.pure (by kernel_rfl)))) ?_
        refine TW.pure (v := (Value.bool true)) rfl (by decide) (by decide) rfl (fun w => (Step.move rfl)) ?_
        refine TW.skip rfl rfl ?_
        refine TW.skip rfl rfl ?_
        refine TW.skip rfl rfl ?_
        refine TW.skip rfl rfl ?_
        refine TW.skip rfl rfl ?_
        refine TW.skip rfl rfl ?_
        refine TW.skip rfl rfl ?_
        refine TW.skip rfl rfl ?_
        refine TW.skip rfl rfl ?_
        refine TW.skip rfl rfl ?_
        refine TW.skip rfl rfl ?_
        refine TW.pure (v := (Value.bool true)) rfl (by decide) (by decide) rfl (fun w => (Step.pick (t := true) rfl rfl)) ?_
        refine TW.done (fun w18 M => ?_)
        refine W.cond (t := true) rfl (fun _ => ?_) (fun h => by cases h)
        refine W.seq' ?_
        refine W.region rfl ?_
        refine WL.step (v := (Value.bool false)) rfl (Step.assign rfl) ?_
        refine WL.nil ?_
        refine W.ret ?_
        refine ⟨.inl rfl, (Value.bool false), ?_, ?_⟩
        · exact ⟨rfl, (Res.r1 (show RV _ _ _ (.tmp 4) (Value.bool false) from by exact rfl))⟩
        refine ⟨?_, M.close [] rfl (by decide) trivial⟩
        refine congrArg Value.bool ?_
        exact eqL_at hx13 hx16 (eqS_1 h17)
      ·
        have h17p : (x13.start : Int) = (x16.start : Int) := by simpa using h17
        refine W.drawn M [0, 1, 2, 3, 4, 5, 6, 7, 8, 9, 10, 11, 12, 13, 14, 15, 16, 17, 18, 19, 20, 21, 22, 23] [] [] [] [SlAt 2 v xs.length (xs.flatMap spanE), SlAt 2 u ys.length (ys.flatMap spanE)] List.Sublist.slnil (fun _ h => h) Try.mixed (by kernel_rfl) ?_
        refine TW.pure (v := v) rfl (by decide) (by decide) rfl (fun w => (Step.move rfl)) ?_
        refine TW.pure (v := (Value.int .i64 ↑i_)) rfl (by decide) (by decide) rfl (fun w => (Step.move rfl)) ?_
        refine TW.pure (v := (Value.pointer (some ⟨(sBlk v), sOff v + i_ * 2, none⟩))) rfl (by decide) (by decide) rfl (fun w => (Step.indexAddr (i := i_) (Try.un58).run Try.el65.sized rfl rfl (by omega) hb11 (by omega))) ?_
        refine TW.pure (v := (Value.pointer (some ⟨(sBlk v), sOff v + i_ * 2, none⟩))) rfl (by decide) (by decide) rfl (fun w => (Step.pure (by kernel_rfl))) ?_
        refine TW.read (v := (Value.int .i64 x13.start)) rfl (by decide) (by decide) rfl (fun A w M => (Step.loadE (k := 0) Try.sc2 (flat_ec (M.rep 0 rfl) hx13 spanE_len) (by decide) rfl rfl)) ?_
        refine TW.pure (v := u) rfl (by decide) (by decide) rfl (fun w => (Step.move rfl)) ?_
        refine TW.pure (v := (Value.int .i64 ↑i_)) rfl (by decide) (by decide) rfl (fun w => (Step.move rfl)) ?_
        refine TW.pure (v := (Value.pointer (some ⟨(sBlk u), sOff u + i_ * 2, none⟩))) rfl (by decide) (by decide) rfl (fun w => (Step.indexAddr (i := i_) (Try.un59).run Try.el62.sized rfl rfl (by omega) hb14 (by omega))) ?_
        refine TW.pure (v := (Value.pointer (some ⟨(sBlk u), sOff u + i_ * 2, none⟩))) rfl (by decide) (by decide) rfl (fun w => (Step.pure (by kernel_rfl))) ?_
        refine TW.read (v := (Value.int .i64 x16.start)) rfl (by decide) (by decide) rfl (fun A w M => (Step.loadE (k := 0) Try.sc2 (flat_ec (M.rep 1 rfl) hx16 spanE_len) (by decide) rfl rfl)) ?_
        refine TW.pure (v := (Value.bool false)) rfl (by decide) (by decide) rfl (fun w => (Step.cast (congrArg Value.bool h17) (Step.pure (by kernel_rfl)))) ?_
        refine TW.pure (v := (Value.bool false)) rfl (by decide) (by decide) rfl (fun w => (Step.move rfl)) ?_
        refine TW.pure (v := v) rfl (by decide) (by decide) rfl (fun w => (Step.move rfl)) ?_
        refine TW.pure (v := (Value.int .i64 ↑i_)) rfl (by decide) (by decide) rfl (fun w => (Step.move rfl)) ?_
        refine TW.pure (v := (Value.pointer (some ⟨(sBlk v), sOff v + i_ * 2, none⟩))) rfl (by decide) (by decide) rfl (fun w => (Step.indexAddr (i := i_) (Try.un58).run Try.el65.sized rfl rfl (by omega) hb11 (by omega))) ?_
        refine TW.pure (v := (Value.pointer (some ⟨(sBlk v), sOff v + i_ * 2 + 1, none⟩))) rfl (by decide) (by decide) rfl (fun w => (Step.pure (by kernel_rfl))) ?_
        refine TW.read (v := (Value.int .i64 x13.fin)) rfl (by decide) (by decide) rfl (fun A w M => (Step.loadE (k := 1) Try.sc2 (flat_ec (M.rep 0 rfl) hx13 spanE_len) (by decide) rfl rfl)) ?_
        refine TW.pure (v := u) rfl (by decide) (by decide) rfl (fun w => (Step.move rfl)) ?_
        refine TW.pure (v := (Value.int .i64 ↑i_)) rfl (by decide) (by decide) rfl (fun w => (Step.move rfl)) ?_
        refine TW.pure (v := (Value.pointer (some ⟨(sBlk u), sOff u + i_ * 2, none⟩))) rfl (by decide) (by decide) rfl (fun w => (Step.indexAddr (i := i_) (Try.un59).run Try.el62.sized rfl rfl (by omega) hb14 (by omega))) ?_
        refine TW.pure (v := (Value.pointer (some ⟨(sBlk u), sOff u + i_ * 2 + 1, none⟩))) rfl (by decide) (by decide) rfl (fun w => (Step.pure (by kernel_rfl))) ?_
        refine TW.read (v := (Value.int .i64 x16.fin)) rfl (by decide) (by decide) rfl (fun A w M => (Step.loadE (k := 1) Try.sc2 (flat_ec (M.rep 1 rfl) hx16 spanE_len) (by decide) rfl rfl)) ?_
        refine TW.pure (v := (Value.bool ((x13.fin : Int) != (x16.fin : Int)))) rfl (by decide) (by decide) rfl (fun w => (Step.pure (by kernel_rfl))) ?_
        refine TW.pure (v := (Value.bool ((x13.fin : Int) != (x16.fin : Int)))) rfl (by decide) (by decide) rfl (fun w => (Step.pick (t := false) rfl rfl)) ?_
        refine TW.done (fun w19 M => ?_)
        refine W.cond (t := (x13.fin : Int) != (x16.fin : Int)) rfl (fun h20 => ?_) (fun h20 => ?_)
        ·
          have h20p : ¬ (x13.fin : Int) = (x16.fin : Int) := by simpa using h20
          refine W.seq' ?_
          refine W.region rfl ?_
          refine WL.step (v := (Value.bool false)) rfl (Step.assign rfl) ?_
          refine WL.nil ?_
          refine W.ret ?_
          refine ⟨.inl rfl, (Value.bool false), ?_, ?_⟩
          · exact ⟨rfl, (Res.r1 (show RV _ _ _ (.tmp 4) (Value.bool false) from by exact rfl))⟩
          refine ⟨?_, M.close [] rfl (by decide) trivial⟩
          refine congrArg Value.bool ?_
          exact eqL_at hx13 hx16 (eqS_2 h20)
        ·
          have h20p : (x13.fin : Int) = (x16.fin : Int) := by simpa using h20
          refine W.skip ?_
          refine W.region rfl ?_
          refine WL.step (v := (Value.int .i64 ↑i_)) rfl (Step.move rfl) ?_
          refine WL.step (v := (Value.int .i64 (↑i_ + 1))) rfl (Step.add rfl rfl (wrap_i64 (by omega))) ?_
          refine WL.step (v := (Value.int .i64 (↑i_ + 1))) rfl (Step.assign rfl) ?_
          refine WL.nil ?_
          exact ⟨_, (by omega), i_ + 1, ⟨(by omega), (eqL_step hi9 hx13 hx16 (eqS_f h17 h20)), rfl⟩, ⟨rfl, rfl, rfl, rfl, rfl⟩, M⟩
    ·
      have h10p := of_decide_eq_false h10
      refine W.exit ?_
      refine thn_exit ?_
      refine thn_exit ?_
      refine inBlk_hit ?_
      refine W.seq' ?_
      refine W.region rfl ?_
      refine WL.step (v := (Value.bool true)) rfl (Step.assign rfl) ?_
      refine WL.nil ?_
      refine W.ret ?_
      refine ⟨.inl rfl, (Value.bool true), ?_, ?_⟩
      · exact ⟨rfl, (Res.r1 (show RV _ _ _ (.tmp 4) (Value.bool true) from by exact rfl))⟩
      refine ⟨?_, M.close [] rfl (by decide) trivial⟩
      refine congrArg Value.bool ?_
      exact eqL_all hi9 (by omega) h5p
end Go.Proofs
