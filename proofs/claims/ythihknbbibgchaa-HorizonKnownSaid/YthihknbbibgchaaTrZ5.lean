/- Walks. -/
import Derived.Test.YthihknbbibgchaaTrZ4
import Derived.Test.YthihknbbibgchaaTrSort
set_option maxRecDepth 100000
set_option linter.all false
namespace Go.Proofs
open Go Tp
theorem Try.un28 : Und Try.prog 28 (.slice 90) := by unfold Und; kernel_rfl
theorem Try.ag30 : Aggr Try.prog 30 2 := ⟨fun _ => by kernel_rfl, fun _ => by kernel_rfl⟩
theorem Try.ag90 : Aggr Try.prog 90 3 := ⟨fun _ => by kernel_rfl, fun _ => by kernel_rfl⟩
theorem Try.el30 : Elem Try.prog 30 (Value.agg #[(Value.slice none 0 0), (Value.int .u64 0)]) 2 32 := Elem.mk (by kernel_rfl)
theorem Try.el90 : Elem Try.prog 90 (Value.agg #[(Value.int .u8 0), (Value.int .u64 0), (Value.int .u64 0)]) 3 24 := Elem.mk (by kernel_rfl)
theorem Try.en19 : Enters Try.prog 19 := fun _ _ => by kernel_rfl
theorem Try.en53 : Enters Try.prog 53 := fun _ _ => by kernel_rfl
theorem Try.sc28 : Scal Try.prog 28 := fun _ => by kernel_rfl

theorem ref23_find {G : Nat → Prop} {w : World} (v : Value) (l : List PinH) (s : Int) (i : Int)   (M : Mem G (fun _ => False) w [] [SlAt 3 v l.length (l.flatMap pinE)] w) : Rets Try.prog 53 #[v, (Value.int .u8 s), (Value.int .u64 i)] w fun r w' => r = (Value.int .i64 (ixF (isP s i) l)) ∧ Mem G (fun _ => False) w [] [] w' := by
  refine Rets.enter 31 _ Try.func53 rfl Try.ntmps53 Try.results53 (by simp) ?_
  have hle1 := SlAt.le' (M.rep 0 rfl)
  have sl2 : IsSl v := SlAt.isSl (Mem.rep M 0 rfl)
  refine W.seq' ?_
  refine W.region rfl ?_
  refine WL.step (v := (Value.int .i64 0)) rfl (Step.assign rfl) ?_
  refine WL.nil ?_
  refine W.seq' ?_
  refine W.seq' ?_
  refine W.region rfl ?_
  refine WL.step (v := (Value.int .i64 0)) rfl (Step.assign rfl) ?_
  refine WL.nil ?_
  refine W.block ?_
  refine W.loop (fun kk ρ w' => ∃ (i_ : Nat), ((i_ ≤ l.length) ∧ (∀ j u, j < i_ → l[j]? = some u → (isP s i) u = false) ∧ kk = l.length - i_) ∧ ρ.has [(0, v), (1, (Value.int .u8 s)), (2, (Value.int .u64 i)), (7, (Value.int .i64 ↑i_))] ∧ Mem G (fun _ => False) w [] [SlAt 3 v l.length (l.flatMap pinE)]  w') _ ⟨0, ⟨(Nat.zero_le _), (fun _ _ h => absurd h (Nat.not_lt_zero _)), rfl⟩, ⟨rfl, rfl, rfl, rfl, rfl, rfl⟩, M⟩ ?_
  rintro _ ρ4 w3 ⟨i_, ⟨hi5, hi6, rfl⟩, hρ, M⟩
  obtain ⟨ρ4, rfl⟩ := hρ.know
  clear hρ
  refine W.seq' ?_
  refine W.seq' ?_
  refine W.region rfl ?_
  refine WL.step (v := (Value.int .i64 ↑i_)) rfl (Step.move rfl) ?_
  refine WL.step (v := v) rfl (Step.move rfl) ?_
  refine WL.step (v := (Value.int .i64 ↑l.length)) rfl (Step.lenSl Try.un28 rfl (M.rep 0 rfl)) ?_
  refine WL.step (v := (Value.bool (decide ((↑i_ : Int) < (↑l.length : Int))))) rfl (Step.pure (by kernel_rfl)) ?_
  refine WL.nil ?_
  refine W.cond (t := decide ((↑i_ : Int) < (↑l.length : Int))) rfl (fun h7 => ?_) (fun h7 => ?_)
  ·
    have h7p := of_decide_eq_true h7
    refine W.skip ?_
    refine W.seq' ?_
    refine W.block ?_
    refine W.seq' ?_
    refine W.region rfl ?_
    refine WL.step (v := v) rfl (Step.move rfl) ?_
    refine WL.step (v := (Value.int .i64 ↑i_)) rfl (Step.move rfl) ?_
    obtain ⟨cap9, hb8⟩ := SlAt.base (M.rep 0 rfl) (by omega)
    obtain ⟨x10, hx10⟩ := elem_of_lt (xs := l) (i := i_) (by omega)
    refine WL.step (v := (Value.pointer (some ⟨(sBlk v), sOff v + i_ * 3, none⟩))) rfl (Step.indexAddr (i := i_) (Try.un28).run Try.el90.sized rfl rfl (by omega) hb8 (by omega)) ?_
    refine WL.step (v := (Value.pointer (some ⟨(sBlk v), sOff v + i_ * 3, none⟩))) rfl (Step.pure (by kernel_rfl)) ?_
    refine WL.step (v := (Value.int .u8 x10.sort)) rfl (Step.loadE (k := 0) Try.sc5 (flat_ec (M.rep 0 rfl) hx10 pinE_len) (by decide) rfl rfl) ?_
    refine WL.step (v := (Value.int .u8 s)) rfl (Step.move rfl) ?_
    refine WL.step (v := (Value.bool ((x10.sort : Int) == (s : Int)))) rfl (Step.pure (by kernel_rfl)) ?_
    refine WL.step (v := (Value.bool ((x10.sort : Int) == (s : Int)))) rfl (Step.move rfl) ?_
    rcases Bool.eq_false_or_eq_true ((x10.sort : Int) == (s : Int)) with h11 | h11
    ·
      have h11p : (x10.sort : Int) = (s : Int) := by simpa using h11
      rw [h11]
      refine WL.step (v := v) rfl (Step.move rfl) ?_
      refine WL.step (v := (Value.int .i64 ↑i_)) rfl (Step.move rfl) ?_
      refine WL.step (v := (Value.pointer (some ⟨(sBlk v), sOff v + i_ * 3, none⟩))) rfl (Step.indexAddr (i := i_) (Try.un28).run Try.el90.sized rfl rfl (by omega) hb8 (by omega)) ?_
      refine WL.step (v := (Value.pointer (some ⟨(sBlk v), sOff v + i_ * 3 + 1, none⟩))) rfl (Step.pure (by kernel_rfl)) ?_
      refine WL.step (v := (Value.int .u64 x10.id)) rfl (Step.loadE (k := 1) Try.sc23 (flat_ec (M.rep 0 rfl) hx10 pinE_len) (by decide) rfl rfl) ?_
      refine WL.step (v := (Value.int .u64 i)) rfl (Step.move rfl) ?_
      refine WL.step (v := (Value.bool ((x10.id : Int) == (i : Int)))) rfl (Step.pure (by kernel_rfl)) ?_
      refine WL.step (v := (Value.bool ((x10.id : Int) == (i : Int)))) rfl (Step.pick (t := true) rfl rfl) ?_
      refine WL.nil ?_
      refine W.cond (t := (x10.id : Int) == (i : Int)) rfl (fun h12 => ?_) (fun h12 => ?_)
      ·
        have h12p : (x10.id : Int) = (i : Int) := by simpa using h12
        refine W.seq' ?_
        refine W.region rfl ?_
        refine WL.step (v := (Value.int .i64 ↑i_)) rfl (Step.move rfl) ?_
        refine WL.step (v := (Value.int .i64 ↑i_)) rfl (Step.assign rfl) ?_
        refine WL.nil ?_
        refine W.ret ?_
        refine ⟨.inl rfl, (Value.int .i64 ↑i_), ?_, ?_⟩
        · exact ⟨rfl, (Res.r1 (show RV _ _ _ (.tmp 6) (Value.int .i64 ↑i_) from by exact rfl))⟩
        refine ⟨?_, M.close [] rfl (by decide) trivial⟩
        refine congrArg (Value.int .i64) ?_
        exact (ixF_some (findIdx_hit hx10 (isP_iff.2 ⟨by omega, by omega⟩) hi6)).1.symm
      ·
        have h12p : ¬ (x10.id : Int) = (i : Int) := by simpa using h12
        refine W.skip ?_
        refine W.region rfl ?_
        refine WL.step (v := (Value.int .i64 ↑i_)) rfl (Step.move rfl) ?_
        refine WL.step (v := (Value.int .i64 (↑i_ + 1))) rfl (Step.add rfl rfl (wrap_i64 (by omega))) ?_
        refine WL.step (v := (Value.int .i64 (↑i_ + 1))) rfl (Step.assign rfl) ?_
        refine WL.nil ?_
        exact ⟨_, (by omega), i_ + 1, ⟨(by omega), (below_stepG hi6 hx10 (by rw [← Bool.not_eq_true, isP_iff]; omega)), rfl⟩, ⟨rfl, rfl, rfl, rfl, rfl, rfl⟩, M⟩
    ·
      have h11p : ¬ (x10.sort : Int) = (s : Int) := by simpa using h11
      rw [h11]
      refine WL.pass rfl ?_
      refine WL.pass rfl ?_
      refine WL.pass rfl ?_
      refine WL.pass rfl ?_
      refine WL.pass rfl ?_
      refine WL.pass rfl ?_
      refine WL.pass rfl ?_
      refine WL.step (v := (Value.bool false)) rfl (Step.pick (t := false) rfl rfl) ?_
      refine WL.nil ?_
      refine W.cond (t := false) rfl (fun h => by cases h) (fun _ => ?_)
      refine W.skip ?_
      refine W.region rfl ?_
      refine WL.step (v := (Value.int .i64 ↑i_)) rfl (Step.move rfl) ?_
      refine WL.step (v := (Value.int .i64 (↑i_ + 1))) rfl (Step.add rfl rfl (wrap_i64 (by omega))) ?_
      refine WL.step (v := (Value.int .i64 (↑i_ + 1))) rfl (Step.assign rfl) ?_
      refine WL.nil ?_
      exact ⟨_, (by omega), i_ + 1, ⟨(by omega), (below_stepG hi6 hx10 (by rw [← Bool.not_eq_true, isP_iff]; omega)), rfl⟩, ⟨rfl, rfl, rfl, rfl, rfl, rfl⟩, M⟩
  ·
    have h7p := of_decide_eq_false h7
    refine W.exit ?_
    refine thn_exit ?_
    refine thn_exit ?_
    refine inBlk_hit ?_
    refine W.seq' ?_
    refine W.region rfl ?_
    refine WL.step (v := (Value.int .i64 (-1))) rfl (Step.assign rfl) ?_
    refine WL.nil ?_
    refine W.ret ?_
    refine ⟨.inl rfl, (Value.int .i64 (-1)), ?_, ?_⟩
    · exact ⟨rfl, (Res.r1 (show RV _ _ _ (.tmp 6) (Value.int .i64 (-1)) from by exact rfl))⟩
    refine ⟨?_, M.close [] rfl (by decide) trivial⟩
    refine congrArg (Value.int .i64) ?_
    exact (ixF_none (findIdx_none hi6 (by omega))).1.symm

theorem ref23_put {G : Nat → Prop} {w : World} (v : Value) (l : List PinH) (p : PinH)  (hbd : l.length ≤ 900000) (M : Mem G (fun _ => False) w [] [SlAt 3 v l.length (l.flatMap pinE)] w) : Rets Try.prog 71 #[v, (Value.agg #[(Value.int .u8 p.sort), (Value.int .u64 p.id), (Value.int .u64 p.epoch)])] w fun r w' => ∃ (v' : Value), r = v' ∧ Mem G (fun _ => False) w [own 90 3 v' ((putV l p).length) ((putV l p).flatMap pinE)] [] w' := by
  refine Rets.enter 80 _ Try.func71 rfl Try.ntmps71 Try.results71 (by simp) ?_
  have hle1 := SlAt.le' (M.rep 0 rfl)
  have sl2 : IsSl v := SlAt.isSl (Mem.rep M 0 rfl)
  have hlp_ : (l ++ ([p] : List PinH)).length = l.length + 1 := by simp
  refine W.seq' ?_
  refine W.region rfl ?_
  refine WL.box (v := (Value.agg #[(Value.int .u8 p.sort), (Value.int .u64 p.id), (Value.int .u64 p.epoch)])) (c := #[(Value.int .u8 p.sort), (Value.int .u64 p.id), (Value.int .u64 p.epoch)]) M rfl rfl rfl (fun b3 w4 hb3 M => ?_)
  refine WL.step (v := (Value.slice none 0 0)) rfl (Step.assign rfl) ?_
  refine WL.nil ?_
  refine W.seq' ?_
  refine W.region rfl ?_
  refine WL.step (v := (Value.slice none 0 0)) rfl (Step.assign rfl) ?_
  refine WL.nil ?_
  refine W.seq' ?_
  refine W.region rfl ?_
  refine WL.step (v := (Value.slice none 0 0)) rfl (Step.move rfl) ?_
  refine WL.step (v := v) rfl (Step.move rfl) ?_
  replace M := M.ownNil 90 3
  replace M : Mem _ _ _ [own 90 3 (Value.slice none 0 0) (([] : List PinH).length) (([] : List PinH).flatMap pinE), blk b3 (.cells #[(Value.int .u8 p.sort), (Value.int .u64 p.id), (Value.int .u64 p.epoch)] 90)] [SlAt 3 v l.length (l.flatMap pinE)] _ := M
  refine WL.does rfl (M.appendF ([] : List PinH) l (sv := v) 0 Try.un28 Try.el90 rfl (by decide) rfl rfl rfl (M.rep 0 rfl) pinE_cel (by have := hbd; simp only [maxLen, List.length_nil, List.length_cons, List.length_append]; omega) (by have := hbd; (try simp only [List.length_nil, List.length_cons, List.length_append]); omega)) ?_
  rintro v5 w6 M
  replace M : Mem _ _ _ [own 90 3 v5 l.length (l.flatMap pinE), blk b3 (.cells #[(Value.int .u8 p.sort), (Value.int .u64 p.id), (Value.int .u64 p.epoch)] 90)] [SlAt 3 v l.length (l.flatMap pinE)] _ := M
  have sl7 : IsSl v5 := SlAt.isSl (own_slAt (M.chunk 0 rfl).inv)
  refine WL.step (v := v5) rfl (Step.assign rfl) ?_
  refine WL.nil ?_
  refine W.seq' ?_
  refine W.region rfl ?_
  refine WL.step (v := v5) rfl (Step.move rfl) ?_
  refine WL.step (v := (Value.agg #[(Value.int .u8 p.sort), (Value.int .u64 p.id), (Value.int .u64 p.epoch)])) rfl (Step.loadN Try.ag90 rfl (M.blk 1 rfl) (Nat.le_of_ble_eq_true rfl) rfl) ?_
  refine WL.new (obj := .cells #[(Value.int .u8 p.sort), (Value.int .u64 p.id), (Value.int .u64 p.epoch)] 90) (fun b => .slice (some ⟨b, 0, none⟩) 1 1) M rfl (fun w => Step.make (by kernel_rfl)) (fun b8 w9 hb8 M => ?_)
  refine WL.does rfl (M.appendF l ([p] : List PinH) (sv := (Value.slice (some ⟨b8, 0, none⟩) 1 1)) 1 Try.un28 Try.el90 rfl (by decide) rfl rfl rfl (SlAt.of_blk (M.blk 0 rfl) rfl (by decide)) pinE_cel (by have := hbd; simp only [maxLen, List.length_nil, List.length_cons, List.length_append]; omega) (by have := hbd; (try simp only [List.length_nil, List.length_cons, List.length_append]); omega)) ?_
  rintro v10 w11 M
  replace M : Mem _ _ _ [blk b8 (.cells #[(Value.int .u8 p.sort), (Value.int .u64 p.id), (Value.int .u64 p.epoch)] 90), own 90 3 v10 ((l ++ ([p] : List PinH)).length) ((l ++ ([p] : List PinH)).flatMap pinE), blk b3 (.cells #[(Value.int .u8 p.sort), (Value.int .u64 p.id), (Value.int .u64 p.epoch)] 90)] [SlAt 3 v l.length (l.flatMap pinE)] _ := M
  have sl12 : IsSl v10 := SlAt.isSl (own_slAt (M.chunk 1 rfl).inv)
  refine WL.step (v := v10) rfl (Step.assign rfl) ?_
  refine WL.nil ?_
  refine W.seq' ?_
  refine W.seq' ?_
  refine W.region rfl ?_
  refine WL.step (v := v10) rfl (Step.move rfl) ?_
  refine WL.step (v := (Value.int .i64 (↑((l ++ ([p] : List PinH)).length)))) rfl (Step.lenSl Try.un28 rfl (own_slAt (M.chunk 1 rfl).inv)) ?_
  refine WL.step (v := (Value.int .i64 ↑l.length)) rfl (Step.cast (congrArg (Value.int .i64) (show ((↑((l ++ ([p] : List PinH)).length) : Int) - 1 : Int) = ↑l.length by simp)) (Step.sub rfl rfl (wrap_i64 (by omega)))) ?_
  refine WL.step (v := (Value.int .i64 ↑l.length)) rfl (Step.assign rfl) ?_
  refine WL.nil ?_
  refine W.block ?_
  replace M := M.sel (L' := [own 90 3 v10 ((l ++ ([p] : List PinH)).length) ((l ++ ([p] : List PinH)).flatMap pinE), blk b8 (.cells #[(Value.int .u8 p.sort), (Value.int .u64 p.id), (Value.int .u64 p.epoch)] 90), blk b3 (.cells #[(Value.int .u8 p.sort), (Value.int .u64 p.id), (Value.int .u64 p.epoch)] 90)]) [1, 0, 2] rfl (by decide)
  replace M : Mem _ _ _ [own 90 3 v10 ((l ++ ([p] : List PinH)).length) ((l ++ ([p] : List PinH)).flatMap pinE), blk b8 (.cells #[(Value.int .u8 p.sort), (Value.int .u64 p.id), (Value.int .u64 p.epoch)] 90), blk b3 (.cells #[(Value.int .u8 p.sort), (Value.int .u64 p.id), (Value.int .u64 p.epoch)] 90)] [SlAt 3 v l.length (l.flatMap pinE)] _ := M
  refine W.loop (fun kk ρ w' => ∃ (k_ : Nat) (ys_ : List PinH), ((k_ ≤ l.length) ∧ (ys_.length = l.length + 1) ∧ (bub cmpPin ys_ k_ = putV l p) ∧ kk = k_ + 1) ∧ ρ.has [(4, (Value.slice none 0 0)), (5, v10), (6, (Value.int .i64 ↑k_))] ∧ Mem G (fun _ => False) w [own 90 3 v10 ys_.length (ys_.flatMap pinE), blk b8 (.cells #[(Value.int .u8 p.sort), (Value.int .u64 p.id), (Value.int .u64 p.epoch)] 90), blk b3 (.cells #[(Value.int .u8 p.sort), (Value.int .u64 p.id), (Value.int .u64 p.epoch)] 90)] [SlAt 3 v l.length (l.flatMap pinE)]  w') _ ⟨l.length, l ++ ([p] : List PinH), ⟨(Nat.le_refl _), (by simp), rfl, rfl⟩, ⟨rfl, rfl, rfl, rfl, rfl⟩, M⟩ ?_
  rintro _ ρ14 w13 ⟨k_, ys_, ⟨hi15, hi16, hi17, rfl⟩, hρ, M⟩
  obtain ⟨ρ14, rfl⟩ := hρ.know
  clear hρ
  refine W.seq' ?_
  refine W.seq' ?_
  rcases Bool.eq_false_or_eq_true (decide ((↑k_ : Int) > (0 : Int))) with h18 | h18
  ·
    have h18p := of_decide_eq_true h18
    obtain ⟨cap20, hb19⟩ := SlAt.base (own_slAt (M.chunk 0 rfl).inv) (by omega)
    obtain ⟨x21, hx21⟩ := elem_of_lt (xs := ys_) (i := k_ - 1) (by omega)
    obtain ⟨x22, hx22⟩ := elem_of_lt (xs := ys_) (i := k_) (by omega)
    rcases Bool.eq_false_or_eq_true (decide ((x21.sort : Int) > (x22.sort : Int))) with h23 | h23
    ·
      have h23p := of_decide_eq_true h23
      refine W.drawn M [0, 1, 2, 3, 4, 5, 6, 7, 8, 9, 10, 11, 12, 13, 14, 15, 16, 17, 18, 19, 20, 21, 22, 23, 24, 25, 26, 27, 28, 29, 30, 31, 32, 33, 34, 35, 36, 37, 38, 39, 40, 41, 42, 43] [] [] [own 90 3 v10 ys_.length (ys_.flatMap pinE), blk b8 (.cells #[(Value.int .u8 p.sort), (Value.int .u64 p.id), (Value.int .u64 p.epoch)] 90), blk b3 (.cells #[(Value.int .u8 p.sort), (Value.int .u64 p.id), (Value.int .u64 p.epoch)] 90)] [SlAt 3 v l.length (l.flatMap pinE)] (List.Sublist.cons_cons _ (List.Sublist.cons_cons _ (List.Sublist.cons_cons _ List.Sublist.slnil))) (fun _ h => h) Try.mixed (by kernel_rfl) ?_
      refine TW.pure (v := (Value.int .i64 ↑k_)) rfl (by decide) (by decide) rfl (fun w => (Step.move rfl)) ?_
      refine TW.pure (v := (Value.bool true)) rfl (by decide) (by decide) rfl (fun w => (Step.cast (congrArg Value.bool h18) (Step.pure (by kernel_rfl)))) ?_
      refine TW.pure (v := (Value.bool true)) rfl (by decide) (by decide) rfl (fun w => (Step.move rfl)) ?_
      refine TW.pure (v := v10) rfl (by decide) (by decide) rfl (fun w => (Step.move rfl)) ?_
      refine TW.pure (v := (Value.int .i64 ↑k_)) rfl (by decide) (by decide) rfl (fun w => (Step.move rfl)) ?_
      refine TW.pure (v := (Value.int .i64 (↑(k_ - 1)))) rfl (by decide) (by decide) rfl (fun w => (Step.cast (congrArg (Value.int .i64) (show (↑k_ : Int) - 1 = ↑(k_ - 1) by omega)) (Step.sub rfl rfl (wrap_i64 (by omega))))) ?_
      refine TW.pure (v := (Value.pointer (some ⟨(sBlk v10), sOff v10 + (k_ - 1) * 3, none⟩))) rfl (by decide) (by decide) rfl (fun w => (Step.indexAddr (i := k_ - 1) (Try.un28).run Try.el90.sized rfl rfl (by omega) hb19 (by omega))) ?_
      refine TW.pure (v := (Value.pointer (some ⟨(sBlk v10), sOff v10 + (k_ - 1) * 3, none⟩))) rfl (by decide) (by decide) rfl (fun w => (Step.pure (by kernel_rfl))) ?_
      refine TW.read (v := (Value.int .u8 x21.sort)) rfl (by decide) (by decide) rfl (fun A w M => (Step.loadE (k := 0) Try.sc5 (flat_ec (own_slAt (M.chunk 1 rfl).inv) hx21 pinE_len) (by decide) rfl rfl)) ?_
      refine TW.pure (v := v10) rfl (by decide) (by decide) rfl (fun w => (Step.move rfl)) ?_
      refine TW.pure (v := (Value.int .i64 ↑k_)) rfl (by decide) (by decide) rfl (fun w => (Step.move rfl)) ?_
      refine TW.pure (v := (Value.pointer (some ⟨(sBlk v10), sOff v10 + k_ * 3, none⟩))) rfl (by decide) (by decide) rfl (fun w => (Step.indexAddr (i := k_) (Try.un28).run Try.el90.sized rfl rfl (by omega) hb19 (by omega))) ?_
      refine TW.pure (v := (Value.pointer (some ⟨(sBlk v10), sOff v10 + k_ * 3, none⟩))) rfl (by decide) (by decide) rfl (fun w => (Step.pure (by kernel_rfl))) ?_
      refine TW.read (v := (Value.int .u8 x22.sort)) rfl (by decide) (by decide) rfl (fun A w M => (Step.loadE (k := 0) Try.sc5 (flat_ec (own_slAt (M.chunk 1 rfl).inv) hx22 pinE_len) (by decide) rfl rfl)) ?_
      refine TW.pure (v := (Value.bool true)) rfl (by decide) (by decide) rfl (fun w => (Step.cast (congrArg Value.bool h23) (Step.pure (by kernel_rfl)))) ?_
      refine TW.pure (v := (Value.bool true)) rfl (by decide) (by decide) rfl (fun w => (Step.move rfl)) ?_
      refine TW.skip rfl rfl ?_
      refine TW.skip rfl rfl ?_
      refine TW.skip rfl rfl ?_
      refine TW.skip rfl rfl ?_
      refine TW.skip rfl rfl ?_
      refine TW.skip rfl rfl ?_
      refine TW.skip rfl rfl ?_
      refine TW.skip rfl rfl ?_
      refine TW.skip rfl rfl ?_
      refine TW.skip rfl rfl ?_
      refine TW.skip rfl rfl ?_
      refine TW.skip rfl rfl ?_
      refine TW.skip rfl rfl ?_
      refine TW.skip rfl rfl ?_
      refine TW.skip rfl rfl ?_
      refine TW.skip rfl rfl ?_
      refine TW.skip rfl rfl ?_
      refine TW.skip rfl rfl ?_
      refine TW.skip rfl rfl ?_
      refine TW.skip rfl rfl ?_
      refine TW.skip rfl rfl ?_
      refine TW.skip rfl rfl ?_
      refine TW.skip rfl rfl ?_
      refine TW.skip rfl rfl ?_
      refine TW.skip rfl rfl ?_
      refine TW.skip rfl rfl ?_
      refine TW.pure (v := (Value.bool true)) rfl (by decide) (by decide) rfl (fun w => (Step.pick (t := true) rfl rfl)) ?_
      refine TW.pure (v := (Value.bool true)) rfl (by decide) (by decide) rfl (fun w => (Step.pick (t := true) rfl rfl)) ?_
      refine TW.done (fun w24 M => ?_)
      refine W.cond (t := true) rfl (fun _ => ?_) (fun h => by cases h)
      refine W.skip ?_
      refine W.seq' ?_
      refine W.block ?_
      refine W.drawn M [0, 1, 2, 3, 4, 5, 6, 7, 8, 9, 10, 11, 12, 13, 14, 15, 16, 17] [8, 13, 15, 17] [8, 13] [blk b8 (.cells #[(Value.int .u8 p.sort), (Value.int .u64 p.id), (Value.int .u64 p.epoch)] 90), blk b3 (.cells #[(Value.int .u8 p.sort), (Value.int .u64 p.id), (Value.int .u64 p.epoch)] 90)] [SlAt 3 v l.length (l.flatMap pinE)] (List.Sublist.cons _ (List.Sublist.cons_cons _ (List.Sublist.cons_cons _ List.Sublist.slnil))) (fun _ h => h) Try.mixed (by kernel_rfl) ?_
      refine TW.pure (v := v10) rfl (by decide) (by decide) rfl (fun w => (Step.move rfl)) ?_
      refine TW.pure (v := (Value.int .i64 ↑k_)) rfl (by decide) (by decide) rfl (fun w => (Step.move rfl)) ?_
      refine TW.pure (v := (Value.int .i64 (↑(k_ - 1)))) rfl (by decide) (by decide) rfl (fun w => (Step.cast (congrArg (Value.int .i64) (show (↑k_ : Int) - 1 = ↑(k_ - 1) by omega)) (Step.sub rfl rfl (wrap_i64 (by omega))))) ?_
      refine TW.pure (v := v10) rfl (by decide) (by decide) rfl (fun w => (Step.move rfl)) ?_
      refine TW.pure (v := (Value.int .i64 ↑k_)) rfl (by decide) (by decide) rfl (fun w => (Step.move rfl)) ?_
      refine TW.pure (v := v10) rfl (by decide) (by decide) rfl (fun w => (Step.move rfl)) ?_
      refine TW.pure (v := (Value.int .i64 ↑k_)) rfl (by decide) (by decide) rfl (fun w => (Step.move rfl)) ?_
      refine TW.pure (v := (Value.pointer (some ⟨(sBlk v10), sOff v10 + k_ * 3, none⟩))) rfl (by decide) (by decide) rfl (fun w => (Step.indexAddr (i := k_) (Try.un28).run Try.el90.sized rfl rfl (by omega) hb19 (by omega))) ?_
      refine TW.readP (v := (Value.agg #[(Value.int .u8 x22.sort), (Value.int .u64 x22.id), (Value.int .u64 x22.epoch)])) rfl (by decide) (by decide) rfl (fun A w M => (Step.loadEN (k := 0) (cs' := [(Value.int .u8 x22.sort), (Value.int .u64 x22.id), (Value.int .u64 x22.epoch)]) Try.ag90 (flat_ec (own_slAt (M.chunk 1 rfl).inv) hx22 pinE_len) (by decide) rfl rfl rfl)) ?_
      refine TW.pure (v := v10) rfl (by decide) (by decide) rfl (fun w => (Step.move rfl)) ?_
      refine TW.pure (v := (Value.int .i64 ↑k_)) rfl (by decide) (by decide) rfl (fun w => (Step.move rfl)) ?_
      refine TW.pure (v := (Value.int .i64 (↑(k_ - 1)))) rfl (by decide) (by decide) rfl (fun w => (Step.cast (congrArg (Value.int .i64) (show (↑k_ : Int) - 1 = ↑(k_ - 1) by omega)) (Step.sub rfl rfl (wrap_i64 (by omega))))) ?_
      refine TW.pure (v := (Value.pointer (some ⟨(sBlk v10), sOff v10 + (k_ - 1) * 3, none⟩))) rfl (by decide) (by decide) rfl (fun w => (Step.indexAddr (i := k_ - 1) (Try.un28).run Try.el90.sized rfl rfl (by omega) hb19 (by omega))) ?_
      refine TW.readP (v := (Value.agg #[(Value.int .u8 x21.sort), (Value.int .u64 x21.id), (Value.int .u64 x21.epoch)])) rfl (by decide) (by decide) rfl (fun A w M => (Step.loadEN (k := 0) (cs' := [(Value.int .u8 x21.sort), (Value.int .u64 x21.id), (Value.int .u64 x21.epoch)]) Try.ag90 (flat_ec (own_slAt (M.chunk 1 rfl).inv) hx21 pinE_len) (by decide) rfl rfl rfl)) ?_
      refine TW.pure (v := (Value.pointer (some ⟨(sBlk v10), sOff v10 + (k_ - 1) * 3, none⟩))) rfl (by decide) (by decide) rfl (fun w => (Step.indexAddr (i := k_ - 1) (Try.un28).run Try.el90.sized rfl rfl (by omega) hb19 (by omega))) ?_
      refine TW.act (c' := own 90 3 v10 ((ys_.set (k_ - 1) x22).length) ((ys_.set (k_ - 1) x22).flatMap pinE)) 0 rfl rfl (by decide) rfl (List.Sublist.cons _ (List.Sublist.cons_cons _ (List.Sublist.cons_cons _ List.Sublist.slnil))) (fun r h => h) (fun A w M => M.storeF pinE_len x22 1 rfl Try.el90.sized rfl rfl rfl (cel_cons rfl (cel_cons rfl (cel_cons rfl cel_nil))) (by first | omega | (simp only [List.length_set]; omega))) ?_
      refine TW.pure (v := (Value.pointer (some ⟨(sBlk v10), sOff v10 + k_ * 3, none⟩))) rfl (by decide) (by decide) rfl (fun w => (Step.indexAddr (i := k_) (Try.un28).run Try.el90.sized rfl rfl (by omega) hb19 (by omega))) ?_
      refine TW.act (c' := own 90 3 v10 (((ys_.set (k_ - 1) x22).set k_ x21).length) (((ys_.set (k_ - 1) x22).set k_ x21).flatMap pinE)) 0 rfl rfl (by decide) rfl (List.Sublist.cons _ (List.Sublist.cons_cons _ (List.Sublist.cons_cons _ List.Sublist.slnil))) (fun r h => h) (fun A w M => M.storeF pinE_len x21 1 rfl Try.el90.sized rfl rfl rfl (cel_cons rfl (cel_cons rfl (cel_cons rfl cel_nil))) (by first | omega | (simp only [List.length_set]; omega))) ?_
      refine TW.done (fun w25 M => ?_)
      refine W.region rfl ?_
      refine WL.step (v := (Value.int .i64 ↑k_)) rfl (Step.move rfl) ?_
      refine WL.step (v := (Value.int .i64 (↑(k_ - 1)))) rfl (Step.cast (congrArg (Value.int .i64) (show (↑k_ : Int) - 1 = ↑(k_ - 1) by omega)) (Step.sub rfl rfl (wrap_i64 (by omega)))) ?_
      refine WL.step (v := (Value.int .i64 (↑(k_ - 1)))) rfl (Step.assign rfl) ?_
      refine WL.nil ?_
      exact ⟨_, (by omega), k_ - 1, (ys_.set (k_ - 1) x22).set k_ x21, ⟨(by omega), (by simp only [List.length_set]; exact hi16), (putV_go (by omega) hx22 hx21 (by unfold ltP; omega) hi17), rfl⟩, ⟨rfl, rfl, rfl, rfl, rfl⟩, M⟩
    ·
      have h23p := of_decide_eq_false h23
      rcases Bool.eq_false_or_eq_true ((x21.sort : Int) == (x22.sort : Int)) with h26 | h26
      ·
        have h26p : (x21.sort : Int) = (x22.sort : Int) := by simpa using h26
        refine W.drawn M [0, 1, 2, 3, 4, 5, 6, 7, 8, 9, 10, 11, 12, 13, 14, 15, 16, 17, 18, 19, 20, 21, 22, 23, 24, 25, 26, 27, 28, 29, 30, 31, 32, 33, 34, 35, 36, 37, 38, 39, 40, 41, 42, 43] [] [] [own 90 3 v10 ys_.length (ys_.flatMap pinE), blk b8 (.cells #[(Value.int .u8 p.sort), (Value.int .u64 p.id), (Value.int .u64 p.epoch)] 90), blk b3 (.cells #[(Value.int .u8 p.sort), (Value.int .u64 p.id), (Value.int .u64 p.epoch)] 90)] [SlAt 3 v l.length (l.flatMap pinE)] (List.Sublist.cons_cons _ (List.Sublist.cons_cons _ (List.Sublist.cons_cons _ List.Sublist.slnil))) (fun _ h => h) Try.mixed (by kernel_rfl) ?_
        refine TW.pure (v := (Value.int .i64 ↑k_)) rfl (by decide) (by decide) rfl (fun w => (Step.move rfl)) ?_
        refine TW.pure (v := (Value.bool true)) rfl (by decide) (by decide) rfl (fun w => (Step.cast (congrArg Value.bool h18) (Step.pure (by kernel_rfl)))) ?_
        refine TW.pure (v := (Value.bool true)) rfl (by decide) (by decide) rfl (fun w => (Step.move rfl)) ?_
        refine TW.pure (v := v10) rfl (by decide) (by decide) rfl (fun w => (Step.move rfl)) ?_
        refine TW.pure (v := (Value.int .i64 ↑k_)) rfl (by decide) (by decide) rfl (fun w => (Step.move rfl)) ?_
        refine TW.pure (v := (Value.int .i64 (↑(k_ - 1)))) rfl (by decide) (by decide) rfl (fun w => (Step.cast (congrArg (Value.int .i64) (show (↑k_ : Int) - 1 = ↑(k_ - 1) by omega)) (Step.sub rfl rfl (wrap_i64 (by omega))))) ?_
        refine TW.pure (v := (Value.pointer (some ⟨(sBlk v10), sOff v10 + (k_ - 1) * 3, none⟩))) rfl (by decide) (by decide) rfl (fun w => (Step.indexAddr (i := k_ - 1) (Try.un28).run Try.el90.sized rfl rfl (by omega) hb19 (by omega))) ?_
        refine TW.pure (v := (Value.pointer (some ⟨(sBlk v10), sOff v10 + (k_ - 1) * 3, none⟩))) rfl (by decide) (by decide) rfl (fun w => (Step.pure (by kernel_rfl))) ?_
        refine TW.read (v := (Value.int .u8 x21.sort)) rfl (by decide) (by decide) rfl (fun A w M => (Step.loadE (k := 0) Try.sc5 (flat_ec (own_slAt (M.chunk 1 rfl).inv) hx21 pinE_len) (by decide) rfl rfl)) ?_
        refine TW.pure (v := v10) rfl (by decide) (by decide) rfl (fun w => (Step.move rfl)) ?_
        refine TW.pure (v := (Value.int .i64 ↑k_)) rfl (by decide) (by decide) rfl (fun w => (Step.move rfl)) ?_
        refine TW.pure (v := (Value.pointer (some ⟨(sBlk v10), sOff v10 + k_ * 3, none⟩))) rfl (by decide) (by decide) rfl (fun w => (Step.indexAddr (i := k_) (Try.un28).run Try.el90.sized rfl rfl (by omega) hb19 (by omega))) ?_
        refine TW.pure (v := (Value.pointer (some ⟨(sBlk v10), sOff v10 + k_ * 3, none⟩))) rfl (by decide) (by decide) rfl (fun w => (Step.pure (by kernel_rfl))) ?_
        refine TW.read (v := (Value.int .u8 x22.sort)) rfl (by decide) (by decide) rfl (fun A w M => (Step.loadE (k := 0) Try.sc5 (flat_ec (own_slAt (M.chunk 1 rfl).inv) hx22 pinE_len) (by decide) rfl rfl)) ?_
        refine TW.pure (v := (Value.bool false)) rfl (by decide) (by decide) rfl (fun w => (Step.cast (congrArg Value.bool h23) (Step.pure (by kernel_rfl)))) ?_
        refine TW.pure (v := (Value.bool false)) rfl (by decide) (by decide) rfl (fun w => (Step.move rfl)) ?_
        refine TW.pure (v := v10) rfl (by decide) (by decide) rfl (fun w => (Step.move rfl)) ?_
        refine TW.pure (v := (Value.int .i64 ↑k_)) rfl (by decide) (by decide) rfl (fun w => (Step.move rfl)) ?_
        refine TW.pure (v := (Value.int .i64 (↑(k_ - 1)))) rfl (by decide) (by decide) rfl (fun w => (Step.cast (congrArg (Value.int .i64) (show (↑k_ : Int) - 1 = ↑(k_ - 1) by omega)) (Step.sub rfl rfl (wrap_i64 (by omega))))) ?_
        refine TW.pure (v := (Value.pointer (some ⟨(sBlk v10), sOff v10 + (k_ - 1) * 3, none⟩))) rfl (by decide) (by decide) rfl (fun w => (Step.indexAddr (i := k_ - 1) (Try.un28).run Try.el90.sized rfl rfl (by omega) hb19 (by omega))) ?_
        refine TW.pure (v := (Value.pointer (some ⟨(sBlk v10), sOff v10 + (k_ - 1) * 3, none⟩))) rfl (by decide) (by decide) rfl (fun w => (Step.pure (by kernel_rfl))) ?_
        refine TW.read (v := (Value.int .u8 x21.sort)) rfl (by decide) (by decide) rfl (fun A w M => (Step.loadE (k := 0) Try.sc5 (flat_ec (own_slAt (M.chunk 1 rfl).inv) hx21 pinE_len) (by decide) rfl rfl)) ?_
        refine TW.pure (v := v10) rfl (by decide) (by decide) rfl (fun w => (Step.move rfl)) ?_
        refine TW.pure (v := (Value.int .i64 ↑k_)) rfl (by decide) (by decide) rfl (fun w => (Step.move rfl)) ?_
        refine TW.pure (v := (Value.pointer (some ⟨(sBlk v10), sOff v10 + k_ * 3, none⟩))) rfl (by decide) (by decide) rfl (fun w => (Step.indexAddr (i := k_) (Try.un28).run Try.el90.sized rfl rfl (by omega) hb19 (by omega))) ?_
        refine TW.pure (v := (Value.pointer (some ⟨(sBlk v10), sOff v10 + k_ * 3, none⟩))) rfl (by decide) (by decide) rfl (fun w => (Step.pure (by kernel_rfl))) ?_
        refine TW.read (v := (Value.int .u8 x22.sort)) rfl (by decide) (by decide) rfl (fun A w M => (Step.loadE (k := 0) Try.sc5 (flat_ec (own_slAt (M.chunk 1 rfl).inv) hx22 pinE_len) (by decide) rfl rfl)) ?_
        refine TW.pure (v := (Value.bool true)) rfl (by decide) (by decide) rfl (fun w => (Step.cast (congrArg Value.bool h26) (Step.pure (by kernel_rfl)))) ?_
        refine TW.pure (v := (Value.bool true)) rfl (by decide) (by decide) rfl (fun w => (Step.move rfl)) ?_
        refine TW.pure (v := v10) rfl (by decide) (by decide) rfl (fun w => (Step.move rfl)) ?_
        refine TW.pure (v := (Value.int .i64 ↑k_)) rfl (by decide) (by decide) rfl (fun w => (Step.move rfl)) ?_
        refine TW.pure (v := (Value.int .i64 (↑(k_ - 1)))) rfl (by decide) (by decide) rfl (fun w => (Step.cast (congrArg (Value.int .i64) (show (↑k_ : Int) - 1 = ↑(k_ - 1) by omega)) (Step.sub rfl rfl (wrap_i64 (by omega))))) ?_
        refine TW.pure (v := (Value.pointer (some ⟨(sBlk v10), sOff v10 + (k_ - 1) * 3, none⟩))) rfl (by decide) (by decide) rfl (fun w => (Step.indexAddr (i := k_ - 1) (Try.un28).run Try.el90.sized rfl rfl (by omega) hb19 (by omega))) ?_
        refine TW.pure (v := (Value.pointer (some ⟨(sBlk v10), sOff v10 + (k_ - 1) * 3 + 1, none⟩))) rfl (by decide) (by decide) rfl (fun w => (Step.pure (by kernel_rfl))) ?_
        refine TW.read (v := (Value.int .u64 x21.id)) rfl (by decide) (by decide) rfl (fun A w M => (Step.loadE (k := 1) Try.sc23 (flat_ec (own_slAt (M.chunk 1 rfl).inv) hx21 pinE_len) (by decide) rfl rfl)) ?_
        refine TW.pure (v := v10) rfl (by decide) (by decide) rfl (fun w => (Step.move rfl)) ?_
        refine TW.pure (v := (Value.int .i64 ↑k_)) rfl (by decide) (by decide) rfl (fun w => (Step.move rfl)) ?_
        refine TW.pure (v := (Value.pointer (some ⟨(sBlk v10), sOff v10 + k_ * 3, none⟩))) rfl (by decide) (by decide) rfl (fun w => (Step.indexAddr (i := k_) (Try.un28).run Try.el90.sized rfl rfl (by omega) hb19 (by omega))) ?_
        refine TW.pure (v := (Value.pointer (some ⟨(sBlk v10), sOff v10 + k_ * 3 + 1, none⟩))) rfl (by decide) (by decide) rfl (fun w => (Step.pure (by kernel_rfl))) ?_
        refine TW.read (v := (Value.int .u64 x22.id)) rfl (by decide) (by decide) rfl (fun A w M => (Step.loadE (k := 1) Try.sc23 (flat_ec (own_slAt (M.chunk 1 rfl).inv) hx22 pinE_len) (by decide) rfl rfl)) ?_
        refine TW.pure (v := (Value.bool (decide ((x21.id : Int) > (x22.id : Int))))) rfl (by decide) (by decide) rfl (fun w => (Step.pure (by kernel_rfl))) ?_
        refine TW.pure (v := (Value.bool (decide ((x21.id : Int) > (x22.id : Int))))) rfl (by decide) (by decide) rfl (fun w => (Step.pick (t := true) rfl rfl)) ?_
        refine TW.pure (v := (Value.bool (decide ((x21.id : Int) > (x22.id : Int))))) rfl (by decide) (by decide) rfl (fun w => (Step.pick (t := false) rfl rfl)) ?_
        refine TW.pure (v := (Value.bool (decide ((x21.id : Int) > (x22.id : Int))))) rfl (by decide) (by decide) rfl (fun w => (Step.pick (t := true) rfl rfl)) ?_
        refine TW.done (fun w27 M => ?_)
        refine W.cond (t := decide ((x21.id : Int) > (x22.id : Int))) rfl (fun h28 => ?_) (fun h28 => ?_)
        ·
          have h28p := of_decide_eq_true h28
          refine W.skip ?_
          refine W.seq' ?_
          refine W.block ?_
          refine W.drawn M [0, 1, 2, 3, 4, 5, 6, 7, 8, 9, 10, 11, 12, 13, 14, 15, 16, 17] [8, 13, 15, 17] [8, 13] [blk b8 (.cells #[(Value.int .u8 p.sort), (Value.int .u64 p.id), (Value.int .u64 p.epoch)] 90), blk b3 (.cells #[(Value.int .u8 p.sort), (Value.int .u64 p.id), (Value.int .u64 p.epoch)] 90)] [SlAt 3 v l.length (l.flatMap pinE)] (List.Sublist.cons _ (List.Sublist.cons_cons _ (List.Sublist.cons_cons _ List.Sublist.slnil))) (fun _ h => h) Try.mixed (by kernel_rfl) ?_
          refine TW.pure (v := v10) rfl (by decide) (by decide) rfl (fun w => (Step.move rfl)) ?_
          refine TW.pure (v := (Value.int .i64 ↑k_)) rfl (by decide) (by decide) rfl (fun w => (Step.move rfl)) ?_
          refine TW.pure (v := (Value.int .i64 (↑(k_ - 1)))) rfl (by decide) (by decide) rfl (fun w => (Step.cast (congrArg (Value.int .i64) (show (↑k_ : Int) - 1 = ↑(k_ - 1) by omega)) (Step.sub rfl rfl (wrap_i64 (by omega))))) ?_
          refine TW.pure (v := v10) rfl (by decide) (by decide) rfl (fun w => (Step.move rfl)) ?_
          refine TW.pure (v := (Value.int .i64 ↑k_)) rfl (by decide) (by decide) rfl (fun w => (Step.move rfl)) ?_
          refine TW.pure (v := v10) rfl (by decide) (by decide) rfl (fun w => (Step.move rfl)) ?_
          refine TW.pure (v := (Value.int .i64 ↑k_)) rfl (by decide) (by decide) rfl (fun w => (Step.move rfl)) ?_
          refine TW.pure (v := (Value.pointer (some ⟨(sBlk v10), sOff v10 + k_ * 3, none⟩))) rfl (by decide) (by decide) rfl (fun w => (Step.indexAddr (i := k_) (Try.un28).run Try.el90.sized rfl rfl (by omega) hb19 (by omega))) ?_
          refine TW.readP (v := (Value.agg #[(Value.int .u8 x22.sort), (Value.int .u64 x22.id), (Value.int .u64 x22.epoch)])) rfl (by decide) (by decide) rfl (fun A w M => (Step.loadEN (k := 0) (cs' := [(Value.int .u8 x22.sort), (Value.int .u64 x22.id), (Value.int .u64 x22.epoch)]) Try.ag90 (flat_ec (own_slAt (M.chunk 1 rfl).inv) hx22 pinE_len) (by decide) rfl rfl rfl)) ?_
          refine TW.pure (v := v10) rfl (by decide) (by decide) rfl (fun w => (Step.move rfl)) ?_
          refine TW.pure (v := (Value.int .i64 ↑k_)) rfl (by decide) (by decide) rfl (fun w => (Step.move rfl)) ?_
          refine TW.pure (v := (Value.int .i64 (↑(k_ - 1)))) rfl (by decide) (by decide) rfl (fun w => (Step.cast (congrArg (Value.int .i64) (show (↑k_ : Int) - 1 = ↑(k_ - 1) by omega)) (Step.sub rfl rfl (wrap_i64 (by omega))))) ?_
          refine TW.pure (v := (Value.pointer (some ⟨(sBlk v10), sOff v10 + (k_ - 1) * 3, none⟩))) rfl (by decide) (by decide) rfl (fun w => (Step.indexAddr (i := k_ - 1) (Try.un28).run Try.el90.sized rfl rfl (by omega) hb19 (by omega))) ?_
          refine TW.readP (v := (Value.agg #[(Value.int .u8 x21.sort), (Value.int .u64 x21.id), (Value.int .u64 x21.epoch)])) rfl (by decide) (by decide) rfl (fun A w M => (Step.loadEN (k := 0) (cs' := [(Value.int .u8 x21.sort), (Value.int .u64 x21.id), (Value.int .u64 x21.epoch)]) Try.ag90 (flat_ec (own_slAt (M.chunk 1 rfl).inv) hx21 pinE_len) (by decide) rfl rfl rfl)) ?_
          refine TW.pure (v := (Value.pointer (some ⟨(sBlk v10), sOff v10 + (k_ - 1) * 3, none⟩))) rfl (by decide) (by decide) rfl (fun w => (Step.indexAddr (i := k_ - 1) (Try.un28).run Try.el90.sized rfl rfl (by omega) hb19 (by omega))) ?_
          refine TW.act (c' := own 90 3 v10 ((ys_.set (k_ - 1) x22).length) ((ys_.set (k_ - 1) x22).flatMap pinE)) 0 rfl rfl (by decide) rfl (List.Sublist.cons _ (List.Sublist.cons_cons _ (List.Sublist.cons_cons _ List.Sublist.slnil))) (fun r h => h) (fun A w M => M.storeF pinE_len x22 1 rfl Try.el90.sized rfl rfl rfl (cel_cons rfl (cel_cons rfl (cel_cons rfl cel_nil))) (by first | omega | (simp only [List.length_set]; omega))) ?_
          refine TW.pure (v := (Value.pointer (some ⟨(sBlk v10), sOff v10 + k_ * 3, none⟩))) rfl (by decide) (by decide) rfl (fun w => (Step.indexAddr (i := k_) (Try.un28).run Try.el90.sized rfl rfl (by omega) hb19 (by omega))) ?_
          refine TW.act (c' := own 90 3 v10 (((ys_.set (k_ - 1) x22).set k_ x21).length) (((ys_.set (k_ - 1) x22).set k_ x21).flatMap pinE)) 0 rfl rfl (by decide) rfl (List.Sublist.cons _ (List.Sublist.cons_cons _ (List.Sublist.cons_cons _ List.Sublist.slnil))) (fun r h => h) (fun A w M => M.storeF pinE_len x21 1 rfl Try.el90.sized rfl rfl rfl (cel_cons rfl (cel_cons rfl (cel_cons rfl cel_nil))) (by first | omega | (simp only [List.length_set]; omega))) ?_
          refine TW.done (fun w29 M => ?_)
          refine W.region rfl ?_
          refine WL.step (v := (Value.int .i64 ↑k_)) rfl (Step.move rfl) ?_
          refine WL.step (v := (Value.int .i64 (↑(k_ - 1)))) rfl (Step.cast (congrArg (Value.int .i64) (show (↑k_ : Int) - 1 = ↑(k_ - 1) by omega)) (Step.sub rfl rfl (wrap_i64 (by omega)))) ?_
          refine WL.step (v := (Value.int .i64 (↑(k_ - 1)))) rfl (Step.assign rfl) ?_
          refine WL.nil ?_
          exact ⟨_, (by omega), k_ - 1, (ys_.set (k_ - 1) x22).set k_ x21, ⟨(by omega), (by simp only [List.length_set]; exact hi16), (putV_go (by omega) hx22 hx21 (by unfold ltP; omega) hi17), rfl⟩, ⟨rfl, rfl, rfl, rfl, rfl⟩, M⟩
        ·
          have h28p := of_decide_eq_false h28
          refine W.exit ?_
          refine thn_exit ?_
          refine thn_exit ?_
          refine inBlk_hit ?_
          refine W.seq' ?_
          refine W.region rfl ?_
          refine WL.step (v := v10) rfl (Step.move rfl) ?_
          refine WL.step (v := v10) rfl (Step.assign rfl) ?_
          refine WL.nil ?_
          refine W.ret ?_
          refine ⟨.inl rfl, v10, ?_, ?_⟩
          · exact ⟨rfl, (Res.r1 (show RV _ _ _ (.tmp 4) v10 from by exact rfl))⟩
          have e30 : putV l p = ys_ := by
            exact putV_stop (by omega) hx22 hx21 (by unfold ltP; omega) hi17
          replace M := M.rechunk 0 (c' := own 90 3 v10 ((putV l p).length) ((putV l p).flatMap pinE)) rfl (congrArg (fun z => own 90 3 v10 z.length (z.flatMap pinE)) e30.symm)
          replace M : Mem _ _ _ [own 90 3 v10 ((putV l p).length) ((putV l p).flatMap pinE), blk b8 (.cells #[(Value.int .u8 p.sort), (Value.int .u64 p.id), (Value.int .u64 p.epoch)] 90), blk b3 (.cells #[(Value.int .u8 p.sort), (Value.int .u64 p.id), (Value.int .u64 p.epoch)] 90)] [SlAt 3 v l.length (l.flatMap pinE)] _ := M
          refine ⟨v10, ?_, M.close [0] rfl (by decide) trivial⟩
          rfl
      ·
        have h26p : ¬ (x21.sort : Int) = (x22.sort : Int) := by simpa using h26
        refine W.drawn M [0, 1, 2, 3, 4, 5, 6, 7, 8, 9, 10, 11, 12, 13, 14, 15, 16, 17, 18, 19, 20, 21, 22, 23, 24, 25, 26, 27, 28, 29, 30, 31, 32, 33, 34, 35, 36, 37, 38, 39, 40, 41, 42, 43] [] [] [own 90 3 v10 ys_.length (ys_.flatMap pinE), blk b8 (.cells #[(Value.int .u8 p.sort), (Value.int .u64 p.id), (Value.int .u64 p.epoch)] 90), blk b3 (.cells #[(Value.int .u8 p.sort), (Value.int .u64 p.id), (Value.int .u64 p.epoch)] 90)] [SlAt 3 v l.length (l.flatMap pinE)] (List.Sublist.cons_cons _ (List.Sublist.cons_cons _ (List.Sublist.cons_cons _ List.Sublist.slnil))) (fun _ h => h) Try.mixed (by kernel_rfl) ?_
        refine TW.pure (v := (Value.int .i64 ↑k_)) rfl (by decide) (by decide) rfl (fun w => (Step.move rfl)) ?_
        refine TW.pure (v := (Value.bool true)) rfl (by decide) (by decide) rfl (fun w => (Step.cast (congrArg Value.bool h18) (Step.pure (by kernel_rfl)))) ?_
        refine TW.pure (v := (Value.bool true)) rfl (by decide) (by decide) rfl (fun w => (Step.move rfl)) ?_
        refine TW.pure (v := v10) rfl (by decide) (by decide) rfl (fun w => (Step.move rfl)) ?_
        refine TW.pure (v := (Value.int .i64 ↑k_)) rfl (by decide) (by decide) rfl (fun w => (Step.move rfl)) ?_
        refine TW.pure (v := (Value.int .i64 (↑(k_ - 1)))) rfl (by decide) (by decide) rfl (fun w => (Step.cast (congrArg (Value.int .i64) (show (↑k_ : Int) - 1 = ↑(k_ - 1) by omega)) (Step.sub rfl rfl (wrap_i64 (by omega))))) ?_
        refine TW.pure (v := (Value.pointer (some ⟨(sBlk v10), sOff v10 + (k_ - 1) * 3, none⟩))) rfl (by decide) (by decide) rfl (fun w => (Step.indexAddr (i := k_ - 1) (Try.un28).run Try.el90.sized rfl rfl (by omega) hb19 (by omega))) ?_
        refine TW.pure (v := (Value.pointer (some ⟨(sBlk v10), sOff v10 + (k_ - 1) * 3, none⟩))) rfl (by decide) (by decide) rfl (fun w => (Step.pure (by kernel_rfl))) ?_
        refine TW.read (v := (Value.int .u8 x21.sort)) rfl (by decide) (by decide) rfl (fun A w M => (Step.loadE (k := 0) Try.sc5 (flat_ec (own_slAt (M.chunk 1 rfl).inv) hx21 pinE_len) (by decide) rfl rfl)) ?_
        refine TW.pure (v := v10) rfl (by decide) (by decide) rfl (fun w => (Step.move rfl)) ?_
        refine TW.pure (v := (Value.int .i64 ↑k_)) rfl (by decide) (by decide) rfl (fun w => (Step.move rfl)) ?_
        refine TW.pure (v := (Value.pointer (some ⟨(sBlk v10), sOff v10 + k_ * 3, none⟩))) rfl (by decide) (by decide) rfl (fun w => (Step.indexAddr (i := k_) (Try.un28).run Try.el90.sized rfl rfl (by omega) hb19 (by omega))) ?_
        refine TW.pure (v := (Value.pointer (some ⟨(sBlk v10), sOff v10 + k_ * 3, none⟩))) rfl (by decide) (by decide) rfl (fun w => (Step.pure (by kernel_rfl))) ?_
        refine TW.read (v := (Value.int .u8 x22.sort)) rfl (by decide) (by decide) rfl (fun A w M => (Step.loadE (k := 0) Try.sc5 (flat_ec (own_slAt (M.chunk 1 rfl).inv) hx22 pinE_len) (by decide) rfl rfl)) ?_
        refine TW.pure (v := (Value.bool false)) rfl (by decide) (by decide) rfl (fun w => (Step.cast (congrArg Value.bool h23) (Step.pure (by kernel_rfl)))) ?_
        refine TW.pure (v := (Value.bool false)) rfl (by decide) (by decide) rfl (fun w => (Step.move rfl)) ?_
        refine TW.pure (v := v10) rfl (by decide) (by decide) rfl (fun w => (Step.move rfl)) ?_
        refine TW.pure (v := (Value.int .i64 ↑k_)) rfl (by decide) (by decide) rfl (fun w => (Step.move rfl)) ?_
        refine TW.pure (v := (Value.int .i64 (↑(k_ - 1)))) rfl (by decide) (by decide) rfl (fun w => (Step.cast (congrArg (Value.int .i64) (show (↑k_ : Int) - 1 = ↑(k_ - 1) by omega)) (Step.sub rfl rfl (wrap_i64 (by omega))))) ?_
        refine TW.pure (v := (Value.pointer (some ⟨(sBlk v10), sOff v10 + (k_ - 1) * 3, none⟩))) rfl (by decide) (by decide) rfl (fun w => (Step.indexAddr (i := k_ - 1) (Try.un28).run Try.el90.sized rfl rfl (by omega) hb19 (by omega))) ?_
        refine TW.pure (v := (Value.pointer (some ⟨(sBlk v10), sOff v10 + (k_ - 1) * 3, none⟩))) rfl (by decide) (by decide) rfl (fun w => (Step.pure (by kernel_rfl))) ?_
        refine TW.read (v := (Value.int .u8 x21.sort)) rfl (by decide) (by decide) rfl (fun A w M => (Step.loadE (k := 0) Try.sc5 (flat_ec (own_slAt (M.chunk 1 rfl).inv) hx21 pinE_len) (by decide) rfl rfl)) ?_
        refine TW.pure (v := v10) rfl (by decide) (by decide) rfl (fun w => (Step.move rfl)) ?_
        refine TW.pure (v := (Value.int .i64 ↑k_)) rfl (by decide) (by decide) rfl (fun w => (Step.move rfl)) ?_
        refine TW.pure (v := (Value.pointer (some ⟨(sBlk v10), sOff v10 + k_ * 3, none⟩))) rfl (by decide) (by decide) rfl (fun w => (Step.indexAddr (i := k_) (Try.un28).run Try.el90.sized rfl rfl (by omega) hb19 (by omega))) ?_
        refine TW.pure (v := (Value.pointer (some ⟨(sBlk v10), sOff v10 + k_ * 3, none⟩))) rfl (by decide) (by decide) rfl (fun w => (Step.pure (by kernel_rfl))) ?_
        refine TW.read (v := (Value.int .u8 x22.sort)) rfl (by decide) (by decide) rfl (fun A w M => (Step.loadE (k := 0) Try.sc5 (flat_ec (own_slAt (M.chunk 1 rfl).inv) hx22 pinE_len) (by decide) rfl rfl)) ?_
        refine TW.pure (v := (Value.bool false)) rfl (by decide) (by decide) rfl (fun w => (Step.cast (congrArg Value.bool h26) (Step.pure (by kernel_rfl)))) ?_
        refine TW.pure (v := (Value.bool false)) rfl (by decide) (by decide) rfl (fun w => (Step.move rfl)) ?_
        refine TW.skip rfl rfl ?_
        refine TW.skip rfl rfl ?_
        refine TW.skip rfl rfl ?_
        refine TW.skip rfl rfl ?_
        refine TW.skip rfl rfl ?_
        refine TW.skip rfl rfl ?_
        refine TW.skip rfl rfl ?_
        refine TW.skip rfl rfl ?_
        refine TW.skip rfl rfl ?_
        refine TW.skip rfl rfl ?_
        refine TW.skip rfl rfl ?_
        refine TW.skip rfl rfl ?_
        refine TW.pure (v := (Value.bool false)) rfl (by decide) (by decide) rfl (fun w => (Step.pick (t := false) rfl rfl)) ?_
        refine TW.pure (v := (Value.bool false)) rfl (by decide) (by decide) rfl (fun w => (Step.pick (t := false) rfl rfl)) ?_
        refine TW.pure (v := (Value.bool false)) rfl (by decide) (by decide) rfl (fun w => (Step.pick (t := true) rfl rfl)) ?_
        refine TW.done (fun w31 M => ?_)
        refine W.cond (t := false) rfl (fun h => by cases h) (fun _ => ?_)
        refine W.exit ?_
        refine thn_exit ?_
        refine thn_exit ?_
        refine inBlk_hit ?_
        refine W.seq' ?_
        refine W.region rfl ?_
        refine WL.step (v := v10) rfl (Step.move rfl) ?_
        refine WL.step (v := v10) rfl (Step.assign rfl) ?_
        refine WL.nil ?_
        refine W.ret ?_
        refine ⟨.inl rfl, v10, ?_, ?_⟩
        · exact ⟨rfl, (Res.r1 (show RV _ _ _ (.tmp 4) v10 from by exact rfl))⟩
        have e32 : putV l p = ys_ := by
          exact putV_stop (by omega) hx22 hx21 (by unfold ltP; omega) hi17
        replace M := M.rechunk 0 (c' := own 90 3 v10 ((putV l p).length) ((putV l p).flatMap pinE)) rfl (congrArg (fun z => own 90 3 v10 z.length (z.flatMap pinE)) e32.symm)
        replace M : Mem _ _ _ [own 90 3 v10 ((putV l p).length) ((putV l p).flatMap pinE), blk b8 (.cells #[(Value.int .u8 p.sort), (Value.int .u64 p.id), (Value.int .u64 p.epoch)] 90), blk b3 (.cells #[(Value.int .u8 p.sort), (Value.int .u64 p.id), (Value.int .u64 p.epoch)] 90)] [SlAt 3 v l.length (l.flatMap pinE)] _ := M
        refine ⟨v10, ?_, M.close [0] rfl (by decide) trivial⟩
        rfl
  ·
    have h18p := of_decide_eq_false h18
    refine W.drawn M [0, 1, 2, 3, 4, 5, 6, 7, 8, 9, 10, 11, 12, 13, 14, 15, 16, 17, 18, 19, 20, 21, 22, 23, 24, 25, 26, 27, 28, 29, 30, 31, 32, 33, 34, 35, 36, 37, 38, 39, 40, 41, 42, 43] [] [] [own 90 3 v10 ys_.length (ys_.flatMap pinE), blk b8 (.cells #[(Value.int .u8 p.sort), (Value.int .u64 p.id), (Value.int .u64 p.epoch)] 90), blk b3 (.cells #[(Value.int .u8 p.sort), (Value.int .u64 p.id), (Value.int .u64 p.epoch)] 90)] [SlAt 3 v l.length (l.flatMap pinE)] (List.Sublist.cons_cons _ (List.Sublist.cons_cons _ (List.Sublist.cons_cons _ List.Sublist.slnil))) (fun _ h => h) Try.mixed (by kernel_rfl) ?_
    refine TW.pure (v := (Value.int .i64 ↑k_)) rfl (by decide) (by decide) rfl (fun w => (Step.move rfl)) ?_
    refine TW.pure (v := (Value.bool false)) rfl (by decide) (by decide) rfl (fun w => (Step.cast (congrArg Value.bool h18) (Step.pure (by kernel_rfl)))) ?_
    refine TW.pure (v := (Value.bool false)) rfl (by decide) (by decide) rfl (fun w => (Step.move rfl)) ?_
    refine TW.skip rfl rfl ?_
    refine TW.skip rfl rfl ?_
    refine TW.skip rfl rfl ?_
    refine TW.skip rfl rfl ?_
    refine TW.skip rfl rfl ?_
    refine TW.skip rfl rfl ?_
    refine TW.skip rfl rfl ?_
    refine TW.skip rfl rfl ?_
    refine TW.skip rfl rfl ?_
    refine TW.skip rfl rfl ?_
    refine TW.skip rfl rfl ?_
    refine TW.skip rfl rfl ?_
    refine TW.skip rfl rfl ?_
    refine TW.skip rfl rfl ?_
    refine TW.skip rfl rfl ?_
    refine TW.skip rfl rfl ?_
    refine TW.skip rfl rfl ?_
    refine TW.skip rfl rfl ?_
    refine TW.skip rfl rfl ?_
    refine TW.skip rfl rfl ?_
    refine TW.skip rfl rfl ?_
    refine TW.skip rfl rfl ?_
    refine TW.skip rfl rfl ?_
    refine TW.skip rfl rfl ?_
    refine TW.skip rfl rfl ?_
    refine TW.skip rfl rfl ?_
    refine TW.skip rfl rfl ?_
    refine TW.skip rfl rfl ?_
    refine TW.skip rfl rfl ?_
    refine TW.skip rfl rfl ?_
    refine TW.skip rfl rfl ?_
    refine TW.skip rfl rfl ?_
    refine TW.skip rfl rfl ?_
    refine TW.skip rfl rfl ?_
    refine TW.skip rfl rfl ?_
    refine TW.skip rfl rfl ?_
    refine TW.skip rfl rfl ?_
    refine TW.skip rfl rfl ?_
    refine TW.skip rfl rfl ?_
    refine TW.skip rfl rfl ?_
    refine TW.pure (v := (Value.bool false)) rfl (by decide) (by decide) rfl (fun w => (Step.pick (t := false) rfl rfl)) ?_
    refine TW.done (fun w33 M => ?_)
    refine W.cond (t := false) rfl (fun h => by cases h) (fun _ => ?_)
    refine W.exit ?_
    refine thn_exit ?_
    refine thn_exit ?_
    refine inBlk_hit ?_
    refine W.seq' ?_
    refine W.region rfl ?_
    refine WL.step (v := v10) rfl (Step.move rfl) ?_
    refine WL.step (v := v10) rfl (Step.assign rfl) ?_
    refine WL.nil ?_
    refine W.ret ?_
    refine ⟨.inl rfl, v10, ?_, ?_⟩
    · exact ⟨rfl, (Res.r1 (show RV _ _ _ (.tmp 4) v10 from by exact rfl))⟩
    have e34 : putV l p = ys_ := by
      exact putV_end (by omega) hi17
    replace M := M.rechunk 0 (c' := own 90 3 v10 ((putV l p).length) ((putV l p).flatMap pinE)) rfl (congrArg (fun z => own 90 3 v10 z.length (z.flatMap pinE)) e34.symm)
    replace M : Mem _ _ _ [own 90 3 v10 ((putV l p).length) ((putV l p).flatMap pinE), blk b8 (.cells #[(Value.int .u8 p.sort), (Value.int .u64 p.id), (Value.int .u64 p.epoch)] 90), blk b3 (.cells #[(Value.int .u8 p.sort), (Value.int .u64 p.id), (Value.int .u64 p.epoch)] 90)] [SlAt 3 v l.length (l.flatMap pinE)] _ := M
    refine ⟨v10, ?_, M.close [0] rfl (by decide) trivial⟩
    rfl

theorem ref23_without {G : Nat → Prop} {w : World} (v : Value) (l : List PinH) (at_ : Nat)  (hbd : l.length ≤ 900000) (M : Mem G (fun _ => False) w [] [SlAt 3 v l.length (l.flatMap pinE)] w) : Rets Try.prog 72 #[v, (Value.int .i64 ↑at_)] w fun r w' => ∃ (v' : Value), r = v' ∧ Mem G (fun _ => False) w [own 90 3 v' ((l.eraseIdx at_).length) ((l.eraseIdx at_).flatMap pinE)] [] w' := by
  refine Rets.enter 24 _ Try.func72 rfl Try.ntmps72 Try.results72 (by simp) ?_
  have hle1 := SlAt.le' (M.rep 0 rfl)
  have sl2 : IsSl v := SlAt.isSl (Mem.rep M 0 rfl)
  refine W.seq' ?_
  refine W.region rfl ?_
  refine WL.step (v := (Value.slice none 0 0)) rfl (Step.assign rfl) ?_
  refine WL.nil ?_
  refine W.seq' ?_
  refine W.region rfl ?_
  refine WL.step (v := (Value.slice none 0 0)) rfl (Step.assign rfl) ?_
  refine WL.nil ?_
  refine W.seq' ?_
  refine W.seq' ?_
  refine W.region rfl ?_
  refine WL.step (v := (Value.int .i64 0)) rfl (Step.assign rfl) ?_
  refine WL.nil ?_
  refine W.block ?_
  replace M := M.ownNil 90 3
  replace M := M.rechunk 0 (c' := own 90 3 (Value.slice none 0 0) (((l.take 0).eraseIdx at_).length) (((l.take 0).eraseIdx at_).flatMap pinE)) rfl rfl
  replace M : Mem _ _ _ [own 90 3 (Value.slice none 0 0) (((l.take 0).eraseIdx at_).length) (((l.take 0).eraseIdx at_).flatMap pinE)] [SlAt 3 v l.length (l.flatMap pinE)] _ := M
  refine W.loop (fun kk ρ w' => ∃ (i_ : Nat) (acci_ : Value), ((i_ ≤ l.length) ∧ kk = l.length - i_) ∧ ρ.has [(0, v), (1, (Value.int .i64 ↑at_)), (4, (Value.slice none 0 0)), (5, acci_), (6, (Value.int .i64 ↑i_))] ∧ Mem G (fun _ => False) w [own 90 3 acci_ (((l.take i_).eraseIdx at_).length) (((l.take i_).eraseIdx at_).flatMap pinE)] [SlAt 3 v l.length (l.flatMap pinE)]  w') _ ⟨0, _, ⟨(Nat.zero_le _), rfl⟩, ⟨rfl, rfl, rfl, rfl, rfl, rfl, rfl⟩, M⟩ ?_
  rintro _ ρ4 w3 ⟨i_, acci_, ⟨hi5, rfl⟩, hρ, M⟩
  obtain ⟨ρ4, rfl⟩ := hρ.know
  clear hρ
  have sl6 : IsSl acci_ := SlAt.isSl (own_slAt (M.chunk 0 rfl).inv)
  have hacl : ((l.take i_).eraseIdx at_).length ≤ 1000000 := by have := List.length_eraseIdx_le (l.take i_) at_; rw [List.length_take] at this; omega
  refine W.seq' ?_
  refine W.seq' ?_
  refine W.region rfl ?_
  refine WL.step (v := (Value.int .i64 ↑i_)) rfl (Step.move rfl) ?_
  refine WL.step (v := v) rfl (Step.move rfl) ?_
  refine WL.step (v := (Value.int .i64 ↑l.length)) rfl (Step.lenSl Try.un28 rfl (M.rep 0 rfl)) ?_
  refine WL.step (v := (Value.bool (decide ((↑i_ : Int) < (↑l.length : Int))))) rfl (Step.pure (by kernel_rfl)) ?_
  refine WL.nil ?_
  refine W.cond (t := decide ((↑i_ : Int) < (↑l.length : Int))) rfl (fun h7 => ?_) (fun h7 => ?_)
  ·
    have h7p := of_decide_eq_true h7
    refine W.skip ?_
    refine W.seq' ?_
    refine W.block ?_
    refine W.seq' ?_
    refine W.region rfl ?_
    refine WL.step (v := (Value.int .i64 ↑i_)) rfl (Step.move rfl) ?_
    refine WL.step (v := (Value.int .i64 ↑at_)) rfl (Step.move rfl) ?_
    refine WL.step (v := (Value.bool ((↑i_ : Int) != (↑at_ : Int)))) rfl (Step.pure (by kernel_rfl)) ?_
    refine WL.nil ?_
    refine W.cond (t := (↑i_ : Int) != (↑at_ : Int)) rfl (fun h8 => ?_) (fun h8 => ?_)
    ·
      have h8p : ¬ (↑i_ : Int) = (↑at_ : Int) := by simpa using h8
      refine W.region rfl ?_
      refine WL.step (v := acci_) rfl (Step.move rfl) ?_
      refine WL.step (v := v) rfl (Step.move rfl) ?_
      refine WL.step (v := (Value.int .i64 ↑i_)) rfl (Step.move rfl) ?_
      obtain ⟨cap10, hb9⟩ := SlAt.base (M.rep 0 rfl) (by omega)
      obtain ⟨x11, hx11⟩ := elem_of_lt (xs := l) (i := i_) (by omega)
      refine WL.step (v := (Value.pointer (some ⟨(sBlk v), sOff v + i_ * 3, none⟩))) rfl (Step.indexAddr (i := i_) (Try.un28).run Try.el90.sized rfl rfl (by omega) hb9 (by omega)) ?_
      refine WL.step (v := (Value.agg #[(Value.int .u8 x11.sort), (Value.int .u64 x11.id), (Value.int .u64 x11.epoch)])) rfl (Step.loadEN (k := 0) (cs' := [(Value.int .u8 x11.sort), (Value.int .u64 x11.id), (Value.int .u64 x11.epoch)]) Try.ag90 (flat_ec (M.rep 0 rfl) hx11 pinE_len) (by decide) rfl rfl rfl) ?_
      refine WL.new (obj := .cells #[(Value.int .u8 x11.sort), (Value.int .u64 x11.id), (Value.int .u64 x11.epoch)] 90) (fun b => .slice (some ⟨b, 0, none⟩) 1 1) M rfl (fun w => Step.make (by kernel_rfl)) (fun b12 w13 hb12 M => ?_)
      refine WL.does rfl (M.appendF ((l.take i_).eraseIdx at_) ([x11] : List PinH) (sv := (Value.slice (some ⟨b12, 0, none⟩) 1 1)) 1 Try.un28 Try.el90 rfl (by decide) rfl rfl rfl (SlAt.of_blk (M.blk 0 rfl) rfl (by decide)) pinE_cel (by have := hacl; simp only [maxLen, List.length_nil, List.length_cons, List.length_append]; omega) (by have := hacl; (try simp only [List.length_nil, List.length_cons, List.length_append]); omega)) ?_
      rintro v14 w15 M
      replace M : Mem _ _ _ [blk b12 (.cells #[(Value.int .u8 x11.sort), (Value.int .u64 x11.id), (Value.int .u64 x11.epoch)] 90), own 90 3 v14 ((((l.take i_).eraseIdx at_) ++ ([x11] : List PinH)).length) ((((l.take i_).eraseIdx at_) ++ ([x11] : List PinH)).flatMap pinE)] [SlAt 3 v l.length (l.flatMap pinE)] _ := M
      have sl16 : IsSl v14 := SlAt.isSl (own_slAt (M.chunk 1 rfl).inv)
      refine WL.step (v := v14) rfl (Step.assign rfl) ?_
      refine WL.nil ?_
      refine W.region rfl ?_
      refine WL.step (v := (Value.int .i64 ↑i_)) rfl (Step.move rfl) ?_
      refine WL.step (v := (Value.int .i64 (↑i_ + 1))) rfl (Step.add rfl rfl (wrap_i64 (by omega))) ?_
      refine WL.step (v := (Value.int .i64 (↑i_ + 1))) rfl (Step.assign rfl) ?_
      refine WL.nil ?_
      replace M := M.rechunk 1 (c' := own 90 3 v14 (((l.take (i_ + 1)).eraseIdx at_).length) (((l.take (i_ + 1)).eraseIdx at_).flatMap pinE)) rfl (by rw [eraseN_miss hx11 (by omega)])
      replace M : Mem _ _ _ [blk b12 (.cells #[(Value.int .u8 x11.sort), (Value.int .u64 x11.id), (Value.int .u64 x11.epoch)] 90), own 90 3 v14 (((l.take (i_ + 1)).eraseIdx at_).length) (((l.take (i_ + 1)).eraseIdx at_).flatMap pinE)] [SlAt 3 v l.length (l.flatMap pinE)] _ := M
      replace M := M.sel (L' := [own 90 3 v14 (((l.take (i_ + 1)).eraseIdx at_).length) (((l.take (i_ + 1)).eraseIdx at_).flatMap pinE)]) [1] rfl (by decide)
      exact ⟨_, (by omega), i_ + 1, v14, ⟨(by omega), rfl⟩, ⟨rfl, rfl, rfl, rfl, rfl, rfl, rfl⟩, M⟩
    ·
      have h8p : (↑i_ : Int) = (↑at_ : Int) := by simpa using h8
      refine W.skip ?_
      refine W.region rfl ?_
      refine WL.step (v := (Value.int .i64 ↑i_)) rfl (Step.move rfl) ?_
      refine WL.step (v := (Value.int .i64 (↑i_ + 1))) rfl (Step.add rfl rfl (wrap_i64 (by omega))) ?_
      refine WL.step (v := (Value.int .i64 (↑i_ + 1))) rfl (Step.assign rfl) ?_
      refine WL.nil ?_
      replace M := M.rechunk 0 (c' := own 90 3 acci_ (((l.take (i_ + 1)).eraseIdx at_).length) (((l.take (i_ + 1)).eraseIdx at_).flatMap pinE)) rfl (by rw [show i_ = at_ by omega, eraseN_hit (List.getElem?_eq_getElem (by omega))])
      replace M : Mem _ _ _ [own 90 3 acci_ (((l.take (i_ + 1)).eraseIdx at_).length) (((l.take (i_ + 1)).eraseIdx at_).flatMap pinE)] [SlAt 3 v l.length (l.flatMap pinE)] _ := M
      exact ⟨_, (by omega), i_ + 1, acci_, ⟨(by omega), rfl⟩, ⟨rfl, rfl, rfl, rfl, rfl, rfl, rfl⟩, M⟩
  ·
    have h7p := of_decide_eq_false h7
    refine W.exit ?_
    refine thn_exit ?_
    refine thn_exit ?_
    refine inBlk_hit ?_
    refine W.seq' ?_
    refine W.region rfl ?_
    refine WL.step (v := acci_) rfl (Step.move rfl) ?_
    refine WL.step (v := acci_) rfl (Step.assign rfl) ?_
    refine WL.nil ?_
    refine W.ret ?_
    refine ⟨.inl rfl, acci_, ?_, ?_⟩
    · exact ⟨rfl, (Res.r1 (show RV _ _ _ (.tmp 4) acci_ from by exact rfl))⟩
    have e17 : l.eraseIdx at_ = (l.take i_).eraseIdx at_ := by
      rw [show i_ = l.length by omega, List.take_length]
    replace M := M.rechunk 0 (c' := own 90 3 acci_ ((l.eraseIdx at_).length) ((l.eraseIdx at_).flatMap pinE)) rfl (congrArg (fun z => own 90 3 acci_ z.length (z.flatMap pinE)) e17.symm)
    replace M : Mem _ _ _ [own 90 3 acci_ ((l.eraseIdx at_).length) ((l.eraseIdx at_).flatMap pinE)] [SlAt 3 v l.length (l.flatMap pinE)] _ := M
    refine ⟨acci_, ?_, M.close [0] rfl (by decide) trivial⟩
    rfl

theorem ref23_held {G : Nat → Prop} {w : World} (rv : Value) (rs : List PinH) (rf : Int) (s : Int) (i : Int)   (M : Mem G (fun _ => False) w [] [SlAt 3 rv rs.length (rs.flatMap pinE)] w) : Rets Try.prog 21 #[(Value.agg #[rv, (Value.int .u64 rf)]), (Value.int .u8 s), (Value.int .u64 i)] w fun r w' => r = (Value.tuple #[(Value.int .u64 ((heldV s i rs).1)), (Value.bool ((heldV s i rs).2))]) ∧ Mem G (fun _ => False) w [] [] w' := by
  refine Rets.enter 22 _ Try.func21 rfl Try.ntmps21 Try.results21 (by simp) ?_
  have hle1 := SlAt.le' (M.rep 0 rfl)
  have sl2 : IsSl rv := SlAt.isSl (Mem.rep M 0 rfl)
  refine W.seq' ?_
  refine W.region rfl ?_
  refine WL.box (v := (Value.agg #[rv, (Value.int .u64 rf)])) (c := #[rv, (Value.int .u64 rf)]) M rfl rfl rfl (fun b3 w4 hb3 M => ?_)
  refine WL.step (v := (Value.int .u64 0)) rfl (Step.assign rfl) ?_
  refine WL.step (v := (Value.bool false)) rfl (Step.assign rfl) ?_
  refine WL.nil ?_
  refine W.seq' ?_
  refine W.region rfl ?_
  refine WL.step (v := (Value.pointer (some ⟨b3, 0, none⟩))) rfl (Step.pure (by kernel_rfl)) ?_
  refine WL.step (v := rv) rfl (Step.load1 Try.sc28 rfl ((M.cell 0 rfl 0).trans rfl)) ?_
  refine WL.step (v := (Value.int .u8 s)) rfl (Step.move rfl) ?_
  refine WL.step (v := (Value.int .u64 i)) rfl (Step.move rfl) ?_
  refine WL.callX rfl (ref23_find rv rs s i (M.enterW0 ⟨(M.wideR0 0 rfl), trivial⟩)) (CallsF.func Try.en53 rfl) ?_
  rintro _ w5 ⟨rfl, m⟩
  replace M := M.leaveW0 m
  clear m
  replace M : Mem _ _ _ [blk b3 (.cells #[rv, (Value.int .u64 rf)] 30)] [SlAt 3 rv rs.length (rs.flatMap pinE)] _ := M
  refine WL.step (v := (Value.int .i64 (ixF (isP s i) rs))) rfl (Step.assign rfl) ?_
  refine WL.nil ?_
  refine W.seq' ?_
  refine W.seq' ?_
  refine W.region rfl ?_
  refine WL.step (v := (Value.int .i64 (ixF (isP s i) rs))) rfl (Step.move rfl) ?_
  refine WL.step (v := (Value.bool (decide ((ixF (isP s i) rs : Int) < (0 : Int))))) rfl (Step.pure (by kernel_rfl)) ?_
  refine WL.nil ?_
  refine W.cond (t := decide ((ixF (isP s i) rs : Int) < (0 : Int))) rfl (fun h6 => ?_) (fun h6 => ?_)
  ·
    have h6p := of_decide_eq_true h6
    refine W.seq' ?_
    refine W.region rfl ?_
    refine WL.step (v := (Value.int .u64 0)) rfl (Step.assign rfl) ?_
    refine WL.step (v := (Value.bool false)) rfl (Step.assign rfl) ?_
    refine WL.nil ?_
    refine W.ret ?_
    refine ⟨.inl rfl, (Value.tuple #[(Value.int .u64 0), (Value.bool false)]), ?_, ?_⟩
    · exact ⟨rfl, (Res.r2 (show RV _ _ _ (.tmp 6) (Value.int .u64 0) from by exact rfl) (show RV _ _ _ (.tmp 7) (Value.bool false) from by exact rfl))⟩
    refine ⟨?_, M.close [] rfl (by decide) trivial⟩
    rw [heldV_none (ixP_no.1 h6p)]
  ·
    have h6p := of_decide_eq_false h6
    obtain ⟨n_, hn_⟩ : ∃ n_ : Nat, ixF (isP s i) rs = ↑n_ := ⟨(ixF (isP s i) rs).toNat, by omega⟩
    obtain ⟨q_, hq_, hqk_, hqh_, hqf_⟩ := ixP_at hn_
    have hnl_ := (List.getElem?_eq_some_iff.1 hq_).1
    have hel_ := List.length_eraseIdx_le rs n_
    refine W.skip ?_
    refine W.seq' ?_
    refine W.region rfl ?_
    refine WL.step (v := (Value.pointer (some ⟨b3, 0, none⟩))) rfl (Step.pure (by kernel_rfl)) ?_
    refine WL.step (v := rv) rfl (Step.load1 Try.sc28 rfl ((M.cell 0 rfl 0).trans rfl)) ?_
    refine WL.step (v := (Value.int .i64 ↑n_)) rfl (Step.cast (congrArg (Value.int .i64) hn_) (Step.move rfl)) ?_
    obtain ⟨cap8, hb7⟩ := SlAt.base (M.rep 0 rfl) (by omega)
    refine WL.step (v := (Value.pointer (some ⟨(sBlk rv), sOff rv + n_ * 3, none⟩))) rfl (Step.indexAddr (i := n_) (Try.un28).run Try.el90.sized rfl rfl (by omega) hb7 (by omega)) ?_
    refine WL.step (v := (Value.pointer (some ⟨(sBlk rv), sOff rv + n_ * 3 + 2, none⟩))) rfl (Step.pure (by kernel_rfl)) ?_
    refine WL.step (v := (Value.int .u64 q_.epoch)) rfl (Step.loadE (k := 2) Try.sc23 (flat_ec (M.rep 0 rfl) hq_ pinE_len) (by decide) rfl rfl) ?_
    refine WL.step (v := (Value.int .u64 q_.epoch)) rfl (Step.assign rfl) ?_
    refine WL.step (v := (Value.bool true)) rfl (Step.assign rfl) ?_
    refine WL.nil ?_
    refine W.ret ?_
    refine ⟨.inl rfl, (Value.tuple #[(Value.int .u64 q_.epoch), (Value.bool true)]), ?_, ?_⟩
    · exact ⟨rfl, (Res.r2 (show RV _ _ _ (.tmp 6) (Value.int .u64 q_.epoch) from by exact rfl) (show RV _ _ _ (.tmp 7) (Value.bool true) from by exact rfl))⟩
    refine ⟨?_, M.close [] rfl (by decide) trivial⟩
    rw [hqh_]

theorem ref23_least {G : Nat → Prop} {w : World} (rv : Value) (rs : List PinH) (rf : Int) (now : Int)   (M : Mem G (fun _ => False) w [] [SlAt 3 rv rs.length (rs.flatMap pinE)] w) : Rets Try.prog 19 #[(Value.agg #[rv, (Value.int .u64 rf)]), (Value.int .u64 now)] w fun r w' => r = (Value.int .u64 (minE now rs)) ∧ Mem G (fun _ => False) w [] [] w' := by
  refine Rets.enter 30 _ Try.func19 rfl Try.ntmps19 Try.results19 (by simp) ?_
  have hle1 := SlAt.le' (M.rep 0 rfl)
  have sl2 : IsSl rv := SlAt.isSl (Mem.rep M 0 rfl)
  refine W.seq' ?_
  refine W.region rfl ?_
  refine WL.box (v := (Value.agg #[rv, (Value.int .u64 rf)])) (c := #[rv, (Value.int .u64 rf)]) M rfl rfl rfl (fun b3 w4 hb3 M => ?_)
  refine WL.step (v := (Value.int .u64 0)) rfl (Step.assign rfl) ?_
  refine WL.nil ?_
  refine W.seq' ?_
  refine W.region rfl ?_
  refine WL.step (v := (Value.int .u64 now)) rfl (Step.move rfl) ?_
  refine WL.step (v := (Value.int .u64 now)) rfl (Step.assign rfl) ?_
  refine WL.nil ?_
  refine W.seq' ?_
  refine W.seq' ?_
  refine W.region rfl ?_
  refine WL.step (v := (Value.int .i64 0)) rfl (Step.assign rfl) ?_
  refine WL.nil ?_
  refine W.block ?_
  refine W.loop (fun kk ρ w' => ∃ (i_ : Nat) (m_ : Int), ((i_ ≤ rs.length) ∧ (m_ = minE now (rs.take i_)) ∧ kk = rs.length - i_) ∧ ρ.has [(2, (Value.pointer (some ⟨b3, 0, none⟩))), (4, (Value.int .u64 0)), (5, (Value.int .u64 m_)), (6, (Value.int .i64 ↑i_))] ∧ Mem G (fun _ => False) w [blk b3 (.cells #[rv, (Value.int .u64 rf)] 30)] [SlAt 3 rv rs.length (rs.flatMap pinE)]  w') _ ⟨0, now, ⟨(Nat.zero_le _), rfl, rfl⟩, ⟨rfl, rfl, rfl, rfl, rfl, rfl⟩, M⟩ ?_
  rintro _ ρ6 w5 ⟨i_, m_, ⟨hi7, hi8, rfl⟩, hρ, M⟩
  obtain ⟨ρ6, rfl⟩ := hρ.know
  clear hρ
  refine W.seq' ?_
  refine W.seq' ?_
  refine W.region rfl ?_
  refine WL.step (v := (Value.int .i64 ↑i_)) rfl (Step.move rfl) ?_
  refine WL.step (v := (Value.pointer (some ⟨b3, 0, none⟩))) rfl (Step.pure (by kernel_rfl)) ?_
  refine WL.step (v := rv) rfl (Step.load1 Try.sc28 rfl ((M.cell 0 rfl 0).trans rfl)) ?_
  refine WL.step (v := (Value.int .i64 ↑rs.length)) rfl (Step.lenSl Try.un28 rfl (M.rep 0 rfl)) ?_
  refine WL.step (v := (Value.bool (decide ((↑i_ : Int) < (↑rs.length : Int))))) rfl (Step.pure (by kernel_rfl)) ?_
  refine WL.nil ?_
  refine W.cond (t := decide ((↑i_ : Int) < (↑rs.length : Int))) rfl (fun h9 => ?_) (fun h9 => ?_)
  ·
    have h9p := of_decide_eq_true h9
    refine W.skip ?_
    refine W.seq' ?_
    refine W.block ?_
    refine W.seq' ?_
    refine W.region rfl ?_
    refine WL.step (v := (Value.pointer (some ⟨b3, 0, none⟩))) rfl (Step.pure (by kernel_rfl)) ?_
    refine WL.step (v := rv) rfl (Step.load1 Try.sc28 rfl ((M.cell 0 rfl 0).trans rfl)) ?_
    refine WL.step (v := (Value.int .i64 ↑i_)) rfl (Step.move rfl) ?_
    obtain ⟨cap11, hb10⟩ := SlAt.base (M.rep 0 rfl) (by omega)
    obtain ⟨x12, hx12⟩ := elem_of_lt (xs := rs) (i := i_) (by omega)
    refine WL.step (v := (Value.pointer (some ⟨(sBlk rv), sOff rv + i_ * 3, none⟩))) rfl (Step.indexAddr (i := i_) (Try.un28).run Try.el90.sized rfl rfl (by omega) hb10 (by omega)) ?_
    refine WL.step (v := (Value.pointer (some ⟨(sBlk rv), sOff rv + i_ * 3 + 2, none⟩))) rfl (Step.pure (by kernel_rfl)) ?_
    refine WL.step (v := (Value.int .u64 x12.epoch)) rfl (Step.loadE (k := 2) Try.sc23 (flat_ec (M.rep 0 rfl) hx12 pinE_len) (by decide) rfl rfl) ?_
    refine WL.step (v := (Value.int .u64 m_)) rfl (Step.move rfl) ?_
    refine WL.step (v := (Value.bool (decide ((x12.epoch : Int) < (m_ : Int))))) rfl (Step.pure (by kernel_rfl)) ?_
    refine WL.nil ?_
    refine W.cond (t := decide ((x12.epoch : Int) < (m_ : Int))) rfl (fun h13 => ?_) (fun h13 => ?_)
    ·
      have h13p := of_decide_eq_true h13
      refine W.region rfl ?_
      refine WL.step (v := (Value.pointer (some ⟨b3, 0, none⟩))) rfl (Step.pure (by kernel_rfl)) ?_
      refine WL.step (v := rv) rfl (Step.load1 Try.sc28 rfl ((M.cell 0 rfl 0).trans rfl)) ?_
      refine WL.step (v := (Value.int .i64 ↑i_)) rfl (Step.move rfl) ?_
      refine WL.step (v := (Value.pointer (some ⟨(sBlk rv), sOff rv + i_ * 3, none⟩))) rfl (Step.indexAddr (i := i_) (Try.un28).run Try.el90.sized rfl rfl (by omega) hb10 (by omega)) ?_
      refine WL.step (v := (Value.pointer (some ⟨(sBlk rv), sOff rv + i_ * 3 + 2, none⟩))) rfl (Step.pure (by kernel_rfl)) ?_
      refine WL.step (v := (Value.int .u64 x12.epoch)) rfl (Step.loadE (k := 2) Try.sc23 (flat_ec (M.rep 0 rfl) hx12 pinE_len) (by decide) rfl rfl) ?_
      refine WL.step (v := (Value.int .u64 x12.epoch)) rfl (Step.assign rfl) ?_
      refine WL.nil ?_
      refine W.region rfl ?_
      refine WL.step (v := (Value.int .i64 ↑i_)) rfl (Step.move rfl) ?_
      refine WL.step (v := (Value.int .i64 (↑i_ + 1))) rfl (Step.add rfl rfl (wrap_i64 (by omega))) ?_
      refine WL.step (v := (Value.int .i64 (↑i_ + 1))) rfl (Step.assign rfl) ?_
      refine WL.nil ?_
      exact ⟨_, (by omega), i_ + 1, x12.epoch, ⟨(by omega), (by rw [minE_take hx12, ← hi8]; omega), rfl⟩, ⟨rfl, rfl, rfl, rfl, rfl, rfl⟩, M⟩
    ·
      have h13p := of_decide_eq_false h13
      refine W.skip ?_
      refine W.region rfl ?_
      refine WL.step (v := (Value.int .i64 ↑i_)) rfl (Step.move rfl) ?_
      refine WL.step (v := (Value.int .i64 (↑i_ + 1))) rfl (Step.add rfl rfl (wrap_i64 (by omega))) ?_
      refine WL.step (v := (Value.int .i64 (↑i_ + 1))) rfl (Step.assign rfl) ?_
      refine WL.nil ?_
      exact ⟨_, (by omega), i_ + 1, m_, ⟨(by omega), (by rw [minE_take hx12, ← hi8]; omega), rfl⟩, ⟨rfl, rfl, rfl, rfl, rfl, rfl⟩, M⟩
  ·
    have h9p := of_decide_eq_false h9
    refine W.exit ?_
    refine thn_exit ?_
    refine thn_exit ?_
    refine inBlk_hit ?_
    refine W.seq' ?_
    refine W.region rfl ?_
    refine WL.step (v := (Value.int .u64 m_)) rfl (Step.move rfl) ?_
    refine WL.step (v := (Value.int .u64 m_)) rfl (Step.assign rfl) ?_
    refine WL.nil ?_
    refine W.ret ?_
    refine ⟨.inl rfl, (Value.int .u64 m_), ?_, ?_⟩
    · exact ⟨rfl, (Res.r1 (show RV _ _ _ (.tmp 4) (Value.int .u64 m_) from by exact rfl))⟩
    refine ⟨?_, M.close [] rfl (by decide) trivial⟩
    rw [hi8, List.take_of_length_le (by omega)]

theorem ref23_raise {G : Nat → Prop} {w : World} (rv : Value) (rs : List PinH) (rf : Int) (now : Int)   (M : Mem G (fun _ => False) w [] [SlAt 3 rv rs.length (rs.flatMap pinE)] w) : Rets Try.prog 46 #[(Value.agg #[rv, (Value.int .u64 rf)]), (Value.int .u64 now)] w fun r w' => ∃ (rv' : Value), r = (Value.agg #[rv', (Value.int .u64 (max (rf : Int) (minE now rs : Int)))]) ∧ Mem G (fun _ => False) w [] [SlAt 3 rv' rs.length (rs.flatMap pinE)] w' := by
  refine Rets.enter 18 _ Try.func46 rfl Try.ntmps46 Try.results46 (by simp) ?_
  have hle1 := SlAt.le' (M.rep 0 rfl)
  have sl2 : IsSl rv := SlAt.isSl (Mem.rep M 0 rfl)
  refine W.seq' ?_
  refine W.region rfl ?_
  refine WL.box (v := (Value.agg #[rv, (Value.int .u64 rf)])) (c := #[rv, (Value.int .u64 rf)]) M rfl rfl rfl (fun b3 w4 hb3 M => ?_)
  refine WL.alloc (c := #[(Value.slice none 0 0), (Value.int .u64 0)]) M rfl Try.el30.zero rfl (fun b5 w6 hb5 M => ?_)
  refine WL.nil ?_
  refine W.seq' ?_
  refine W.seq' ?_
  refine W.drawn M [0, 1, 2, 3, 4, 5] [2] [] [blk b5 (.cells #[(Value.slice none 0 0), (Value.int .u64 0)] 30), blk b3 (.cells #[rv, (Value.int .u64 rf)] 30)] [SlAt 3 rv rs.length (rs.flatMap pinE)] (List.Sublist.cons_cons _ (List.Sublist.cons_cons _ List.Sublist.slnil)) (fun _ h => h) Try.mixed (by kernel_rfl) ?_
  refine TW.read (v := (Value.agg #[rv, (Value.int .u64 rf)])) rfl (by decide) (by decide) rfl (fun A w M => (Step.loadN Try.ag30 rfl (M.blk 2 rfl) (Nat.le_of_ble_eq_true rfl) rfl)) ?_
  refine TW.pure (v := (Value.int .u64 now)) rfl (by decide) (by decide) rfl (fun w => (Step.move rfl)) ?_
  refine TW.callX (ι := Unit) (fun jx v_ => v_ = (Value.int .u64 (minE now rs))) (fun jx => [blk b5 (.cells #[(Value.slice none 0 0), (Value.int .u64 0)] 30), blk b3 (.cells #[rv, (Value.int .u64 rf)] 30)]) (fun jx => [SlAt 3 rv rs.length (rs.flatMap pinE)]) rfl (by decide) rfl (fun jx => (List.Sublist.cons_cons _ (List.Sublist.cons_cons _ List.Sublist.slnil))) (fun jx r h => h) (fun A w M => Rets.mono (ref23_least rv rs rf now (M.enterW0 ⟨(M.wideR0 0 rfl), trivial⟩)) (fun v_ w_ ⟨e_, m⟩ => ⟨(), e_, (M.leaveW0 m).sel (L' := [fl A, blk b5 (.cells #[(Value.slice none 0 0), (Value.int .u64 0)] 30), blk b3 (.cells #[rv, (Value.int .u64 rf)] 30)]) [0, 1, 2] rfl (by decide), fun b hb => M.keptW0 m (fl A) (List.mem_cons_self ..) b hb⟩)) (fun w => CallsF.func Try.en19 rfl) (fun jx v hp hin => ?_)
  replace hp := hp.symm; subst hp
  clear hin
  change TW _ _ _ _ _ _ _ _ (MemA _ _ _ [blk b5 (.cells #[(Value.slice none 0 0), (Value.int .u64 0)] 30), blk b3 (.cells #[rv, (Value.int .u64 rf)] 30)] [SlAt 3 rv rs.length (rs.flatMap pinE)])
  refine TW.pure (v := (Value.pointer (some ⟨b3, 1, none⟩))) rfl (by decide) (by decide) rfl (fun w => (Step.pure (by kernel_rfl))) ?_
  refine TW.read (v := (Value.int .u64 rf)) rfl (by decide) (by decide) rfl (fun A w M => (Step.load1 Try.sc23 rfl ((M.cell 2 rfl 1).trans rfl))) ?_
  refine TW.pure (v := (Value.bool (decide ((minE now rs : Int) < (rf : Int))))) rfl (by decide) (by decide) rfl (fun w => (Step.pure (by kernel_rfl))) ?_
  refine TW.done (fun w7 M => ?_)
  refine W.cond (t := decide ((minE now rs : Int) < (rf : Int))) rfl (fun h8 => ?_) (fun h8 => ?_)
  ·
    have h8p := of_decide_eq_true h8
    refine W.seq' ?_
    refine W.region rfl ?_
    refine WL.step (v := (Value.agg #[rv, (Value.int .u64 rf)])) rfl (Step.loadN Try.ag30 rfl (M.blk 1 rfl) (Nat.le_of_ble_eq_true rfl) rfl) ?_
    refine WL.store (v := (Value.agg #[rv, (Value.int .u64 rf)])) (cs := [rv, (Value.int .u64 rf)]) (c' := #[rv, (Value.int .u64 rf)]) M 0 rfl rfl Try.el30.sized rfl rfl rfl rfl (Nat.le_of_ble_eq_true rfl) (cel_cons (IsSl.cel sl2) (cel_cons rfl cel_nil)) rfl rfl (fun w9 M => ?_)
    refine WL.nil ?_
    refine W.ret ?_
    refine ⟨.inl rfl, (Value.agg #[rv, (Value.int .u64 rf)]), ?_, ?_⟩
    · exact ⟨rfl, (Res.r1 (RV.cellN Try.ag30 rfl (M.blk 0 rfl) rfl))⟩
    refine ⟨rv, ?_, M.close [] rfl (by decide) ⟨(M.shr' 0 rfl), trivial⟩⟩
    have hmx_ : max (rf : Int) (minE now rs : Int) = rf := by omega
    rw [hmx_]
  ·
    have h8p := of_decide_eq_false h8
    refine W.skip ?_
    refine W.seq' ?_
    refine W.drawn M [0, 1, 2, 3, 4, 5, 6] [4, 6] [] [blk b3 (.cells #[rv, (Value.int .u64 rf)] 30)] [SlAt 3 rv rs.length (rs.flatMap pinE)] (List.Sublist.cons _ (List.Sublist.cons_cons _ List.Sublist.slnil)) (fun _ h => h) Try.mixed (by kernel_rfl) ?_
    refine TW.pure (v := (Value.pointer (some ⟨b3, 0, none⟩))) rfl (by decide) (by decide) rfl (fun w => (Step.pure (by kernel_rfl))) ?_
    refine TW.read (v := rv) rfl (by decide) (by decide) rfl (fun A w M => (Step.load1 Try.sc28 rfl ((M.cell 1 rfl 0).trans rfl))) ?_
    refine TW.read (v := (Value.agg #[rv, (Value.int .u64 rf)])) rfl (by decide) (by decide) rfl (fun A w M => (Step.loadN Try.ag30 rfl (M.blk 1 rfl) (Nat.le_of_ble_eq_true rfl) rfl)) ?_
    refine TW.pure (v := (Value.int .u64 now)) rfl (by decide) (by decide) rfl (fun w => (Step.move rfl)) ?_
    refine TW.callX (ι := Unit) (fun jx v_ => v_ = (Value.int .u64 (minE now rs))) (fun jx => [blk b5 (.cells #[(Value.slice none 0 0), (Value.int .u64 0)] 30), blk b3 (.cells #[rv, (Value.int .u64 rf)] 30)]) (fun jx => [SlAt 3 rv rs.length (rs.flatMap pinE)]) rfl (by decide) rfl (fun jx => (List.Sublist.cons _ (List.Sublist.cons_cons _ List.Sublist.slnil))) (fun jx r h => h) (fun A w M => Rets.mono (ref23_least rv rs rf now (M.enterW0 ⟨(M.wideR0 0 rfl), trivial⟩)) (fun v_ w_ ⟨e_, m⟩ => ⟨(), e_, (M.leaveW0 m).sel (L' := [fl A, blk b5 (.cells #[(Value.slice none 0 0), (Value.int .u64 0)] 30), blk b3 (.cells #[rv, (Value.int .u64 rf)] 30)]) [0, 1, 2] rfl (by decide), fun b hb => M.keptW0 m (fl A) (List.mem_cons_self ..) b hb⟩)) (fun w => CallsF.func Try.en19 rfl) (fun jx v hp hin => ?_)
    replace hp := hp.symm; subst hp
    clear hin
    change TW _ _ _ _ _ _ _ _ (MemA _ _ _ [blk b5 (.cells #[(Value.slice none 0 0), (Value.int .u64 0)] 30), blk b3 (.cells #[rv, (Value.int .u64 rf)] 30)] [SlAt 3 rv rs.length (rs.flatMap pinE)])
    refine TW.pure (v := (Value.agg #[rv, (Value.int .u64 (minE now rs))])) rfl (by decide) (by decide) rfl (fun w => (by obtain ⟨_, _, _, e⟩ := sl2; subst e; exact (Step.pure (by kernel_rfl)))) ?_
    refine TW.store (v := (Value.agg #[rv, (Value.int .u64 (minE now rs))])) (cs := [rv, (Value.int .u64 (minE now rs))]) (c' := #[rv, (Value.int .u64 (minE now rs))]) 0 rfl rfl (by decide) rfl Try.el30.sized rfl rfl rfl rfl (Nat.le_of_ble_eq_true rfl) (cel_cons (IsSl.cel sl2) (cel_cons rfl cel_nil)) rfl rfl (List.Sublist.cons _ (List.Sublist.cons_cons _ List.Sublist.slnil)) (fun r h => h) ?_
    refine TW.done (fun w12 M => ?_)
    refine W.ret ?_
    refine ⟨.inl rfl, (Value.agg #[rv, (Value.int .u64 (minE now rs))]), ?_, ?_⟩
    · exact ⟨rfl, (Res.r1 (RV.cellN Try.ag30 rfl (M.blk 0 rfl) rfl))⟩
    refine ⟨rv, ?_, M.close [] rfl (by decide) ⟨(M.shr' 0 rfl), trivial⟩⟩
    have hmx_ : max (rf : Int) (minE now rs : Int) = minE now rs := by omega
    rw [hmx_]

theorem ref23_read {G : Nat → Prop} {w : World} (rv : Value) (rs : List PinH) (rf : Int) (at_ : Int) (now : Int)  (hn0 : 0 ≤ now) (M : Mem G (fun _ => False) w [] [SlAt 3 rv rs.length (rs.flatMap pinE)] w) : Rets Try.prog 23 #[(Value.agg #[rv, (Value.int .u64 rf)]), (Value.int .u64 at_), (Value.int .u64 now)] w fun r w' => r = (Value.tuple #[(Value.int .u64 ((readV rf at_ now).1)), (Value.int .i64 ((readV rf at_ now).2))]) ∧ Mem G (fun _ => False) w [] [] w' := by
  refine Rets.enter 19 _ Try.func23 rfl Try.ntmps23 Try.results23 (by simp) ?_
  have hle1 := SlAt.le' (M.rep 0 rfl)
  have sl2 : IsSl rv := SlAt.isSl (Mem.rep M 0 rfl)
  refine W.seq' ?_
  refine W.region rfl ?_
  refine WL.box (v := (Value.agg #[rv, (Value.int .u64 rf)])) (c := #[rv, (Value.int .u64 rf)]) M rfl rfl rfl (fun b3 w4 hb3 M => ?_)
  refine WL.step (v := (Value.int .u64 0)) rfl (Step.assign rfl) ?_
  refine WL.step (v := (Value.int .i64 0)) rfl (Step.assign rfl) ?_
  refine WL.nil ?_
  refine W.seq' ?_
  refine W.seq' ?_
  refine W.region rfl ?_
  refine WL.step (v := (Value.int .u64 at_)) rfl (Step.move rfl) ?_
  refine WL.step (v := (Value.int .u64 now)) rfl (Step.move rfl) ?_
  refine WL.step (v := (Value.bool (decide ((at_ : Int) > (now : Int))))) rfl (Step.pure (by kernel_rfl)) ?_
  refine WL.nil ?_
  refine W.cond (t := decide ((at_ : Int) > (now : Int))) rfl (fun h5 => ?_) (fun h5 => ?_)
  ·
    have h5p := of_decide_eq_true h5
    refine W.seq' ?_
    refine W.region rfl ?_
    refine WL.step (v := (Value.int .u64 0)) rfl (Step.assign rfl) ?_
    refine WL.step (v := (Value.int .i64 231)) rfl (Step.assign rfl) ?_
    refine WL.nil ?_
    refine W.ret ?_
    refine ⟨.inl rfl, (Value.tuple #[(Value.int .u64 0), (Value.int .i64 231)]), ?_, ?_⟩
    · exact ⟨rfl, (Res.r2 (show RV _ _ _ (.tmp 6) (Value.int .u64 0) from by exact rfl) (show RV _ _ _ (.tmp 7) (Value.int .i64 231) from by exact rfl))⟩
    refine ⟨?_, M.close [] rfl (by decide) trivial⟩
    unfold readV
    first | rfl | (simp [h5p]; done) | ((repeat split) <;> first | rfl | omega | simp_all | (exfalso; omega))
  ·
    have h5p := of_decide_eq_false h5
    refine W.skip ?_
    refine W.seq' ?_
    refine W.seq' ?_
    refine W.region rfl ?_
    refine WL.step (v := (Value.int .u64 at_)) rfl (Step.move rfl) ?_
    refine WL.step (v := (Value.bool ((at_ : Int) == (0 : Int)))) rfl (Step.pure (by kernel_rfl)) ?_
    refine WL.nil ?_
    refine W.cond (t := (at_ : Int) == (0 : Int)) rfl (fun h6 => ?_) (fun h6 => ?_)
    ·
      have h6p : (at_ : Int) = (0 : Int) := by simpa using h6
      refine W.region rfl ?_
      refine WL.step (v := (Value.int .u64 now)) rfl (Step.move rfl) ?_
      refine WL.step (v := (Value.int .u64 now)) rfl (Step.assign rfl) ?_
      refine WL.nil ?_
      refine W.seq' ?_
      refine W.seq' ?_
      refine W.region rfl ?_
      refine WL.step (v := (Value.int .u64 now)) rfl (Step.move rfl) ?_
      refine WL.step (v := (Value.pointer (some ⟨b3, 1, none⟩))) rfl (Step.pure (by kernel_rfl)) ?_
      refine WL.step (v := (Value.int .u64 rf)) rfl (Step.load1 Try.sc23 rfl ((M.cell 0 rfl 1).trans rfl)) ?_
      refine WL.step (v := (Value.bool (decide ((now : Int) < (rf : Int))))) rfl (Step.pure (by kernel_rfl)) ?_
      refine WL.nil ?_
      refine W.cond (t := decide ((now : Int) < (rf : Int))) rfl (fun h7 => ?_) (fun h7 => ?_)
      ·
        have h7p := of_decide_eq_true h7
        refine W.seq' ?_
        refine W.region rfl ?_
        refine WL.step (v := (Value.int .u64 0)) rfl (Step.assign rfl) ?_
        refine WL.step (v := (Value.int .i64 230)) rfl (Step.assign rfl) ?_
        refine WL.nil ?_
        refine W.ret ?_
        refine ⟨.inl rfl, (Value.tuple #[(Value.int .u64 0), (Value.int .i64 230)]), ?_, ?_⟩
        · exact ⟨rfl, (Res.r2 (show RV _ _ _ (.tmp 6) (Value.int .u64 0) from by exact rfl) (show RV _ _ _ (.tmp 7) (Value.int .i64 230) from by exact rfl))⟩
        refine ⟨?_, M.close [] rfl (by decide) trivial⟩
        unfold readV
        first | rfl | (simp [h5p, h6p, h7p]; done) | ((repeat split) <;> first | rfl | omega | simp_all | (exfalso; omega))
      ·
        have h7p := of_decide_eq_false h7
        refine W.skip ?_
        refine W.seq' ?_
        refine W.region rfl ?_
        refine WL.step (v := (Value.int .u64 now)) rfl (Step.move rfl) ?_
        refine WL.step (v := (Value.int .u64 now)) rfl (Step.assign rfl) ?_
        refine WL.step (v := (Value.int .i64 0)) rfl (Step.assign rfl) ?_
        refine WL.nil ?_
        refine W.ret ?_
        refine ⟨.inl rfl, (Value.tuple #[(Value.int .u64 now), (Value.int .i64 0)]), ?_, ?_⟩
        · exact ⟨rfl, (Res.r2 (show RV _ _ _ (.tmp 6) (Value.int .u64 now) from by exact rfl) (show RV _ _ _ (.tmp 7) (Value.int .i64 0) from by exact rfl))⟩
        refine ⟨?_, M.close [] rfl (by decide) trivial⟩
        unfold readV
        first | rfl | (simp [h5p, h6p, h7p]; done) | ((repeat split) <;> first | rfl | omega | simp_all | (exfalso; omega))
    ·
      have h6p : ¬ (at_ : Int) = (0 : Int) := by simpa using h6
      refine W.skip ?_
      refine W.seq' ?_
      refine W.seq' ?_
      refine W.region rfl ?_
      refine WL.step (v := (Value.int .u64 at_)) rfl (Step.move rfl) ?_
      refine WL.step (v := (Value.pointer (some ⟨b3, 1, none⟩))) rfl (Step.pure (by kernel_rfl)) ?_
      refine WL.step (v := (Value.int .u64 rf)) rfl (Step.load1 Try.sc23 rfl ((M.cell 0 rfl 1).trans rfl)) ?_
      refine WL.step (v := (Value.bool (decide ((at_ : Int) < (rf : Int))))) rfl (Step.pure (by kernel_rfl)) ?_
      refine WL.nil ?_
      refine W.cond (t := decide ((at_ : Int) < (rf : Int))) rfl (fun h8 => ?_) (fun h8 => ?_)
      ·
        have h8p := of_decide_eq_true h8
        refine W.seq' ?_
        refine W.region rfl ?_
        refine WL.step (v := (Value.int .u64 0)) rfl (Step.assign rfl) ?_
        refine WL.step (v := (Value.int .i64 230)) rfl (Step.assign rfl) ?_
        refine WL.nil ?_
        refine W.ret ?_
        refine ⟨.inl rfl, (Value.tuple #[(Value.int .u64 0), (Value.int .i64 230)]), ?_, ?_⟩
        · exact ⟨rfl, (Res.r2 (show RV _ _ _ (.tmp 6) (Value.int .u64 0) from by exact rfl) (show RV _ _ _ (.tmp 7) (Value.int .i64 230) from by exact rfl))⟩
        refine ⟨?_, M.close [] rfl (by decide) trivial⟩
        unfold readV
        first | rfl | (simp [h5p, h6p, h8p]; done) | ((repeat split) <;> first | rfl | omega | simp_all | (exfalso; omega))
      ·
        have h8p := of_decide_eq_false h8
        refine W.skip ?_
        refine W.seq' ?_
        refine W.region rfl ?_
        refine WL.step (v := (Value.int .u64 at_)) rfl (Step.move rfl) ?_
        refine WL.step (v := (Value.int .u64 at_)) rfl (Step.assign rfl) ?_
        refine WL.step (v := (Value.int .i64 0)) rfl (Step.assign rfl) ?_
        refine WL.nil ?_
        refine W.ret ?_
        refine ⟨.inl rfl, (Value.tuple #[(Value.int .u64 at_), (Value.int .i64 0)]), ?_, ?_⟩
        · exact ⟨rfl, (Res.r2 (show RV _ _ _ (.tmp 6) (Value.int .u64 at_) from by exact rfl) (show RV _ _ _ (.tmp 7) (Value.int .i64 0) from by exact rfl))⟩
        refine ⟨?_, M.close [] rfl (by decide) trivial⟩
        unfold readV
        first | rfl | (simp [h5p, h6p, h8p]; done) | ((repeat split) <;> first | rfl | omega | simp_all | (exfalso; omega))
end Go.Proofs
