/- Walks. -/
import Derived.Test.YtlehkjkpgmkbiaaTrG7
import Derived.Test.YtlehkjkpgmkbiaaTrAggS
set_option maxRecDepth 100000
set_option linter.all false
namespace Go.Proofs
open Go Tp
theorem Try.un9 : Und Try.prog 9 (.string) := by unfold Und; kernel_rfl
theorem Try.el113 : Elem Try.prog 113 (Value.agg #[(Value.string (⟨#[]⟩)), (Value.int .i64 0), (Value.int .i64 0)]) 3 32 := Elem.mk (by kernel_rfl)
theorem Try.en58 : Enters Try.prog 58 := fun _ _ => by kernel_rfl
theorem Try.en60 : Enters Try.prog 60 := fun _ _ => by kernel_rfl
theorem Try.en62 : Enters Try.prog 62 := fun _ _ => by kernel_rfl
theorem Try.en63 : Enters Try.prog 63 := fun _ _ => by kernel_rfl

theorem law5_few {G : Nat → Prop} {w : World} (v : Value) (l : List Row5)   (M : Mem G (fun _ => False) w [] [SlAt 7 v l.length (l.flatMap rowE)] w) : Rets Try.prog 58 #[v] w fun r w' => r = (Value.bool (fewB l)) ∧ Mem G (fun _ => False) w [] [] w' := by
  refine Rets.enter 25 _ Try.func58 rfl Try.ntmps58 Try.results58 (by simp) ?_
  have hle1 := SlAt.le' (M.rep 0 rfl)
  have sl2 : IsSl v := SlAt.isSl (Mem.rep M 0 rfl)
  refine W.seq' ?_
  refine W.region rfl ?_
  refine WL.step (v := (Value.bool false)) rfl (Step.assign rfl) ?_
  refine WL.nil ?_
  refine W.seq' ?_
  refine W.seq' ?_
  refine W.region rfl ?_
  refine WL.step (v := (Value.int .i64 0)) rfl (Step.assign rfl) ?_
  refine WL.nil ?_
  refine W.block ?_
  refine W.loop (fun kk ρ w' => ∃ (i_ : Nat), ((i_ ≤ l.length) ∧ ((l.take i_).all keyOk = true) ∧ kk = l.length - i_) ∧ ρ.has [(0, v), (3, (Value.int .i64 ↑i_))] ∧ Mem G (fun _ => False) w [] [SlAt 7 v l.length (l.flatMap rowE)]  w') _ ⟨0, ⟨(Nat.zero_le _), rfl, rfl⟩, ⟨rfl, rfl, rfl, rfl⟩, M⟩ ?_
  rintro _ ρ4 w3 ⟨i_, ⟨hi5, hi6, rfl⟩, hρ, M⟩
  obtain ⟨ρ4, rfl⟩ := hρ.know
  clear hρ
  refine W.seq' ?_
  refine W.seq' ?_
  refine W.region rfl ?_
  refine WL.step (v := (Value.int .i64 ↑i_)) rfl (Step.move rfl) ?_
  refine WL.step (v := v) rfl (Step.move rfl) ?_
  refine WL.step (v := (Value.int .i64 ↑l.length)) rfl (Step.lenSl Try.un105 rfl (M.rep 0 rfl)) ?_
  refine WL.step (v := (Value.bool (decide ((↑i_ : Int) < (↑l.length : Int))))) rfl (Step.pure (by kernel_rfl)) ?_
  refine WL.step (v := (Value.bool (decide ((↑i_ : Int) < (↑l.length : Int))))) rfl (Step.move rfl) ?_
  rcases Bool.eq_false_or_eq_true (decide ((↑i_ : Int) < (↑l.length : Int))) with h7 | h7
  ·
    have h7p := of_decide_eq_true h7
    rw [h7]
    refine WL.step (v := (Value.int .i64 ↑i_)) rfl (Step.move rfl) ?_
    refine WL.step (v := (Value.bool (decide ((↑i_ : Int) < (21 : Int))))) rfl (Step.pure (by kernel_rfl)) ?_
    refine WL.step (v := (Value.bool (decide ((↑i_ : Int) < (21 : Int))))) rfl (Step.pick (t := true) rfl rfl) ?_
    refine WL.nil ?_
    refine W.cond (t := decide ((↑i_ : Int) < (21 : Int))) rfl (fun h8 => ?_) (fun h8 => ?_)
    ·
      have h8p := of_decide_eq_true h8
      refine W.skip ?_
      refine W.seq' ?_
      refine W.block ?_
      refine W.seq' ?_
      refine W.region rfl ?_
      refine WL.step (v := v) rfl (Step.move rfl) ?_
      refine WL.step (v := (Value.int .i64 ↑i_)) rfl (Step.move rfl) ?_
      obtain ⟨cap10, hb9⟩ := SlAt.base (M.rep 0 rfl) (by omega)
      obtain ⟨x11, hx11⟩ := elem_of_lt (xs := l) (i := i_) (by omega)
      refine WL.step (v := (Value.pointer (some ⟨(sBlk v), sOff v + i_ * 7, none⟩))) rfl (Step.indexAddr (i := i_) (Try.un105).run Try.el115.sized rfl rfl (by omega) hb9 (by omega)) ?_
      refine WL.step (v := (Value.pointer (some ⟨(sBlk v), sOff v + i_ * 7, none⟩))) rfl (Step.pure (by kernel_rfl)) ?_
      refine WL.step (v := (Value.pointer (some ⟨(sBlk v), sOff v + i_ * 7, none⟩))) rfl (Step.pure (by kernel_rfl)) ?_
      refine WL.step (v := (Value.string x11.pane.key)) rfl (Step.loadE (k := 0) Try.sc9 (flat_ec (M.rep 0 rfl) hx11 rowE_len) (by decide) rfl rfl) ?_
      refine WL.step (v := (Value.int .i64 ↑x11.pane.key.size)) rfl (Step.lenStr Try.un9 rfl) ?_
      refine WL.step (v := (Value.bool (decide ((↑x11.pane.key.size : Int) > (100 : Int))))) rfl (Step.pure (by kernel_rfl)) ?_
      refine WL.nil ?_
      refine W.cond (t := decide ((↑x11.pane.key.size : Int) > (100 : Int))) rfl (fun h12 => ?_) (fun h12 => ?_)
      ·
        have h12p := of_decide_eq_true h12
        refine W.seq' ?_
        refine W.region rfl ?_
        refine WL.step (v := (Value.bool false)) rfl (Step.assign rfl) ?_
        refine WL.nil ?_
        refine W.ret ?_
        refine ⟨.inl rfl, (Value.bool false), ?_, ?_⟩
        · exact ⟨rfl, (Res.r1 (show RV _ _ _ (.tmp 2) (Value.bool false) from by exact rfl))⟩
        refine ⟨?_, M.close [] rfl (by decide) trivial⟩
        refine congrArg Value.bool ?_
        exact few_no hx11 (by omega) h12p
      ·
        have h12p := of_decide_eq_false h12
        refine W.skip ?_
        refine W.region rfl ?_
        refine WL.step (v := (Value.int .i64 ↑i_)) rfl (Step.move rfl) ?_
        refine WL.step (v := (Value.int .i64 (↑i_ + 1))) rfl (Step.add rfl rfl (wrap_i64 (by omega))) ?_
        refine WL.step (v := (Value.int .i64 (↑i_ + 1))) rfl (Step.assign rfl) ?_
        refine WL.nil ?_
        exact ⟨_, (by omega), i_ + 1, ⟨(by omega), (few_step hi6 hx11 h12p), rfl⟩, ⟨rfl, rfl, rfl, rfl⟩, M⟩
    ·
      have h8p := of_decide_eq_false h8
      refine W.exit ?_
      refine thn_exit ?_
      refine thn_exit ?_
      refine inBlk_hit ?_
      refine W.seq' ?_
      refine W.region rfl ?_
      refine WL.step (v := v) rfl (Step.move rfl) ?_
      refine WL.step (v := (Value.int .i64 ↑l.length)) rfl (Step.lenSl Try.un105 rfl (M.rep 0 rfl)) ?_
      refine WL.step (v := (Value.bool (decide ((↑l.length : Int) ≤ (20 : Int))))) rfl (Step.pure (by kernel_rfl)) ?_
      refine WL.step (v := (Value.bool (decide ((↑l.length : Int) ≤ (20 : Int))))) rfl (Step.assign rfl) ?_
      refine WL.nil ?_
      refine W.ret ?_
      refine ⟨.inl rfl, (Value.bool (decide ((↑l.length : Int) ≤ (20 : Int)))), ?_, ?_⟩
      · exact ⟨rfl, (Res.r1 (show RV _ _ _ (.tmp 2) (Value.bool (decide ((↑l.length : Int) ≤ (20 : Int)))) from by exact rfl))⟩
      refine ⟨?_, M.close [] rfl (by decide) trivial⟩
      refine congrArg Value.bool ?_
      exact few_yes hi6 (by omega)
  ·
    have h7p := of_decide_eq_false h7
    rw [h7]
    refine WL.pass rfl ?_
    refine WL.pass rfl ?_
    refine WL.step (v := (Value.bool false)) rfl (Step.pick (t := false) rfl rfl) ?_
    refine WL.nil ?_
    refine W.cond (t := false) rfl (fun h => by cases h) (fun _ => ?_)
    refine W.exit ?_
    refine thn_exit ?_
    refine thn_exit ?_
    refine inBlk_hit ?_
    refine W.seq' ?_
    refine W.region rfl ?_
    refine WL.step (v := v) rfl (Step.move rfl) ?_
    refine WL.step (v := (Value.int .i64 ↑l.length)) rfl (Step.lenSl Try.un105 rfl (M.rep 0 rfl)) ?_
    refine WL.step (v := (Value.bool (decide ((↑l.length : Int) ≤ (20 : Int))))) rfl (Step.pure (by kernel_rfl)) ?_
    refine WL.step (v := (Value.bool (decide ((↑l.length : Int) ≤ (20 : Int))))) rfl (Step.assign rfl) ?_
    refine WL.nil ?_
    refine W.ret ?_
    refine ⟨.inl rfl, (Value.bool (decide ((↑l.length : Int) ≤ (20 : Int)))), ?_, ?_⟩
    · exact ⟨rfl, (Res.r1 (show RV _ _ _ (.tmp 2) (Value.bool (decide ((↑l.length : Int) ≤ (20 : Int)))) from by exact rfl))⟩
    refine ⟨?_, M.close [] rfl (by decide) trivial⟩
    refine congrArg Value.bool ?_
    exact few_yes hi6 (by omega)

theorem law5_sorts {G : Nat → Prop} {w : World} (lv : Value) (l : List Row5) (ov : Value) (other : List Row5)   (M : Mem G (fun _ => False) w [] [SlAt 7 lv l.length (l.flatMap rowE), SlAt 7 ov other.length (other.flatMap rowE)] w) : Rets Try.prog 12 #[lv, ov] w fun r w' => r = (Value.bool true) ∧ Mem G (fun _ => False) w [] [] w' := by
  refine Rets.enter 131 _ Try.func12 rfl Try.ntmps12 Try.results12 (by simp) ?_
  have hle1 := SlAt.le' (M.rep 0 rfl)
  have hle2 := SlAt.le' (M.rep 1 rfl)
  have sl3 : IsSl lv := SlAt.isSl (Mem.rep M 0 rfl)
  have sl4 : IsSl ov := SlAt.isSl (Mem.rep M 1 rfl)
  refine W.seq' ?_
  refine W.region rfl ?_
  refine WL.step (v := (Value.bool false)) rfl (Step.assign rfl) ?_
  refine WL.nil ?_
  refine W.seq' ?_
  refine W.seq' ?_
  refine W.region rfl ?_
  refine WL.step (v := lv) rfl (Step.move rfl) ?_
  refine WL.callX rfl (law5_few lv l (M.enterW0 ⟨(M.wideR0 0 rfl), trivial⟩)) (CallsF.func Try.en58 rfl) ?_
  rintro _ w5 ⟨rfl, m⟩
  replace M := M.leaveW0 m
  clear m
  replace M : Mem _ _ _ [] [SlAt 7 lv l.length (l.flatMap rowE), SlAt 7 ov other.length (other.flatMap rowE)] _ := M
  refine WL.step (v := (Value.bool (!(fewB l)))) rfl (Step.pure (by kernel_rfl)) ?_
  refine WL.step (v := (Value.bool (!(fewB l)))) rfl (Step.move rfl) ?_
  rcases Bool.eq_false_or_eq_true (!(fewB l)) with h6 | h6
  ·
    rw [h6]
    refine WL.pass rfl ?_
    refine WL.pass rfl ?_
    refine WL.pass rfl ?_
    refine WL.step (v := (Value.bool true)) rfl (Step.pick (t := true) rfl rfl) ?_
    refine WL.nil ?_
    refine W.cond (t := true) rfl (fun _ => ?_) (fun h => by cases h)
    refine W.seq' ?_
    refine W.region rfl ?_
    refine WL.callX rfl (law5_works  (M.enterW0 trivial)) (CallsF.func Try.en59 rfl) ?_
    rintro _ w7 ⟨rfl, m⟩
    replace M := M.leaveW0 m
    clear m
    replace M : Mem _ _ _ [] [SlAt 7 lv l.length (l.flatMap rowE), SlAt 7 ov other.length (other.flatMap rowE)] _ := M
    refine WL.step (v := (Value.bool true)) rfl (Step.assign rfl) ?_
    refine WL.nil ?_
    refine W.ret ?_
    refine ⟨.inl rfl, (Value.bool true), ?_, ?_⟩
    · exact ⟨rfl, (Res.r1 (show RV _ _ _ (.tmp 4) (Value.bool true) from by exact rfl))⟩
    refine ⟨?_, M.close [] rfl (by decide) trivial⟩
    rfl
  ·
    have hfl_l := few_len (l := l) (by simpa using h6)
    rw [h6]
    refine WL.step (v := ov) rfl (Step.move rfl) ?_
    refine WL.callX rfl (law5_few ov other (M.enterW0 ⟨(M.wideR0 1 rfl), trivial⟩)) (CallsF.func Try.en58 rfl) ?_
    rintro _ w8 ⟨rfl, m⟩
    replace M := M.leaveW0 m
    clear m
    replace M : Mem _ _ _ [] [SlAt 7 lv l.length (l.flatMap rowE), SlAt 7 ov other.length (other.flatMap rowE)] _ := M
    refine WL.step (v := (Value.bool (!(fewB other)))) rfl (Step.pure (by kernel_rfl)) ?_
    refine WL.step (v := (Value.bool (!(fewB other)))) rfl (Step.pick (t := false) rfl rfl) ?_
    refine WL.nil ?_
    refine W.cond (t := !(fewB other)) rfl (fun h9 => ?_) (fun h9 => ?_)
    ·
      refine W.seq' ?_
      refine W.region rfl ?_
      refine WL.callX rfl (law5_works  (M.enterW0 trivial)) (CallsF.func Try.en59 rfl) ?_
      rintro _ w10 ⟨rfl, m⟩
      replace M := M.leaveW0 m
      clear m
      replace M : Mem _ _ _ [] [SlAt 7 lv l.length (l.flatMap rowE), SlAt 7 ov other.length (other.flatMap rowE)] _ := M
      refine WL.step (v := (Value.bool true)) rfl (Step.assign rfl) ?_
      refine WL.nil ?_
      refine W.ret ?_
      refine ⟨.inl rfl, (Value.bool true), ?_, ?_⟩
      · exact ⟨rfl, (Res.r1 (show RV _ _ _ (.tmp 4) (Value.bool true) from by exact rfl))⟩
      refine ⟨?_, M.close [] rfl (by decide) trivial⟩
      rfl
    ·
      have hfl_other := few_len (l := other) (by simpa using h9)
      refine W.skip ?_
      refine W.seq' ?_
      refine W.region rfl ?_
      refine WL.step (v := lv) rfl (Step.move rfl) ?_
      refine WL.callX rfl (law5_rows lv l (by first | omega | assumption | decide | (rw [sortV_len]; omega) | (simp only [List.length_nil, List.length_cons, List.length_take, List.length_drop]; omega)) (M.enterW0 ⟨(M.wideR0 0 rfl), trivial⟩)) (CallsF.func Try.en60 rfl) ?_
      rintro v11 w12 ⟨_, rfl, m⟩
      replace M := M.leaveW0 m
      clear m
      replace M : Mem _ _ _ [own 169 7 v11 l.length (l.flatMap rowE)] [SlAt 7 lv l.length (l.flatMap rowE), SlAt 7 ov other.length (other.flatMap rowE)] _ := M
      have sl13 : IsSl v11 := SlAt.isSl (own_slAt (Mem.chunk M 0 rfl).inv)
      have hle14 := SlAt.le' (own_slAt (Mem.chunk M 0 rfl).inv)
      refine WL.step (v := v11) rfl (Step.assign rfl) ?_
      refine WL.nil ?_
      refine W.seq' ?_
      refine W.seq' ?_
      refine W.region rfl ?_
      refine WL.step (v := (Value.int .i64 0)) rfl (Step.assign rfl) ?_
      refine WL.nil ?_
      refine W.block ?_
      refine W.loop (fun kk ρ w' => ∃ (t_ : Nat), ((t_ ≤ 2) ∧ kk = 2 - t_) ∧ ρ.has [(0, lv), (1, ov), (5, v11), (6, (Value.int .i64 ↑t_))] ∧ Mem G (fun _ => False) w [own 169 7 v11 l.length (l.flatMap rowE)] [SlAt 7 lv l.length (l.flatMap rowE), SlAt 7 ov other.length (other.flatMap rowE)]  w') _ ⟨0, ⟨(by omega), rfl⟩, ⟨rfl, rfl, rfl, rfl, rfl, rfl⟩, M⟩ ?_
      rintro _ ρ16 w15 ⟨t_, ⟨hi17, rfl⟩, hρ, M⟩
      obtain ⟨ρ16, rfl⟩ := hρ.know
      clear hρ
      refine W.seq' ?_
      refine W.seq' ?_
      refine W.region rfl ?_
      refine WL.step (v := (Value.int .i64 ↑t_)) rfl (Step.move rfl) ?_
      refine WL.step (v := (Value.bool (decide ((↑t_ : Int) < (2 : Int))))) rfl (Step.pure (by kernel_rfl)) ?_
      refine WL.nil ?_
      refine W.cond (t := decide ((↑t_ : Int) < (2 : Int))) rfl (fun h18 => ?_) (fun h18 => ?_)
      ·
        have h18p := of_decide_eq_true h18
        refine W.skip ?_
        refine W.seq' ?_
        refine W.block ?_
        refine W.seq' ?_
        refine W.region rfl ?_
        refine WL.step (v := lv) rfl (Step.move rfl) ?_
        refine WL.callX rfl (agg_sort false lv l (by first | omega | assumption | decide) (M.enterW0 ⟨(M.wideR0 0 rfl), trivial⟩)) (CallsF.func Try.en61 rfl) ?_
        rintro v19 w20 ⟨_, rfl, m⟩
        replace M := M.leaveW0 m
        clear m
        replace M : Mem _ _ _ [own 115 7 v19 ((sortV (cmpRow false) l).length) ((sortV (cmpRow false) l).flatMap rowE), own 169 7 v11 l.length (l.flatMap rowE)] [SlAt 7 lv l.length (l.flatMap rowE), SlAt 7 ov other.length (other.flatMap rowE)] _ := M
        have sl21 : IsSl v19 := SlAt.isSl (own_slAt (Mem.chunk M 0 rfl).inv)
        have hle22 := SlAt.le' (own_slAt (Mem.chunk M 0 rfl).inv)
        refine WL.step (v := lv) rfl (Step.move rfl) ?_
        refine WL.callX rfl (agg_sort true lv l (by first | omega | assumption | decide) (M.enterW0 ⟨(M.wideR0 0 rfl), trivial⟩)) (CallsF.func Try.en61 rfl) ?_
        rintro v23 w24 ⟨_, rfl, m⟩
        replace M := M.leaveW0 m
        clear m
        replace M : Mem _ _ _ [own 115 7 v23 ((sortV (cmpRow true) l).length) ((sortV (cmpRow true) l).flatMap rowE), own 115 7 v19 ((sortV (cmpRow false) l).length) ((sortV (cmpRow false) l).flatMap rowE), own 169 7 v11 l.length (l.flatMap rowE)] [SlAt 7 lv l.length (l.flatMap rowE), SlAt 7 ov other.length (other.flatMap rowE)] _ := M
        have sl25 : IsSl v23 := SlAt.isSl (own_slAt (Mem.chunk M 0 rfl).inv)
        have hle26 := SlAt.le' (own_slAt (Mem.chunk M 0 rfl).inv)
        refine WL.step (v := v19) rfl (Step.assign rfl) ?_
        refine WL.step (v := v23) rfl (Step.assign rfl) ?_
        refine WL.nil ?_
        refine W.seq' ?_
        refine W.seq' ?_
        refine W.region rfl ?_
        refine WL.step (v := v19) rfl (Step.move rfl) ?_
        refine WL.callX rfl (law5_rows v19 (sortV (cmpRow false) l) (by first | omega | assumption | decide | (rw [sortV_len]; omega) | (simp only [List.length_nil, List.length_cons, List.length_take, List.length_drop]; omega)) (M.enterW0 ⟨((M.wideC0 1 rfl).imp fun _ h => own_slAt h), trivial⟩)) (CallsF.func Try.en60 rfl) ?_
        rintro v27 w28 ⟨_, rfl, m⟩
        replace M := M.leaveW0 m
        clear m
        replace M : Mem _ _ _ [own 169 7 v27 ((sortV (cmpRow false) l).length) ((sortV (cmpRow false) l).flatMap rowE), own 115 7 v23 ((sortV (cmpRow true) l).length) ((sortV (cmpRow true) l).flatMap rowE), own 115 7 v19 ((sortV (cmpRow false) l).length) ((sortV (cmpRow false) l).flatMap rowE), own 169 7 v11 l.length (l.flatMap rowE)] [SlAt 7 lv l.length (l.flatMap rowE), SlAt 7 ov other.length (other.flatMap rowE)] _ := M
        have sl29 : IsSl v27 := SlAt.isSl (own_slAt (Mem.chunk M 0 rfl).inv)
        have hle30 := SlAt.le' (own_slAt (Mem.chunk M 0 rfl).inv)
        refine WL.step (v := v11) rfl (Step.move rfl) ?_
        refine WL.callX rfl (ref5_sort false v11 l (by first | omega | assumption | decide | (simp only [List.length_nil, List.length_cons, List.length_take, List.length_drop]; omega)) (M.enterW0 ⟨((M.wideC0 3 rfl).imp fun _ h => own_slAt h), trivial⟩)) (CallsF.func Try.en63 rfl) ?_
        rintro v31 w32 ⟨_, rfl, m⟩
        replace M := M.leaveW0 m
        clear m
        replace M : Mem _ _ _ [own 169 7 v31 ((sortV (cmpRow false) l).length) ((sortV (cmpRow false) l).flatMap rowE), own 169 7 v27 ((sortV (cmpRow false) l).length) ((sortV (cmpRow false) l).flatMap rowE), own 115 7 v23 ((sortV (cmpRow true) l).length) ((sortV (cmpRow true) l).flatMap rowE), own 115 7 v19 ((sortV (cmpRow false) l).length) ((sortV (cmpRow false) l).flatMap rowE), own 169 7 v11 l.length (l.flatMap rowE)] [SlAt 7 lv l.length (l.flatMap rowE), SlAt 7 ov other.length (other.flatMap rowE)] _ := M
        have sl33 : IsSl v31 := SlAt.isSl (own_slAt (Mem.chunk M 0 rfl).inv)
        have hle34 := SlAt.le' (own_slAt (Mem.chunk M 0 rfl).inv)
        refine WL.callX rfl (ref5_same v27 (sortV (cmpRow false) l) v31 (sortV (cmpRow false) l) (M.enterW0 ⟨((M.wideC0 1 rfl).imp fun _ h => own_slAt h), ((M.wideC0 0 rfl).imp fun _ h => own_slAt h), trivial⟩)) (CallsF.func Try.en62 rfl) ?_
        rintro _ w35 ⟨rfl, m⟩
        replace M := M.leaveW0 m
        clear m
        replace M : Mem _ _ _ [own 169 7 v31 ((sortV (cmpRow false) l).length) ((sortV (cmpRow false) l).flatMap rowE), own 169 7 v27 ((sortV (cmpRow false) l).length) ((sortV (cmpRow false) l).flatMap rowE), own 115 7 v23 ((sortV (cmpRow true) l).length) ((sortV (cmpRow true) l).flatMap rowE), own 115 7 v19 ((sortV (cmpRow false) l).length) ((sortV (cmpRow false) l).flatMap rowE), own 169 7 v11 l.length (l.flatMap rowE)] [SlAt 7 lv l.length (l.flatMap rowE), SlAt 7 ov other.length (other.flatMap rowE)] _ := M
        rw [(show (decide ((sortV (cmpRow false) l) = (sortV (cmpRow false) l))) = true by simp)]
        refine WL.step (v := (Value.bool false)) rfl (Step.pure (by kernel_rfl)) ?_
        refine WL.step (v := (Value.bool false)) rfl (Step.move rfl) ?_
        refine WL.step (v := v23) rfl (Step.move rfl) ?_
        refine WL.callX rfl (law5_rows v23 (sortV (cmpRow true) l) (by first | omega | assumption | decide | (rw [sortV_len]; omega) | (simp only [List.length_nil, List.length_cons, List.length_take, List.length_drop]; omega)) (M.enterW0 ⟨((M.wideC0 2 rfl).imp fun _ h => own_slAt h), trivial⟩)) (CallsF.func Try.en60 rfl) ?_
        rintro v36 w37 ⟨_, rfl, m⟩
        replace M := M.leaveW0 m
        clear m
        replace M : Mem _ _ _ [own 169 7 v36 ((sortV (cmpRow true) l).length) ((sortV (cmpRow true) l).flatMap rowE), own 169 7 v31 ((sortV (cmpRow false) l).length) ((sortV (cmpRow false) l).flatMap rowE), own 169 7 v27 ((sortV (cmpRow false) l).length) ((sortV (cmpRow false) l).flatMap rowE), own 115 7 v23 ((sortV (cmpRow true) l).length) ((sortV (cmpRow true) l).flatMap rowE), own 115 7 v19 ((sortV (cmpRow false) l).length) ((sortV (cmpRow false) l).flatMap rowE), own 169 7 v11 l.length (l.flatMap rowE)] [SlAt 7 lv l.length (l.flatMap rowE), SlAt 7 ov other.length (other.flatMap rowE)] _ := M
        have sl38 : IsSl v36 := SlAt.isSl (own_slAt (Mem.chunk M 0 rfl).inv)
        have hle39 := SlAt.le' (own_slAt (Mem.chunk M 0 rfl).inv)
        refine WL.step (v := v11) rfl (Step.move rfl) ?_
        refine WL.callX rfl (ref5_sort true v11 l (by first | omega | assumption | decide | (simp only [List.length_nil, List.length_cons, List.length_take, List.length_drop]; omega)) (M.enterW0 ⟨((M.wideC0 5 rfl).imp fun _ h => own_slAt h), trivial⟩)) (CallsF.func Try.en63 rfl) ?_
        rintro v40 w41 ⟨_, rfl, m⟩
        replace M := M.leaveW0 m
        clear m
        replace M : Mem _ _ _ [own 169 7 v40 ((sortV (cmpRow true) l).length) ((sortV (cmpRow true) l).flatMap rowE), own 169 7 v36 ((sortV (cmpRow true) l).length) ((sortV (cmpRow true) l).flatMap rowE), own 169 7 v31 ((sortV (cmpRow false) l).length) ((sortV (cmpRow false) l).flatMap rowE), own 169 7 v27 ((sortV (cmpRow false) l).length) ((sortV (cmpRow false) l).flatMap rowE), own 115 7 v23 ((sortV (cmpRow true) l).length) ((sortV (cmpRow true) l).flatMap rowE), own 115 7 v19 ((sortV (cmpRow false) l).length) ((sortV (cmpRow false) l).flatMap rowE), own 169 7 v11 l.length (l.flatMap rowE)] [SlAt 7 lv l.length (l.flatMap rowE), SlAt 7 ov other.length (other.flatMap rowE)] _ := M
        have sl42 : IsSl v40 := SlAt.isSl (own_slAt (Mem.chunk M 0 rfl).inv)
        have hle43 := SlAt.le' (own_slAt (Mem.chunk M 0 rfl).inv)
        refine WL.callX rfl (ref5_same v36 (sortV (cmpRow true) l) v40 (sortV (cmpRow true) l) (M.enterW0 ⟨((M.wideC0 1 rfl).imp fun _ h => own_slAt h), ((M.wideC0 0 rfl).imp fun _ h => own_slAt h), trivial⟩)) (CallsF.func Try.en62 rfl) ?_
        rintro _ w44 ⟨rfl, m⟩
        replace M := M.leaveW0 m
        clear m
        replace M : Mem _ _ _ [own 169 7 v40 ((sortV (cmpRow true) l).length) ((sortV (cmpRow true) l).flatMap rowE), own 169 7 v36 ((sortV (cmpRow true) l).length) ((sortV (cmpRow true) l).flatMap rowE), own 169 7 v31 ((sortV (cmpRow false) l).length) ((sortV (cmpRow false) l).flatMap rowE), own 169 7 v27 ((sortV (cmpRow false) l).length) ((sortV (cmpRow false) l).flatMap rowE), own 115 7 v23 ((sortV (cmpRow true) l).length) ((sortV (cmpRow true) l).flatMap rowE), own 115 7 v19 ((sortV (cmpRow false) l).length) ((sortV (cmpRow false) l).flatMap rowE), own 169 7 v11 l.length (l.flatMap rowE)] [SlAt 7 lv l.length (l.flatMap rowE), SlAt 7 ov other.length (other.flatMap rowE)] _ := M
        rw [(show (decide ((sortV (cmpRow true) l) = (sortV (cmpRow true) l))) = true by simp)]
        refine WL.step (v := (Value.bool false)) rfl (Step.pure (by kernel_rfl)) ?_
        refine WL.step (v := (Value.bool false)) rfl (Step.pick (t := false) rfl rfl) ?_
        refine WL.step (v := (Value.bool false)) rfl (Step.move rfl) ?_
        refine WL.step (v := lv) rfl (Step.move rfl) ?_
        refine WL.callX rfl (law5_rows lv l (by first | omega | assumption | decide | (rw [sortV_len]; omega) | (simp only [List.length_nil, List.length_cons, List.length_take, List.length_drop]; omega)) (M.enterW0 ⟨(M.wideR0 0 rfl), trivial⟩)) (CallsF.func Try.en60 rfl) ?_
        rintro v45 w46 ⟨_, rfl, m⟩
        replace M := M.leaveW0 m
        clear m
        replace M : Mem _ _ _ [own 169 7 v45 l.length (l.flatMap rowE), own 169 7 v40 ((sortV (cmpRow true) l).length) ((sortV (cmpRow true) l).flatMap rowE), own 169 7 v36 ((sortV (cmpRow true) l).length) ((sortV (cmpRow true) l).flatMap rowE), own 169 7 v31 ((sortV (cmpRow false) l).length) ((sortV (cmpRow false) l).flatMap rowE), own 169 7 v27 ((sortV (cmpRow false) l).length) ((sortV (cmpRow false) l).flatMap rowE), own 115 7 v23 ((sortV (cmpRow true) l).length) ((sortV (cmpRow true) l).flatMap rowE), own 115 7 v19 ((sortV (cmpRow false) l).length) ((sortV (cmpRow false) l).flatMap rowE), own 169 7 v11 l.length (l.flatMap rowE)] [SlAt 7 lv l.length (l.flatMap rowE), SlAt 7 ov other.length (other.flatMap rowE)] _ := M
        have sl47 : IsSl v45 := SlAt.isSl (own_slAt (Mem.chunk M 0 rfl).inv)
        have hle48 := SlAt.le' (own_slAt (Mem.chunk M 0 rfl).inv)
        refine WL.step (v := v11) rfl (Step.move rfl) ?_
        refine WL.callX rfl (ref5_same v45 l v11 l (M.enterW0 ⟨((M.wideC0 0 rfl).imp fun _ h => own_slAt h), ((M.wideC0 7 rfl).imp fun _ h => own_slAt h), trivial⟩)) (CallsF.func Try.en62 rfl) ?_
        rintro _ w49 ⟨rfl, m⟩
        replace M := M.leaveW0 m
        clear m
        replace M : Mem _ _ _ [own 169 7 v45 l.length (l.flatMap rowE), own 169 7 v40 ((sortV (cmpRow true) l).length) ((sortV (cmpRow true) l).flatMap rowE), own 169 7 v36 ((sortV (cmpRow true) l).length) ((sortV (cmpRow true) l).flatMap rowE), own 169 7 v31 ((sortV (cmpRow false) l).length) ((sortV (cmpRow false) l).flatMap rowE), own 169 7 v27 ((sortV (cmpRow false) l).length) ((sortV (cmpRow false) l).flatMap rowE), own 115 7 v23 ((sortV (cmpRow true) l).length) ((sortV (cmpRow true) l).flatMap rowE), own 115 7 v19 ((sortV (cmpRow false) l).length) ((sortV (cmpRow false) l).flatMap rowE), own 169 7 v11 l.length (l.flatMap rowE)] [SlAt 7 lv l.length (l.flatMap rowE), SlAt 7 ov other.length (other.flatMap rowE)] _ := M
        rw [(show (decide (l = l)) = true by simp)]
        refine WL.step (v := (Value.bool false)) rfl (Step.pure (by kernel_rfl)) ?_
        refine WL.step (v := (Value.bool false)) rfl (Step.pick (t := false) rfl rfl) ?_
        refine WL.nil ?_
        refine W.cond (t := false) rfl (fun h => by cases h) (fun _ => ?_)
        refine W.skip ?_
        refine W.seq' ?_
        refine W.region rfl ?_
        refine WL.step (v := (Value.int .i64 0)) rfl (Step.assign rfl) ?_
        refine WL.nil ?_
        refine W.block ?_
        replace M := M.sel (L' := [own 115 7 v19 ((sortV (cmpRow false) l).length) ((sortV (cmpRow false) l).flatMap rowE), own 115 7 v23 ((sortV (cmpRow true) l).length) ((sortV (cmpRow true) l).flatMap rowE), own 169 7 v45 l.length (l.flatMap rowE), own 169 7 v40 ((sortV (cmpRow true) l).length) ((sortV (cmpRow true) l).flatMap rowE), own 169 7 v36 ((sortV (cmpRow true) l).length) ((sortV (cmpRow true) l).flatMap rowE), own 169 7 v31 ((sortV (cmpRow false) l).length) ((sortV (cmpRow false) l).flatMap rowE), own 169 7 v27 ((sortV (cmpRow false) l).length) ((sortV (cmpRow false) l).flatMap rowE), own 169 7 v11 l.length (l.flatMap rowE)]) [6, 5, 0, 1, 2, 3, 4, 7] rfl (by decide)
        replace M : Mem _ _ _ [own 115 7 v19 ((sortV (cmpRow false) l).length) ((sortV (cmpRow false) l).flatMap rowE), own 115 7 v23 ((sortV (cmpRow true) l).length) ((sortV (cmpRow true) l).flatMap rowE), own 169 7 v45 l.length (l.flatMap rowE), own 169 7 v40 ((sortV (cmpRow true) l).length) ((sortV (cmpRow true) l).flatMap rowE), own 169 7 v36 ((sortV (cmpRow true) l).length) ((sortV (cmpRow true) l).flatMap rowE), own 169 7 v31 ((sortV (cmpRow false) l).length) ((sortV (cmpRow false) l).flatMap rowE), own 169 7 v27 ((sortV (cmpRow false) l).length) ((sortV (cmpRow false) l).flatMap rowE), own 169 7 v11 l.length (l.flatMap rowE)] [SlAt 7 lv l.length (l.flatMap rowE), SlAt 7 ov other.length (other.flatMap rowE)] _ := M
        refine W.loop (fun kk ρ w' => ∃ (i_ : Nat) (as_ : List Row5) (bs_ : List Row5), ((as_.length = l.length) ∧ (bs_.length = l.length) ∧ (i_ ≤ l.length) ∧ kk = l.length - i_) ∧ ρ.has [(0, lv), (1, ov), (5, v11), (6, (Value.int .i64 ↑t_)), (7, v19), (8, v23), (9, (Value.int .i64 ↑i_)), (24, (Value.int .i64 ↑t_)), (25, (Value.bool (decide ((↑t_ : Int) < (2 : Int))))), (28, lv), (29, v19), (30, lv), (31, v23), (32, v19), (33, v27), (34, v11), (35, v31), (36, (Value.bool true)), (37, (Value.bool false)), (38, (Value.bool false)), (39, v23), (40, v36), (41, v11), (42, v40), (43, (Value.bool true)), (44, (Value.bool false)), (45, (Value.bool false)), (46, (Value.bool false)), (47, lv), (48, v45), (49, v11), (50, (Value.bool true)), (51, (Value.bool false)), (52, (Value.bool false))] ∧ Mem G (fun _ => False) w [own 115 7 v19 as_.length (as_.flatMap rowE), own 115 7 v23 bs_.length (bs_.flatMap rowE), own 169 7 v45 l.length (l.flatMap rowE), own 169 7 v40 ((sortV (cmpRow true) l).length) ((sortV (cmpRow true) l).flatMap rowE), own 169 7 v36 ((sortV (cmpRow true) l).length) ((sortV (cmpRow true) l).flatMap rowE), own 169 7 v31 ((sortV (cmpRow false) l).length) ((sortV (cmpRow false) l).flatMap rowE), own 169 7 v27 ((sortV (cmpRow false) l).length) ((sortV (cmpRow false) l).flatMap rowE), own 169 7 v11 l.length (l.flatMap rowE)] [SlAt 7 lv l.length (l.flatMap rowE), SlAt 7 ov other.length (other.flatMap rowE)]  w') _ ⟨0, (sortV (cmpRow false) l), (sortV (cmpRow true) l), ⟨(sortV_len _ _), (sortV_len _ _), (Nat.zero_le _), rfl⟩, ⟨rfl, rfl, rfl, rfl, rfl, rfl, rfl, rfl, rfl, rfl, rfl, rfl, rfl, rfl, rfl, rfl, rfl, rfl, rfl, rfl, rfl, rfl, rfl, rfl, rfl, rfl, rfl, rfl, rfl, rfl, rfl, rfl, rfl, rfl, rfl, rfl⟩, M⟩ ?_
        rintro _ ρ51 w50 ⟨i_, as_, bs_, ⟨hi52, hi53, hi54, rfl⟩, hρ, M⟩
        obtain ⟨ρ51, rfl⟩ := hρ.know
        clear hρ
        refine W.seq' ?_
        refine W.seq' ?_
        refine W.region rfl ?_
        refine WL.step (v := (Value.int .i64 ↑i_)) rfl (Step.move rfl) ?_
        refine WL.step (v := v19) rfl (Step.move rfl) ?_
        refine WL.step (v := (Value.int .i64 ↑as_.length)) rfl (Step.lenSl Try.un105 rfl (own_slAt (M.chunk 0 rfl).inv)) ?_
        refine WL.step (v := (Value.bool (decide ((↑i_ : Int) < (↑as_.length : Int))))) rfl (Step.pure (by kernel_rfl)) ?_
        refine WL.nil ?_
        refine W.cond (t := decide ((↑i_ : Int) < (↑as_.length : Int))) rfl (fun h55 => ?_) (fun h55 => ?_)
        ·
          have h55p := of_decide_eq_true h55
          refine W.skip ?_
          refine W.seq' ?_
          refine W.block ?_
          refine W.seq' ?_
          refine W.region rfl ?_
          refine WL.step (v := v19) rfl (Step.move rfl) ?_
          refine WL.step (v := (Value.int .i64 ↑i_)) rfl (Step.move rfl) ?_
          refine WL.step (v := (Value.agg #[(Value.string (⟨#[]⟩)), (Value.int .i64 0), (Value.int .i64 0), (Value.int .i64 0), (Value.int .i64 0), (Value.int .i64 0), (Value.int .i64 0)])) rfl (Step.pure (by kernel_rfl)) ?_
          obtain ⟨cap57, hb56⟩ := SlAt.base (own_slAt (M.chunk 0 rfl).inv) (by omega)
          refine WL.step (v := (Value.pointer (some ⟨(sBlk v19), sOff v19 + i_ * 7, none⟩))) rfl (Step.indexAddr (i := i_) (Try.un105).run Try.el115.sized rfl rfl (by omega) hb56 (by omega)) ?_
          refine WL.act rfl (M.storeF rowE_len (⟨(⟨⟨#[]⟩, 0, 0⟩ : Pane5), (⟨0, 0, 0, 0⟩ : Agg5)⟩ : Row5) 0 rfl Try.el115.sized rfl rfl rfl (cel_cons rfl (cel_cons rfl (cel_cons rfl (cel_cons rfl (cel_cons rfl (cel_cons rfl (cel_cons rfl cel_nil))))))) (by first | omega | (simp only [List.length_set]; omega))) ?_
          rintro w58 ⟨M, -⟩
          replace M : Mem _ _ _ [own 115 7 v19 ((as_.set i_ (⟨(⟨⟨#[]⟩, 0, 0⟩ : Pane5), (⟨0, 0, 0, 0⟩ : Agg5)⟩ : Row5)).length) ((as_.set i_ (⟨(⟨⟨#[]⟩, 0, 0⟩ : Pane5), (⟨0, 0, 0, 0⟩ : Agg5)⟩ : Row5)).flatMap rowE), own 115 7 v23 bs_.length (bs_.flatMap rowE), own 169 7 v45 l.length (l.flatMap rowE), own 169 7 v40 ((sortV (cmpRow true) l).length) ((sortV (cmpRow true) l).flatMap rowE), own 169 7 v36 ((sortV (cmpRow true) l).length) ((sortV (cmpRow true) l).flatMap rowE), own 169 7 v31 ((sortV (cmpRow false) l).length) ((sortV (cmpRow false) l).flatMap rowE), own 169 7 v27 ((sortV (cmpRow false) l).length) ((sortV (cmpRow false) l).flatMap rowE), own 169 7 v11 l.length (l.flatMap rowE)] [SlAt 7 lv l.length (l.flatMap rowE), SlAt 7 ov other.length (other.flatMap rowE)] _ := M
          refine WL.nil ?_
          refine W.region rfl ?_
          refine WL.step (v := v23) rfl (Step.move rfl) ?_
          refine WL.step (v := (Value.int .i64 ↑i_)) rfl (Step.move rfl) ?_
          refine WL.step (v := (Value.agg #[(Value.string (⟨#[]⟩)), (Value.int .i64 0), (Value.int .i64 0), (Value.int .i64 0), (Value.int .i64 0), (Value.int .i64 0), (Value.int .i64 0)])) rfl (Step.pure (by kernel_rfl)) ?_
          obtain ⟨cap60, hb59⟩ := SlAt.base (own_slAt (M.chunk 1 rfl).inv) (by omega)
          refine WL.step (v := (Value.pointer (some ⟨(sBlk v23), sOff v23 + i_ * 7, none⟩))) rfl (Step.indexAddr (i := i_) (Try.un105).run Try.el115.sized rfl rfl (by omega) hb59 (by omega)) ?_
          refine WL.act rfl (M.storeF rowE_len (⟨(⟨⟨#[]⟩, 0, 0⟩ : Pane5), (⟨0, 0, 0, 0⟩ : Agg5)⟩ : Row5) 1 rfl Try.el115.sized rfl rfl rfl (cel_cons rfl (cel_cons rfl (cel_cons rfl (cel_cons rfl (cel_cons rfl (cel_cons rfl (cel_cons rfl cel_nil))))))) (by first | omega | (simp only [List.length_set]; omega))) ?_
          rintro w61 ⟨M, -⟩
          replace M : Mem _ _ _ [own 115 7 v19 ((as_.set i_ (⟨(⟨⟨#[]⟩, 0, 0⟩ : Pane5), (⟨0, 0, 0, 0⟩ : Agg5)⟩ : Row5)).length) ((as_.set i_ (⟨(⟨⟨#[]⟩, 0, 0⟩ : Pane5), (⟨0, 0, 0, 0⟩ : Agg5)⟩ : Row5)).flatMap rowE), own 115 7 v23 ((bs_.set i_ (⟨(⟨⟨#[]⟩, 0, 0⟩ : Pane5), (⟨0, 0, 0, 0⟩ : Agg5)⟩ : Row5)).length) ((bs_.set i_ (⟨(⟨⟨#[]⟩, 0, 0⟩ : Pane5), (⟨0, 0, 0, 0⟩ : Agg5)⟩ : Row5)).flatMap rowE), own 169 7 v45 l.length (l.flatMap rowE), own 169 7 v40 ((sortV (cmpRow true) l).length) ((sortV (cmpRow true) l).flatMap rowE), own 169 7 v36 ((sortV (cmpRow true) l).length) ((sortV (cmpRow true) l).flatMap rowE), own 169 7 v31 ((sortV (cmpRow false) l).length) ((sortV (cmpRow false) l).flatMap rowE), own 169 7 v27 ((sortV (cmpRow false) l).length) ((sortV (cmpRow false) l).flatMap rowE), own 169 7 v11 l.length (l.flatMap rowE)] [SlAt 7 lv l.length (l.flatMap rowE), SlAt 7 ov other.length (other.flatMap rowE)] _ := M
          refine WL.nil ?_
          refine W.region rfl ?_
          refine WL.step (v := (Value.int .i64 ↑i_)) rfl (Step.move rfl) ?_
          refine WL.step (v := (Value.int .i64 (↑i_ + 1))) rfl (Step.add rfl rfl (wrap_i64 (by omega))) ?_
          refine WL.step (v := (Value.int .i64 (↑i_ + 1))) rfl (Step.assign rfl) ?_
          refine WL.nil ?_
          exact ⟨_, (by omega), i_ + 1, as_.set i_ (⟨(⟨⟨#[]⟩, 0, 0⟩ : Pane5), (⟨0, 0, 0, 0⟩ : Agg5)⟩ : Row5), bs_.set i_ (⟨(⟨⟨#[]⟩, 0, 0⟩ : Pane5), (⟨0, 0, 0, 0⟩ : Agg5)⟩ : Row5), ⟨(by rw [List.length_set]; assumption), (by rw [List.length_set]; assumption), (by omega), rfl⟩, ⟨rfl, rfl, rfl, rfl, rfl, rfl, rfl, rfl, rfl, rfl, rfl, rfl, rfl, rfl, rfl, rfl, rfl, rfl, rfl, rfl, rfl, rfl, rfl, rfl, rfl, rfl, rfl, rfl, rfl, rfl, rfl, rfl, rfl, rfl, rfl, rfl⟩, M⟩
        ·
          have h55p := of_decide_eq_false h55
          refine W.exit ?_
          refine thn_exit ?_
          refine thn_exit ?_
          refine inBlk_hit ?_
          refine W.region rfl ?_
          refine WL.step (v := (Value.int .i64 ↑t_)) rfl (Step.move rfl) ?_
          refine WL.step (v := (Value.int .i64 (↑t_ + 1))) rfl (Step.add rfl rfl (wrap_i64 (by omega))) ?_
          refine WL.step (v := (Value.int .i64 (↑t_ + 1))) rfl (Step.assign rfl) ?_
          refine WL.nil ?_
          replace M := M.sel (L' := [own 169 7 v11 l.length (l.flatMap rowE)]) [7] rfl (by decide)
          exact ⟨_, (by omega), t_ + 1, ⟨(by omega), rfl⟩, ⟨rfl, rfl, rfl, rfl, rfl, rfl⟩, M⟩
      ·
        have h18p := of_decide_eq_false h18
        refine W.exit ?_
        refine thn_exit ?_
        refine thn_exit ?_
        refine inBlk_hit ?_
        refine W.seq' ?_
        refine W.seq' ?_
        refine W.region rfl ?_
        refine WL.step (v := (Value.int .i64 0)) rfl (Step.assign rfl) ?_
        refine WL.nil ?_
        refine W.block ?_
        refine W.loop (fun kk ρ w' => ∃ (j_ : Nat), ((j_ ≤ l.length) ∧ kk = l.length - j_) ∧ ρ.has [(0, lv), (1, ov), (5, v11), (10, (Value.int .i64 ↑j_))] ∧ Mem G (fun _ => False) w [own 169 7 v11 l.length (l.flatMap rowE)] [SlAt 7 lv l.length (l.flatMap rowE), SlAt 7 ov other.length (other.flatMap rowE)]  w') _ ⟨0, ⟨(Nat.zero_le _), rfl⟩, ⟨rfl, rfl, rfl, rfl, rfl, rfl⟩, M⟩ ?_
        rintro _ ρ63 w62 ⟨j_, ⟨hi64, rfl⟩, hρ, M⟩
        obtain ⟨ρ63, rfl⟩ := hρ.know
        clear hρ
        refine W.seq' ?_
        refine W.seq' ?_
        refine W.region rfl ?_
        refine WL.step (v := (Value.int .i64 ↑j_)) rfl (Step.move rfl) ?_
        refine WL.step (v := lv) rfl (Step.move rfl) ?_
        refine WL.step (v := (Value.int .i64 ↑l.length)) rfl (Step.lenSl Try.un105 rfl (M.rep 0 rfl)) ?_
        refine WL.step (v := (Value.bool (decide ((↑j_ : Int) < (↑l.length : Int))))) rfl (Step.pure (by kernel_rfl)) ?_
        refine WL.step (v := (Value.bool (decide ((↑j_ : Int) < (↑l.length : Int))))) rfl (Step.move rfl) ?_
        rcases Bool.eq_false_or_eq_true (decide ((↑j_ : Int) < (↑l.length : Int))) with h65 | h65
        ·
          have h65p := of_decide_eq_true h65
          rw [h65]
          refine WL.step (v := (Value.int .i64 ↑j_)) rfl (Step.move rfl) ?_
          refine WL.step (v := ov) rfl (Step.move rfl) ?_
          refine WL.step (v := (Value.int .i64 ↑other.length)) rfl (Step.lenSl Try.un105 rfl (M.rep 1 rfl)) ?_
          refine WL.step (v := (Value.bool (decide ((↑j_ : Int) < (↑other.length : Int))))) rfl (Step.pure (by kernel_rfl)) ?_
          refine WL.step (v := (Value.bool (decide ((↑j_ : Int) < (↑other.length : Int))))) rfl (Step.pick (t := true) rfl rfl) ?_
          refine WL.nil ?_
          refine W.cond (t := decide ((↑j_ : Int) < (↑other.length : Int))) rfl (fun h66 => ?_) (fun h66 => ?_)
          ·
            have h66p := of_decide_eq_true h66
            refine W.skip ?_
            refine W.seq' ?_
            refine W.block ?_
            refine W.seq' ?_
            obtain ⟨cap68, hb67⟩ := SlAt.base (M.rep 0 rfl) (by omega)
            obtain ⟨x69, hx69⟩ := elem_of_lt (xs := l) (i := j_) (by omega)
            obtain ⟨cap71, hb70⟩ := SlAt.base (M.rep 1 rfl) (by omega)
            obtain ⟨x72, hx72⟩ := elem_of_lt (xs := other) (i := j_) (by omega)
            refine W.drawn M [0, 1, 2, 3, 4, 5, 6, 7, 8, 9, 10, 11, 12, 13] [12, 13] [10, 11] [own 169 7 v11 l.length (l.flatMap rowE)] [SlAt 7 lv l.length (l.flatMap rowE), SlAt 7 ov other.length (other.flatMap rowE)] (List.Sublist.cons_cons _ List.Sublist.slnil) (fun _ h => h) Try.mixed (by kernel_rfl) ?_
            refine TW.pure (v := lv) rfl (by decide) (by decide) rfl (fun w => (Step.move rfl)) ?_
            refine TW.pure (v := (Value.int .i64 ↑j_)) rfl (by decide) (by decide) rfl (fun w => (Step.move rfl)) ?_
            refine TW.pure (v := (Value.pointer (some ⟨(sBlk lv), sOff lv + j_ * 7, none⟩))) rfl (by decide) (by decide) rfl (fun w => (Step.indexAddr (i := j_) (Try.un105).run Try.el115.sized rfl rfl (by omega) hb67 (by omega))) ?_
            refine TW.pure (v := (Value.pointer (some ⟨(sBlk lv), sOff lv + j_ * 7, none⟩))) rfl (by decide) (by decide) rfl (fun w => (Step.pure (by kernel_rfl))) ?_
            refine TW.read (v := (Value.agg #[(Value.string x69.pane.key), (Value.int .i64 x69.pane.start), (Value.int .i64 x69.pane.fin)])) rfl (by decide) (by decide) rfl (fun A w M => (Step.loadEN (k := 0) (cs' := [(Value.string x69.pane.key), (Value.int .i64 x69.pane.start), (Value.int .i64 x69.pane.fin)]) Try.ag113 (flat_ec (M.rep 0 rfl) hx69 rowE_len) (by decide) rfl rfl rfl)) ?_
            refine TW.pure (v := ov) rfl (by decide) (by decide) rfl (fun w => (Step.move rfl)) ?_
            refine TW.pure (v := (Value.int .i64 ↑j_)) rfl (by decide) (by decide) rfl (fun w => (Step.move rfl)) ?_
            refine TW.pure (v := (Value.pointer (some ⟨(sBlk ov), sOff ov + j_ * 7, none⟩))) rfl (by decide) (by decide) rfl (fun w => (Step.indexAddr (i := j_) (Try.un105).run Try.el115.sized rfl rfl (by omega) hb70 (by omega))) ?_
            refine TW.pure (v := (Value.pointer (some ⟨(sBlk ov), sOff ov + j_ * 7, none⟩))) rfl (by decide) (by decide) rfl (fun w => (Step.pure (by kernel_rfl))) ?_
            refine TW.read (v := (Value.agg #[(Value.string x72.pane.key), (Value.int .i64 x72.pane.start), (Value.int .i64 x72.pane.fin)])) rfl (by decide) (by decide) rfl (fun A w M => (Step.loadEN (k := 0) (cs' := [(Value.string x72.pane.key), (Value.int .i64 x72.pane.start), (Value.int .i64 x72.pane.fin)]) Try.ag113 (flat_ec (M.rep 1 rfl) hx72 rowE_len) (by decide) rfl rfl rfl)) ?_
            refine TW.new (obj := .cells #[(Value.string (⟨#[]⟩)), (Value.int .i64 0), (Value.int .i64 0)] 113) (fun b => .pointer (some ⟨b, 0, none⟩)) rfl (by decide) (by decide) rfl (fun w => Step.alloc Try.el113.zero) (fun b85 => ?_)
            refine TW.new (obj := .cells #[(Value.string (⟨#[]⟩)), (Value.int .i64 0), (Value.int .i64 0)] 113) (fun b => .pointer (some ⟨b, 0, none⟩)) rfl (by decide) (by decide) rfl (fun w => Step.alloc Try.el113.zero) (fun b86 => ?_)
            refine TW.store (v := (Value.agg #[(Value.string x69.pane.key), (Value.int .i64 x69.pane.start), (Value.int .i64 x69.pane.fin)])) (cs := [(Value.string x69.pane.key), (Value.int .i64 x69.pane.start), (Value.int .i64 x69.pane.fin)]) (c' := #[(Value.string x69.pane.key), (Value.int .i64 x69.pane.start), (Value.int .i64 x69.pane.fin)]) 1 rfl rfl (by decide) rfl Try.el113.sized rfl rfl rfl rfl (Nat.le_of_ble_eq_true rfl) (cel_cons rfl (cel_cons rfl (cel_cons rfl cel_nil))) rfl rfl (List.Sublist.cons _ (List.Sublist.cons _ (List.Sublist.cons_cons _ List.Sublist.slnil))) (fun r h => h) ?_
            refine TW.store (v := (Value.agg #[(Value.string x72.pane.key), (Value.int .i64 x72.pane.start), (Value.int .i64 x72.pane.fin)])) (cs := [(Value.string x72.pane.key), (Value.int .i64 x72.pane.start), (Value.int .i64 x72.pane.fin)]) (c' := #[(Value.string x72.pane.key), (Value.int .i64 x72.pane.start), (Value.int .i64 x72.pane.fin)]) 0 rfl rfl (by decide) rfl Try.el113.sized rfl rfl rfl rfl (Nat.le_of_ble_eq_true rfl) (cel_cons rfl (cel_cons rfl (cel_cons rfl cel_nil))) rfl rfl (List.Sublist.cons _ (List.Sublist.cons _ (List.Sublist.cons_cons _ List.Sublist.slnil))) (fun r h => h) ?_
            refine TW.done (fun w87 M => ?_)
            refine W.seq' ?_
            refine W.drawn M [0, 1, 2, 3, 4, 5, 6, 7, 8, 9, 10, 11, 12, 13, 14, 15, 16, 17, 18, 19, 20, 21, 22, 23, 24, 25] [2, 4, 6, 7, 12, 14, 16, 17, 23] [] [blk b86 (.cells #[(Value.string x72.pane.key), (Value.int .i64 x72.pane.start), (Value.int .i64 x72.pane.fin)] 113), blk b85 (.cells #[(Value.string x69.pane.key), (Value.int .i64 x69.pane.start), (Value.int .i64 x69.pane.fin)] 113), own 169 7 v11 l.length (l.flatMap rowE)] [SlAt 7 lv l.length (l.flatMap rowE), SlAt 7 ov other.length (other.flatMap rowE)] (List.Sublist.cons_cons _ (List.Sublist.cons_cons _ (List.Sublist.cons_cons _ List.Sublist.slnil))) (fun _ h => h) Try.mixed (by kernel_rfl) ?_
            refine TW.read (v := (Value.agg #[(Value.string x69.pane.key), (Value.int .i64 x69.pane.start), (Value.int .i64 x69.pane.fin)])) rfl (by decide) (by decide) rfl (fun A w M => (Step.loadN Try.ag113 rfl (M.blk 2 rfl) (Nat.le_of_ble_eq_true rfl) rfl)) ?_
            refine TW.read (v := (Value.agg #[(Value.string x72.pane.key), (Value.int .i64 x72.pane.start), (Value.int .i64 x72.pane.fin)])) rfl (by decide) (by decide) rfl (fun A w M => (Step.loadN Try.ag113 rfl (M.blk 1 rfl) (Nat.le_of_ble_eq_true rfl) rfl)) ?_
            refine TW.callX (ι := Unit) (fun jx v_ => v_ = (Value.int .i64 (primV x69.pane x72.pane))) (fun jx => [blk b86 (.cells #[(Value.string x72.pane.key), (Value.int .i64 x72.pane.start), (Value.int .i64 x72.pane.fin)] 113), blk b85 (.cells #[(Value.string x69.pane.key), (Value.int .i64 x69.pane.start), (Value.int .i64 x69.pane.fin)] 113), own 169 7 v11 l.length (l.flatMap rowE)]) (fun jx => [SlAt 7 lv l.length (l.flatMap rowE), SlAt 7 ov other.length (other.flatMap rowE)]) rfl (by decide) rfl (fun jx => (List.Sublist.cons_cons _ (List.Sublist.cons_cons _ (List.Sublist.cons_cons _ List.Sublist.slnil)))) (fun jx r h => h) (fun A w M => Rets.mono (agg_prim x69.pane x72.pane (M.enterW0 trivial)) (fun v_ w_ ⟨e_, m⟩ => ⟨(), e_, (M.leaveW0 m).sel (L' := [fl A, blk b86 (.cells #[(Value.string x72.pane.key), (Value.int .i64 x72.pane.start), (Value.int .i64 x72.pane.fin)] 113), blk b85 (.cells #[(Value.string x69.pane.key), (Value.int .i64 x69.pane.start), (Value.int .i64 x69.pane.fin)] 113), own 169 7 v11 l.length (l.flatMap rowE)]) [0, 1, 2, 3] rfl (by decide), fun b hb => M.keptW0 m (fl A) (List.mem_cons_self ..) b hb⟩)) (fun w => CallsF.func Try.en64 rfl) (fun jx v hp hin => ?_)
            replace hp := hp.symm; subst hp
            clear hin
            change TW _ _ _ _ _ _ _ _ (MemA _ _ _ [blk b86 (.cells #[(Value.string x72.pane.key), (Value.int .i64 x72.pane.start), (Value.int .i64 x72.pane.fin)] 113), blk b85 (.cells #[(Value.string x69.pane.key), (Value.int .i64 x69.pane.start), (Value.int .i64 x69.pane.fin)] 113), own 169 7 v11 l.length (l.flatMap rowE)] [SlAt 7 lv l.length (l.flatMap rowE), SlAt 7 ov other.length (other.flatMap rowE)])
            refine TW.read (v := (Value.agg #[(Value.string x69.pane.key), (Value.int .i64 x69.pane.start), (Value.int .i64 x69.pane.fin)])) rfl (by decide) (by decide) rfl (fun A w M => (Step.loadN Try.ag113 rfl (M.blk 2 rfl) (Nat.le_of_ble_eq_true rfl) rfl)) ?_
            refine TW.callX (ι := Unit) (fun jx v_ => v_ = (Value.agg #[(Value.string x69.pane.key), (Value.int .i64 x69.pane.start), (Value.int .i64 x69.pane.fin)])) (fun jx => [blk b86 (.cells #[(Value.string x72.pane.key), (Value.int .i64 x72.pane.start), (Value.int .i64 x72.pane.fin)] 113), blk b85 (.cells #[(Value.string x69.pane.key), (Value.int .i64 x69.pane.start), (Value.int .i64 x69.pane.fin)] 113), own 169 7 v11 l.length (l.flatMap rowE)]) (fun jx => [SlAt 7 lv l.length (l.flatMap rowE), SlAt 7 ov other.length (other.flatMap rowE)]) rfl (by decide) rfl (fun jx => (List.Sublist.cons_cons _ (List.Sublist.cons_cons _ (List.Sublist.cons_cons _ List.Sublist.slnil)))) (fun jx r h => h) (fun A w M => Rets.mono (law5_pane x69.pane (M.enterW0 trivial)) (fun v_ w_ ⟨e_, m⟩ => ⟨(), e_, (M.leaveW0 m).sel (L' := [fl A, blk b86 (.cells #[(Value.string x72.pane.key), (Value.int .i64 x72.pane.start), (Value.int .i64 x72.pane.fin)] 113), blk b85 (.cells #[(Value.string x69.pane.key), (Value.int .i64 x69.pane.start), (Value.int .i64 x69.pane.fin)] 113), own 169 7 v11 l.length (l.flatMap rowE)]) [0, 1, 2, 3] rfl (by decide), fun b hb => M.keptW0 m (fl A) (List.mem_cons_self ..) b hb⟩)) (fun w => CallsF.func Try.en66 rfl) (fun jx v hp hin => ?_)
            replace hp := hp.symm; subst hp
            clear hin
            change TW _ _ _ _ _ _ _ _ (MemA _ _ _ [blk b86 (.cells #[(Value.string x72.pane.key), (Value.int .i64 x72.pane.start), (Value.int .i64 x72.pane.fin)] 113), blk b85 (.cells #[(Value.string x69.pane.key), (Value.int .i64 x69.pane.start), (Value.int .i64 x69.pane.fin)] 113), own 169 7 v11 l.length (l.flatMap rowE)] [SlAt 7 lv l.length (l.flatMap rowE), SlAt 7 ov other.length (other.flatMap rowE)])
            refine TW.read (v := (Value.agg #[(Value.string x72.pane.key), (Value.int .i64 x72.pane.start), (Value.int .i64 x72.pane.fin)])) rfl (by decide) (by decide) rfl (fun A w M => (Step.loadN Try.ag113 rfl (M.blk 1 rfl) (Nat.le_of_ble_eq_true rfl) rfl)) ?_
            refine TW.callX (ι := Unit) (fun jx v_ => v_ = (Value.agg #[(Value.string x72.pane.key), (Value.int .i64 x72.pane.start), (Value.int .i64 x72.pane.fin)])) (fun jx => [blk b86 (.cells #[(Value.string x72.pane.key), (Value.int .i64 x72.pane.start), (Value.int .i64 x72.pane.fin)] 113), blk b85 (.cells #[(Value.string x69.pane.key), (Value.int .i64 x69.pane.start), (Value.int .i64 x69.pane.fin)] 113), own 169 7 v11 l.length (l.flatMap rowE)]) (fun jx => [SlAt 7 lv l.length (l.flatMap rowE), SlAt 7 ov other.length (other.flatMap rowE)]) rfl (by decide) rfl (fun jx => (List.Sublist.cons_cons _ (List.Sublist.cons_cons _ (List.Sublist.cons_cons _ List.Sublist.slnil)))) (fun jx r h => h) (fun A w M => Rets.mono (law5_pane x72.pane (M.enterW0 trivial)) (fun v_ w_ ⟨e_, m⟩ => ⟨(), e_, (M.leaveW0 m).sel (L' := [fl A, blk b86 (.cells #[(Value.string x72.pane.key), (Value.int .i64 x72.pane.start), (Value.int .i64 x72.pane.fin)] 113), blk b85 (.cells #[(Value.string x69.pane.key), (Value.int .i64 x69.pane.start), (Value.int .i64 x69.pane.fin)] 113), own 169 7 v11 l.length (l.flatMap rowE)]) [0, 1, 2, 3] rfl (by decide), fun b hb => M.keptW0 m (fl A) (List.mem_cons_self ..) b hb⟩)) (fun w => CallsF.func Try.en66 rfl) (fun jx v hp hin => ?_)
            replace hp := hp.symm; subst hp
            clear hin
            change TW _ _ _ _ _ _ _ _ (MemA _ _ _ [blk b86 (.cells #[(Value.string x72.pane.key), (Value.int .i64 x72.pane.start), (Value.int .i64 x72.pane.fin)] 113), blk b85 (.cells #[(Value.string x69.pane.key), (Value.int .i64 x69.pane.start), (Value.int .i64 x69.pane.fin)] 113), own 169 7 v11 l.length (l.flatMap rowE)] [SlAt 7 lv l.length (l.flatMap rowE), SlAt 7 ov other.length (other.flatMap rowE)])
            refine TW.callX (ι := Unit) (fun jx v_ => v_ = (Value.int .i64 (primV x69.pane x72.pane))) (fun jx => [blk b86 (.cells #[(Value.string x72.pane.key), (Value.int .i64 x72.pane.start), (Value.int .i64 x72.pane.fin)] 113), blk b85 (.cells #[(Value.string x69.pane.key), (Value.int .i64 x69.pane.start), (Value.int .i64 x69.pane.fin)] 113), own 169 7 v11 l.length (l.flatMap rowE)]) (fun jx => [SlAt 7 lv l.length (l.flatMap rowE), SlAt 7 ov other.length (other.flatMap rowE)]) rfl (by decide) rfl (fun jx => (List.Sublist.cons_cons _ (List.Sublist.cons_cons _ (List.Sublist.cons_cons _ List.Sublist.slnil)))) (fun jx r h => h) (fun A w M => Rets.mono (ref5_prim x69.pane x72.pane (M.enterW0 trivial)) (fun v_ w_ ⟨e_, m⟩ => ⟨(), e_, (M.leaveW0 m).sel (L' := [fl A, blk b86 (.cells #[(Value.string x72.pane.key), (Value.int .i64 x72.pane.start), (Value.int .i64 x72.pane.fin)] 113), blk b85 (.cells #[(Value.string x69.pane.key), (Value.int .i64 x69.pane.start), (Value.int .i64 x69.pane.fin)] 113), own 169 7 v11 l.length (l.flatMap rowE)]) [0, 1, 2, 3] rfl (by decide), fun b hb => M.keptW0 m (fl A) (List.mem_cons_self ..) b hb⟩)) (fun w => CallsF.func Try.en65 rfl) (fun jx v hp hin => ?_)
            replace hp := hp.symm; subst hp
            clear hin
            change TW _ _ _ _ _ _ _ _ (MemA _ _ _ [blk b86 (.cells #[(Value.string x72.pane.key), (Value.int .i64 x72.pane.start), (Value.int .i64 x72.pane.fin)] 113), blk b85 (.cells #[(Value.string x69.pane.key), (Value.int .i64 x69.pane.start), (Value.int .i64 x69.pane.fin)] 113), own 169 7 v11 l.length (l.flatMap rowE)] [SlAt 7 lv l.length (l.flatMap rowE), SlAt 7 ov other.length (other.flatMap rowE)])
            refine TW.pure (v := (Value.bool false)) rfl (by decide) (by decide) rfl (fun w => (Step.cast (congrArg Value.bool (show ((primV x69.pane x72.pane : Int) != (primV x69.pane x72.pane : Int)) = false by simp)) (Step.pure (by kernel_rfl)))) ?_
            refine TW.pure (v := (Value.bool false)) rfl (by decide) (by decide) rfl (fun w => (Step.move rfl)) ?_
            refine TW.read (v := (Value.agg #[(Value.string x69.pane.key), (Value.int .i64 x69.pane.start), (Value.int .i64 x69.pane.fin)])) rfl (by decide) (by decide) rfl (fun A w M => (Step.loadN Try.ag113 rfl (M.blk 2 rfl) (Nat.le_of_ble_eq_true rfl) rfl)) ?_
            refine TW.read (v := (Value.agg #[(Value.string x72.pane.key), (Value.int .i64 x72.pane.start), (Value.int .i64 x72.pane.fin)])) rfl (by decide) (by decide) rfl (fun A w M => (Step.loadN Try.ag113 rfl (M.blk 1 rfl) (Nat.le_of_ble_eq_true rfl) rfl)) ?_
            refine TW.callX (ι := Unit) (fun jx v_ => v_ = (Value.int .i64 (secoV x69.pane x72.pane))) (fun jx => [blk b86 (.cells #[(Value.string x72.pane.key), (Value.int .i64 x72.pane.start), (Value.int .i64 x72.pane.fin)] 113), blk b85 (.cells #[(Value.string x69.pane.key), (Value.int .i64 x69.pane.start), (Value.int .i64 x69.pane.fin)] 113), own 169 7 v11 l.length (l.flatMap rowE)]) (fun jx => [SlAt 7 lv l.length (l.flatMap rowE), SlAt 7 ov other.length (other.flatMap rowE)]) rfl (by decide) rfl (fun jx => (List.Sublist.cons_cons _ (List.Sublist.cons_cons _ (List.Sublist.cons_cons _ List.Sublist.slnil)))) (fun jx r h => h) (fun A w M => Rets.mono (agg_seco x69.pane x72.pane (M.enterW0 trivial)) (fun v_ w_ ⟨e_, m⟩ => ⟨(), e_, (M.leaveW0 m).sel (L' := [fl A, blk b86 (.cells #[(Value.string x72.pane.key), (Value.int .i64 x72.pane.start), (Value.int .i64 x72.pane.fin)] 113), blk b85 (.cells #[(Value.string x69.pane.key), (Value.int .i64 x69.pane.start), (Value.int .i64 x69.pane.fin)] 113), own 169 7 v11 l.length (l.flatMap rowE)]) [0, 1, 2, 3] rfl (by decide), fun b hb => M.keptW0 m (fl A) (List.mem_cons_self ..) b hb⟩)) (fun w => CallsF.func Try.en67 rfl) (fun jx v hp hin => ?_)
            replace hp := hp.symm; subst hp
            clear hin
            change TW _ _ _ _ _ _ _ _ (MemA _ _ _ [blk b86 (.cells #[(Value.string x72.pane.key), (Value.int .i64 x72.pane.start), (Value.int .i64 x72.pane.fin)] 113), blk b85 (.cells #[(Value.string x69.pane.key), (Value.int .i64 x69.pane.start), (Value.int .i64 x69.pane.fin)] 113), own 169 7 v11 l.length (l.flatMap rowE)] [SlAt 7 lv l.length (l.flatMap rowE), SlAt 7 ov other.length (other.flatMap rowE)])
            refine TW.read (v := (Value.agg #[(Value.string x69.pane.key), (Value.int .i64 x69.pane.start), (Value.int .i64 x69.pane.fin)])) rfl (by decide) (by decide) rfl (fun A w M => (Step.loadN Try.ag113 rfl (M.blk 2 rfl) (Nat.le_of_ble_eq_true rfl) rfl)) ?_
            refine TW.callX (ι := Unit) (fun jx v_ => v_ = (Value.agg #[(Value.string x69.pane.key), (Value.int .i64 x69.pane.start), (Value.int .i64 x69.pane.fin)])) (fun jx => [blk b86 (.cells #[(Value.string x72.pane.key), (Value.int .i64 x72.pane.start), (Value.int .i64 x72.pane.fin)] 113), blk b85 (.cells #[(Value.string x69.pane.key), (Value.int .i64 x69.pane.start), (Value.int .i64 x69.pane.fin)] 113), own 169 7 v11 l.length (l.flatMap rowE)]) (fun jx => [SlAt 7 lv l.length (l.flatMap rowE), SlAt 7 ov other.length (other.flatMap rowE)]) rfl (by decide) rfl (fun jx => (List.Sublist.cons_cons _ (List.Sublist.cons_cons _ (List.Sublist.cons_cons _ List.Sublist.slnil)))) (fun jx r h => h) (fun A w M => Rets.mono (law5_pane x69.pane (M.enterW0 trivial)) (fun v_ w_ ⟨e_, m⟩ => ⟨(), e_, (M.leaveW0 m).sel (L' := [fl A, blk b86 (.cells #[(Value.string x72.pane.key), (Value.int .i64 x72.pane.start), (Value.int .i64 x72.pane.fin)] 113), blk b85 (.cells #[(Value.string x69.pane.key), (Value.int .i64 x69.pane.start), (Value.int .i64 x69.pane.fin)] 113), own 169 7 v11 l.length (l.flatMap rowE)]) [0, 1, 2, 3] rfl (by decide), fun b hb => M.keptW0 m (fl A) (List.mem_cons_self ..) b hb⟩)) (fun w => CallsF.func Try.en66 rfl) (fun jx v hp hin => ?_)
            replace hp := hp.symm; subst hp
            clear hin
            change TW _ _ _ _ _ _ _ _ (MemA _ _ _ [blk b86 (.cells #[(Value.string x72.pane.key), (Value.int .i64 x72.pane.start), (Value.int .i64 x72.pane.fin)] 113), blk b85 (.cells #[(Value.string x69.pane.key), (Value.int .i64 x69.pane.start), (Value.int .i64 x69.pane.fin)] 113), own 169 7 v11 l.length (l.flatMap rowE)] [SlAt 7 lv l.length (l.flatMap rowE), SlAt 7 ov other.length (other.flatMap rowE)])
            refine TW.read (v := (Value.agg #[(Value.string x72.pane.key), (Value.int .i64 x72.pane.start), (Value.int .i64 x72.pane.fin)])) rfl (by decide) (by decide) rfl (fun A w M => (Step.loadN Try.ag113 rfl (M.blk 1 rfl) (Nat.le_of_ble_eq_true rfl) rfl)) ?_
            refine TW.callX (ι := Unit) (fun jx v_ => v_ = (Value.agg #[(Value.string x72.pane.key), (Value.int .i64 x72.pane.start), (Value.int .i64 x72.pane.fin)])) (fun jx => [blk b86 (.cells #[(Value.string x72.pane.key), (Value.int .i64 x72.pane.start), (Value.int .i64 x72.pane.fin)] 113), blk b85 (.cells #[(Value.string x69.pane.key), (Value.int .i64 x69.pane.start), (Value.int .i64 x69.pane.fin)] 113), own 169 7 v11 l.length (l.flatMap rowE)]) (fun jx => [SlAt 7 lv l.length (l.flatMap rowE), SlAt 7 ov other.length (other.flatMap rowE)]) rfl (by decide) rfl (fun jx => (List.Sublist.cons_cons _ (List.Sublist.cons_cons _ (List.Sublist.cons_cons _ List.Sublist.slnil)))) (fun jx r h => h) (fun A w M => Rets.mono (law5_pane x72.pane (M.enterW0 trivial)) (fun v_ w_ ⟨e_, m⟩ => ⟨(), e_, (M.leaveW0 m).sel (L' := [fl A, blk b86 (.cells #[(Value.string x72.pane.key), (Value.int .i64 x72.pane.start), (Value.int .i64 x72.pane.fin)] 113), blk b85 (.cells #[(Value.string x69.pane.key), (Value.int .i64 x69.pane.start), (Value.int .i64 x69.pane.fin)] 113), own 169 7 v11 l.length (l.flatMap rowE)]) [0, 1, 2, 3] rfl (by decide), fun b hb => M.keptW0 m (fl A) (List.mem_cons_self ..) b hb⟩)) (fun w => CallsF.func Try.en66 rfl) (fun jx v hp hin => ?_)
            replace hp := hp.symm; subst hp
            clear hin
            change TW _ _ _ _ _ _ _ _ (MemA _ _ _ [blk b86 (.cells #[(Value.string x72.pane.key), (Value.int .i64 x72.pane.start), (Value.int .i64 x72.pane.fin)] 113), blk b85 (.cells #[(Value.string x69.pane.key), (Value.int .i64 x69.pane.start), (Value.int .i64 x69.pane.fin)] 113), own 169 7 v11 l.length (l.flatMap rowE)] [SlAt 7 lv l.length (l.flatMap rowE), SlAt 7 ov other.length (other.flatMap rowE)])
            refine TW.callX (ι := Unit) (fun jx v_ => v_ = (Value.int .i64 (secoV x69.pane x72.pane))) (fun jx => [blk b86 (.cells #[(Value.string x72.pane.key), (Value.int .i64 x72.pane.start), (Value.int .i64 x72.pane.fin)] 113), blk b85 (.cells #[(Value.string x69.pane.key), (Value.int .i64 x69.pane.start), (Value.int .i64 x69.pane.fin)] 113), own 169 7 v11 l.length (l.flatMap rowE)]) (fun jx => [SlAt 7 lv l.length (l.flatMap rowE), SlAt 7 ov other.length (other.flatMap rowE)]) rfl (by decide) rfl (fun jx => (List.Sublist.cons_cons _ (List.Sublist.cons_cons _ (List.Sublist.cons_cons _ List.Sublist.slnil)))) (fun jx r h => h) (fun A w M => Rets.mono (ref5_seco x69.pane x72.pane (M.enterW0 trivial)) (fun v_ w_ ⟨e_, m⟩ => ⟨(), e_, (M.leaveW0 m).sel (L' := [fl A, blk b86 (.cells #[(Value.string x72.pane.key), (Value.int .i64 x72.pane.start), (Value.int .i64 x72.pane.fin)] 113), blk b85 (.cells #[(Value.string x69.pane.key), (Value.int .i64 x69.pane.start), (Value.int .i64 x69.pane.fin)] 113), own 169 7 v11 l.length (l.flatMap rowE)]) [0, 1, 2, 3] rfl (by decide), fun b hb => M.keptW0 m (fl A) (List.mem_cons_self ..) b hb⟩)) (fun w => CallsF.func Try.en68 rfl) (fun jx v hp hin => ?_)
            replace hp := hp.symm; subst hp
            clear hin
            change TW _ _ _ _ _ _ _ _ (MemA _ _ _ [blk b86 (.cells #[(Value.string x72.pane.key), (Value.int .i64 x72.pane.start), (Value.int .i64 x72.pane.fin)] 113), blk b85 (.cells #[(Value.string x69.pane.key), (Value.int .i64 x69.pane.start), (Value.int .i64 x69.pane.fin)] 113), own 169 7 v11 l.length (l.flatMap rowE)] [SlAt 7 lv l.length (l.flatMap rowE), SlAt 7 ov other.length (other.flatMap rowE)])
            refine TW.pure (v := (Value.bool false)) rfl (by decide) (by decide) rfl (fun w => (Step.cast (congrArg Value.bool (show ((secoV x69.pane x72.pane : Int) != (secoV x69.pane x72.pane : Int)) = false by simp)) (Step.pure (by kernel_rfl)))) ?_
            refine TW.pure (v := (Value.bool false)) rfl (by decide) (by decide) rfl (fun w => (Step.pick (t := false) rfl rfl)) ?_
            refine TW.pure (v := (Value.bool false)) rfl (by decide) (by decide) rfl (fun w => (Step.move rfl)) ?_
            refine TW.read (v := (Value.agg #[(Value.string x69.pane.key), (Value.int .i64 x69.pane.start), (Value.int .i64 x69.pane.fin)])) rfl (by decide) (by decide) rfl (fun A w M => (Step.loadN Try.ag113 rfl (M.blk 2 rfl) (Nat.le_of_ble_eq_true rfl) rfl)) ?_
            refine TW.read (v := (Value.agg #[(Value.string x69.pane.key), (Value.int .i64 x69.pane.start), (Value.int .i64 x69.pane.fin)])) rfl (by decide) (by decide) rfl (fun A w M => (Step.loadN Try.ag113 rfl (M.blk 2 rfl) (Nat.le_of_ble_eq_true rfl) rfl)) ?_
            refine TW.callX (ι := Unit) (fun jx v_ => v_ = (Value.int .i64 (primV x69.pane x69.pane))) (fun jx => [blk b86 (.cells #[(Value.string x72.pane.key), (Value.int .i64 x72.pane.start), (Value.int .i64 x72.pane.fin)] 113), blk b85 (.cells #[(Value.string x69.pane.key), (Value.int .i64 x69.pane.start), (Value.int .i64 x69.pane.fin)] 113), own 169 7 v11 l.length (l.flatMap rowE)]) (fun jx => [SlAt 7 lv l.length (l.flatMap rowE), SlAt 7 ov other.length (other.flatMap rowE)]) rfl (by decide) rfl (fun jx => (List.Sublist.cons_cons _ (List.Sublist.cons_cons _ (List.Sublist.cons_cons _ List.Sublist.slnil)))) (fun jx r h => h) (fun A w M => Rets.mono (agg_prim x69.pane x69.pane (M.enterW0 trivial)) (fun v_ w_ ⟨e_, m⟩ => ⟨(), e_, (M.leaveW0 m).sel (L' := [fl A, blk b86 (.cells #[(Value.string x72.pane.key), (Value.int .i64 x72.pane.start), (Value.int .i64 x72.pane.fin)] 113), blk b85 (.cells #[(Value.string x69.pane.key), (Value.int .i64 x69.pane.start), (Value.int .i64 x69.pane.fin)] 113), own 169 7 v11 l.length (l.flatMap rowE)]) [0, 1, 2, 3] rfl (by decide), fun b hb => M.keptW0 m (fl A) (List.mem_cons_self ..) b hb⟩)) (fun w => CallsF.func Try.en64 rfl) (fun jx v hp hin => ?_)
            replace hp := hp.symm; subst hp
            clear hin
            change TW _ _ _ _ _ _ _ _ (MemA _ _ _ [blk b86 (.cells #[(Value.string x72.pane.key), (Value.int .i64 x72.pane.start), (Value.int .i64 x72.pane.fin)] 113), blk b85 (.cells #[(Value.string x69.pane.key), (Value.int .i64 x69.pane.start), (Value.int .i64 x69.pane.fin)] 113), own 169 7 v11 l.length (l.flatMap rowE)] [SlAt 7 lv l.length (l.flatMap rowE), SlAt 7 ov other.length (other.flatMap rowE)])
            refine TW.pure (v := (Value.bool false)) rfl (by decide) (by decide) rfl (fun w => (Step.cast (congrArg Value.bool (show ((primV x69.pane x69.pane : Int) != (0 : Int)) = false by rw [primV_self]; rfl)) (Step.pure (by kernel_rfl)))) ?_
            refine TW.pure (v := (Value.bool false)) rfl (by decide) (by decide) rfl (fun w => (Step.pick (t := false) rfl rfl)) ?_
            refine TW.done (fun w88 M => ?_)
            refine W.cond (t := false) rfl (fun h => by cases h) (fun _ => ?_)
            refine W.skip ?_
            refine W.region rfl ?_
            refine WL.step (v := (Value.int .i64 ↑j_)) rfl (Step.move rfl) ?_
            refine WL.step (v := (Value.int .i64 (↑j_ + 1))) rfl (Step.add rfl rfl (wrap_i64 (by omega))) ?_
            refine WL.step (v := (Value.int .i64 (↑j_ + 1))) rfl (Step.assign rfl) ?_
            refine WL.nil ?_
            replace M := M.sel (L' := [own 169 7 v11 l.length (l.flatMap rowE)]) [2] rfl (by decide)
            exact ⟨_, (by omega), j_ + 1, ⟨(by omega), rfl⟩, ⟨rfl, rfl, rfl, rfl, rfl, rfl⟩, M⟩
          ·
            have h66p := of_decide_eq_false h66
            refine W.exit ?_
            refine thn_exit ?_
            refine thn_exit ?_
            refine inBlk_hit ?_
            refine W.seq' ?_
            refine W.region rfl ?_
            refine WL.step (v := lv) rfl (Step.move rfl) ?_
            refine WL.step (v := ov) rfl (Step.move rfl) ?_
            refine WL.callX rfl (agg_same lv l ov other (M.enterW0 ⟨(M.wideR0 0 rfl), (M.wideR0 1 rfl), trivial⟩)) (CallsF.func Try.en69 rfl) ?_
            rintro _ w89 ⟨rfl, m⟩
            replace M := M.leaveW0 m
            clear m
            replace M : Mem _ _ _ [own 169 7 v11 l.length (l.flatMap rowE)] [SlAt 7 lv l.length (l.flatMap rowE), SlAt 7 ov other.length (other.flatMap rowE)] _ := M
            refine WL.step (v := v11) rfl (Step.move rfl) ?_
            refine WL.step (v := ov) rfl (Step.move rfl) ?_
            refine WL.callX rfl (law5_rows ov other (by first | omega | assumption | decide | (rw [sortV_len]; omega) | (simp only [List.length_nil, List.length_cons, List.length_take, List.length_drop]; omega)) (M.enterW0 ⟨(M.wideR0 1 rfl), trivial⟩)) (CallsF.func Try.en60 rfl) ?_
            rintro v90 w91 ⟨_, rfl, m⟩
            replace M := M.leaveW0 m
            clear m
            replace M : Mem _ _ _ [own 169 7 v90 other.length (other.flatMap rowE), own 169 7 v11 l.length (l.flatMap rowE)] [SlAt 7 lv l.length (l.flatMap rowE), SlAt 7 ov other.length (other.flatMap rowE)] _ := M
            have sl92 : IsSl v90 := SlAt.isSl (own_slAt (Mem.chunk M 0 rfl).inv)
            have hle93 := SlAt.le' (own_slAt (Mem.chunk M 0 rfl).inv)
            refine WL.callX rfl (ref5_same v11 l v90 other (M.enterW0 ⟨((M.wideC0 1 rfl).imp fun _ h => own_slAt h), ((M.wideC0 0 rfl).imp fun _ h => own_slAt h), trivial⟩)) (CallsF.func Try.en62 rfl) ?_
            rintro _ w94 ⟨rfl, m⟩
            replace M := M.leaveW0 m
            clear m
            replace M : Mem _ _ _ [own 169 7 v90 other.length (other.flatMap rowE), own 169 7 v11 l.length (l.flatMap rowE)] [SlAt 7 lv l.length (l.flatMap rowE), SlAt 7 ov other.length (other.flatMap rowE)] _ := M
            refine WL.step (v := (Value.bool true)) rfl (Step.cast (congrArg Value.bool (by simp)) (Step.pure (v := .bool (((decide (l = other)) == (decide (l = other))))) (by kernel_rfl))) ?_
            refine WL.step (v := (Value.bool true)) rfl (Step.move rfl) ?_
            refine WL.step (v := lv) rfl (Step.move rfl) ?_
            refine WL.step (v := lv) rfl (Step.move rfl) ?_
            refine WL.callX rfl (agg_same lv l lv l (M.enterW0 ⟨(M.wideR0 0 rfl), (M.wideR0 0 rfl), trivial⟩)) (CallsF.func Try.en69 rfl) ?_
            rintro _ w95 ⟨rfl, m⟩
            replace M := M.leaveW0 m
            clear m
            replace M : Mem _ _ _ [own 169 7 v90 other.length (other.flatMap rowE), own 169 7 v11 l.length (l.flatMap rowE)] [SlAt 7 lv l.length (l.flatMap rowE), SlAt 7 ov other.length (other.flatMap rowE)] _ := M
            rw [(show (decide (l = l)) = true by simp)]
            refine WL.step (v := (Value.bool true)) rfl (Step.pick (t := true) rfl rfl) ?_
            refine WL.step (v := (Value.bool true)) rfl (Step.move rfl) ?_
            refine WL.callX rfl (law5_works  (M.enterW0 trivial)) (CallsF.func Try.en59 rfl) ?_
            rintro _ w96 ⟨rfl, m⟩
            replace M := M.leaveW0 m
            clear m
            replace M : Mem _ _ _ [own 169 7 v90 other.length (other.flatMap rowE), own 169 7 v11 l.length (l.flatMap rowE)] [SlAt 7 lv l.length (l.flatMap rowE), SlAt 7 ov other.length (other.flatMap rowE)] _ := M
            refine WL.step (v := (Value.bool true)) rfl (Step.pick (t := true) rfl rfl) ?_
            refine WL.step (v := (Value.bool true)) rfl (Step.assign rfl) ?_
            refine WL.nil ?_
            refine W.ret ?_
            refine ⟨.inl rfl, (Value.bool true), ?_, ?_⟩
            · exact ⟨rfl, (Res.r1 (show RV _ _ _ (.tmp 4) (Value.bool true) from by exact rfl))⟩
            refine ⟨?_, M.close [] rfl (by decide) trivial⟩
            rfl
        ·
          have h65p := of_decide_eq_false h65
          rw [h65]
          refine WL.pass rfl ?_
          refine WL.pass rfl ?_
          refine WL.pass rfl ?_
          refine WL.pass rfl ?_
          refine WL.step (v := (Value.bool false)) rfl (Step.pick (t := false) rfl rfl) ?_
          refine WL.nil ?_
          refine W.cond (t := false) rfl (fun h => by cases h) (fun _ => ?_)
          refine W.exit ?_
          refine thn_exit ?_
          refine thn_exit ?_
          refine inBlk_hit ?_
          refine W.seq' ?_
          refine W.region rfl ?_
          refine WL.step (v := lv) rfl (Step.move rfl) ?_
          refine WL.step (v := ov) rfl (Step.move rfl) ?_
          refine WL.callX rfl (agg_same lv l ov other (M.enterW0 ⟨(M.wideR0 0 rfl), (M.wideR0 1 rfl), trivial⟩)) (CallsF.func Try.en69 rfl) ?_
          rintro _ w97 ⟨rfl, m⟩
          replace M := M.leaveW0 m
          clear m
          replace M : Mem _ _ _ [own 169 7 v11 l.length (l.flatMap rowE)] [SlAt 7 lv l.length (l.flatMap rowE), SlAt 7 ov other.length (other.flatMap rowE)] _ := M
          refine WL.step (v := v11) rfl (Step.move rfl) ?_
          refine WL.step (v := ov) rfl (Step.move rfl) ?_
          refine WL.callX rfl (law5_rows ov other (by first | omega | assumption | decide | (rw [sortV_len]; omega) | (simp only [List.length_nil, List.length_cons, List.length_take, List.length_drop]; omega)) (M.enterW0 ⟨(M.wideR0 1 rfl), trivial⟩)) (CallsF.func Try.en60 rfl) ?_
          rintro v98 w99 ⟨_, rfl, m⟩
          replace M := M.leaveW0 m
          clear m
          replace M : Mem _ _ _ [own 169 7 v98 other.length (other.flatMap rowE), own 169 7 v11 l.length (l.flatMap rowE)] [SlAt 7 lv l.length (l.flatMap rowE), SlAt 7 ov other.length (other.flatMap rowE)] _ := M
          have sl100 : IsSl v98 := SlAt.isSl (own_slAt (Mem.chunk M 0 rfl).inv)
          have hle101 := SlAt.le' (own_slAt (Mem.chunk M 0 rfl).inv)
          refine WL.callX rfl (ref5_same v11 l v98 other (M.enterW0 ⟨((M.wideC0 1 rfl).imp fun _ h => own_slAt h), ((M.wideC0 0 rfl).imp fun _ h => own_slAt h), trivial⟩)) (CallsF.func Try.en62 rfl) ?_
          rintro _ w102 ⟨rfl, m⟩
          replace M := M.leaveW0 m
          clear m
          replace M : Mem _ _ _ [own 169 7 v98 other.length (other.flatMap rowE), own 169 7 v11 l.length (l.flatMap rowE)] [SlAt 7 lv l.length (l.flatMap rowE), SlAt 7 ov other.length (other.flatMap rowE)] _ := M
          refine WL.step (v := (Value.bool true)) rfl (Step.cast (congrArg Value.bool (by simp)) (Step.pure (v := .bool (((decide (l = other)) == (decide (l = other))))) (by kernel_rfl))) ?_
          refine WL.step (v := (Value.bool true)) rfl (Step.move rfl) ?_
          refine WL.step (v := lv) rfl (Step.move rfl) ?_
          refine WL.step (v := lv) rfl (Step.move rfl) ?_
          refine WL.callX rfl (agg_same lv l lv l (M.enterW0 ⟨(M.wideR0 0 rfl), (M.wideR0 0 rfl), trivial⟩)) (CallsF.func Try.en69 rfl) ?_
          rintro _ w103 ⟨rfl, m⟩
          replace M := M.leaveW0 m
          clear m
          replace M : Mem _ _ _ [own 169 7 v98 other.length (other.flatMap rowE), own 169 7 v11 l.length (l.flatMap rowE)] [SlAt 7 lv l.length (l.flatMap rowE), SlAt 7 ov other.length (other.flatMap rowE)] _ := M
          rw [(show (decide (l = l)) = true by simp)]
          refine WL.step (v := (Value.bool true)) rfl (Step.pick (t := true) rfl rfl) ?_
          refine WL.step (v := (Value.bool true)) rfl (Step.move rfl) ?_
          refine WL.callX rfl (law5_works  (M.enterW0 trivial)) (CallsF.func Try.en59 rfl) ?_
          rintro _ w104 ⟨rfl, m⟩
          replace M := M.leaveW0 m
          clear m
          replace M : Mem _ _ _ [own 169 7 v98 other.length (other.flatMap rowE), own 169 7 v11 l.length (l.flatMap rowE)] [SlAt 7 lv l.length (l.flatMap rowE), SlAt 7 ov other.length (other.flatMap rowE)] _ := M
          refine WL.step (v := (Value.bool true)) rfl (Step.pick (t := true) rfl rfl) ?_
          refine WL.step (v := (Value.bool true)) rfl (Step.assign rfl) ?_
          refine WL.nil ?_
          refine W.ret ?_
          refine ⟨.inl rfl, (Value.bool true), ?_, ?_⟩
          · exact ⟨rfl, (Res.r1 (show RV _ _ _ (.tmp 4) (Value.bool true) from by exact rfl))⟩
          refine ⟨?_, M.close [] rfl (by decide) trivial⟩
          rfl
end Go.Proofs
