/- Walks. -/
import Derived.Test.YtlehkjkpgmkbiaaTrG5
set_option maxRecDepth 100000
set_option linter.all false
namespace Go.Proofs
open Go Tp
theorem Try.un107 : Und Try.prog 107 (.slice 169) := by unfold Und; kernel_rfl
theorem Try.ag169 : Aggr Try.prog 169 7 := ⟨fun _ => by kernel_rfl, fun _ => by kernel_rfl⟩
theorem Try.ag171 : Aggr Try.prog 171 1 := ⟨fun _ => by kernel_rfl, fun _ => by kernel_rfl⟩
theorem Try.el116 : Elem Try.prog 116 Value.nilFunc 1 8 := Elem.mk (by kernel_rfl)
theorem Try.el118 : Elem Try.prog 118 (Value.agg #[(Value.string (⟨#[]⟩)), (Value.int .i64 0), (Value.int .i64 0)]) 3 32 := Elem.mk (by kernel_rfl)
theorem Try.el169 : Elem Try.prog 169 (Value.agg #[(Value.string (⟨#[]⟩)), (Value.int .i64 0), (Value.int .i64 0), (Value.int .i64 0), (Value.int .i64 0), (Value.int .i64 0), (Value.int .i64 0)]) 7 64 := Elem.mk (by kernel_rfl)
theorem Try.el171 : Elem Try.prog 171 (Value.agg #[Value.nilFunc]) 1 8 := Elem.mk (by kernel_rfl)
theorem Try.en66 : Enters Try.prog 66 := fun _ _ => by kernel_rfl
theorem Try.en68 : Enters Try.prog 68 := fun _ _ => by kernel_rfl
theorem Try.en107 : Enters Try.prog 107 := fun _ _ => by kernel_rfl
theorem Try.en108 : Enters Try.prog 108 := fun _ _ => by kernel_rfl
theorem Try.en109 : Enters Try.prog 109 := fun _ _ => by kernel_rfl
theorem Try.en115 : Enters Try.prog 115 := fun _ _ => by kernel_rfl
theorem Try.fl113 : (Try.prog.fieldsOf 113).toList = [⟨ "Key", 9, 0, false, "", "", 0⟩, ⟨ "Start", 2, 1, false, "", "", 16⟩, ⟨ "End", 2, 2, false, "", "", 24⟩] := by kernel_rfl
theorem Try.fl115 : (Try.prog.fieldsOf 115).toList = [⟨ "Pane", 113, 0, false, "", "", 0⟩, ⟨ "Agg", 32, 3, false, "", "", 32⟩] := by kernel_rfl
theorem Try.eg115 : Try.prog.eqGuardType Try.prog.depth 115 = false := by kernel_rfl
theorem Try.eq115 (d : Nat) (a0 : ByteArray) (a1 : Int) (a2 : Int) (a3 : Int) (a4 : Int) (a5 : Int) (a6 : Int) (b0 : ByteArray) (b1 : Int) (b2 : Int) (b3 : Int) (b4 : Int) (b5 : Int) (b6 : Int) : ∀ w, (Op.equalIn (d + 3) 115 (Value.agg #[(Value.string a0), (Value.int .i64 a1), (Value.int .i64 a2), (Value.int .i64 a3), (Value.int .i64 a4), (Value.int .i64 a5), (Value.int .i64 a6)]) (Value.agg #[(Value.string b0), (Value.int .i64 b1), (Value.int .i64 b2), (Value.int .i64 b3), (Value.int .i64 b4), (Value.int .i64 b5), (Value.int .i64 b6)])).run Try.prog w = .ok (((a0.toList == b0.toList) && (((a1 : Int) == (b1 : Int)) && (((a2 : Int) == (b2 : Int)) && true))) && ((((a3 : Int) == (b3 : Int)) && (((a4 : Int) == (b4 : Int)) && (((a5 : Int) == (b5 : Int)) && (((a6 : Int) == (b6 : Int)) && true)))) && true)) w :=
  (eq_struct (by kernel_rfl) (by kernel_rfl) (Try.fl115) (eqF_cons (x := (Value.agg #[(Value.string a0), (Value.int .i64 a1), (Value.int .i64 a2)])) (y := (Value.agg #[(Value.string b0), (Value.int .i64 b1), (Value.int .i64 b2)])) (by decide) (fun _ => by kernel_rfl) (fun _ => by kernel_rfl) (eq_struct (by kernel_rfl) (by kernel_rfl) (Try.fl113) (eqF_cons (x := (Value.string a0)) (y := (Value.string b0)) (by decide) (fun _ => by kernel_rfl) (fun _ => by kernel_rfl) (fun w => run_equalIn_string w _ _ _ _ (by kernel_rfl)) (eqF_cons (x := (Value.int .i64 a1)) (y := (Value.int .i64 b1)) (by decide) (fun _ => by kernel_rfl) (fun _ => by kernel_rfl) (fun w => run_equalIn_int w _ _ _ .i64 _ _ (by kernel_rfl)) (eqF_cons (x := (Value.int .i64 a2)) (y := (Value.int .i64 b2)) (by decide) (fun _ => by kernel_rfl) (fun _ => by kernel_rfl) (fun w => run_equalIn_int w _ _ _ .i64 _ _ (by kernel_rfl)) eqF_nil)))) (eqF_cons (x := (Value.agg #[(Value.int .i64 a3), (Value.int .i64 a4), (Value.int .i64 a5), (Value.int .i64 a6)])) (y := (Value.agg #[(Value.int .i64 b3), (Value.int .i64 b4), (Value.int .i64 b5), (Value.int .i64 b6)])) (by decide) (fun _ => by kernel_rfl) (fun _ => by kernel_rfl) (eq_struct (by kernel_rfl) (by kernel_rfl) (Try.fl32) (eqF_cons (x := (Value.int .i64 a3)) (y := (Value.int .i64 b3)) (by decide) (fun _ => by kernel_rfl) (fun _ => by kernel_rfl) (fun w => run_equalIn_int w _ _ _ .i64 _ _ (by kernel_rfl)) (eqF_cons (x := (Value.int .i64 a4)) (y := (Value.int .i64 b4)) (by decide) (fun _ => by kernel_rfl) (fun _ => by kernel_rfl) (fun w => run_equalIn_int w _ _ _ .i64 _ _ (by kernel_rfl)) (eqF_cons (x := (Value.int .i64 a5)) (y := (Value.int .i64 b5)) (by decide) (fun _ => by kernel_rfl) (fun _ => by kernel_rfl) (fun w => run_equalIn_int w _ _ _ .i64 _ _ (by kernel_rfl)) (eqF_cons (x := (Value.int .i64 a6)) (y := (Value.int .i64 b6)) (by decide) (fun _ => by kernel_rfl) (fun _ => by kernel_rfl) (fun w => run_equalIn_int w _ _ _ .i64 _ _ (by kernel_rfl)) eqF_nil))))) eqF_nil)))
theorem Try.fl118 : (Try.prog.fieldsOf 118).toList = [⟨ "Key", 9, 0, false, "", "", 0⟩, ⟨ "Start", 2, 1, false, "", "", 16⟩, ⟨ "End", 2, 2, false, "", "", 24⟩] := by kernel_rfl
theorem Try.fl169 : (Try.prog.fieldsOf 169).toList = [⟨ "Pane", 118, 0, false, "", "", 0⟩, ⟨ "Agg", 45, 3, false, "", "", 32⟩] := by kernel_rfl
theorem Try.eg169 : Try.prog.eqGuardType Try.prog.depth 169 = false := by kernel_rfl
theorem Try.eq169 (d : Nat) (a0 : ByteArray) (a1 : Int) (a2 : Int) (a3 : Int) (a4 : Int) (a5 : Int) (a6 : Int) (b0 : ByteArray) (b1 : Int) (b2 : Int) (b3 : Int) (b4 : Int) (b5 : Int) (b6 : Int) : ∀ w, (Op.equalIn (d + 3) 169 (Value.agg #[(Value.string a0), (Value.int .i64 a1), (Value.int .i64 a2), (Value.int .i64 a3), (Value.int .i64 a4), (Value.int .i64 a5), (Value.int .i64 a6)]) (Value.agg #[(Value.string b0), (Value.int .i64 b1), (Value.int .i64 b2), (Value.int .i64 b3), (Value.int .i64 b4), (Value.int .i64 b5), (Value.int .i64 b6)])).run Try.prog w = .ok (((a0.toList == b0.toList) && (((a1 : Int) == (b1 : Int)) && (((a2 : Int) == (b2 : Int)) && true))) && ((((a3 : Int) == (b3 : Int)) && (((a4 : Int) == (b4 : Int)) && (((a5 : Int) == (b5 : Int)) && (((a6 : Int) == (b6 : Int)) && true)))) && true)) w :=
  (eq_struct (by kernel_rfl) (by kernel_rfl) (Try.fl169) (eqF_cons (x := (Value.agg #[(Value.string a0), (Value.int .i64 a1), (Value.int .i64 a2)])) (y := (Value.agg #[(Value.string b0), (Value.int .i64 b1), (Value.int .i64 b2)])) (by decide) (fun _ => by kernel_rfl) (fun _ => by kernel_rfl) (eq_struct (by kernel_rfl) (by kernel_rfl) (Try.fl118) (eqF_cons (x := (Value.string a0)) (y := (Value.string b0)) (by decide) (fun _ => by kernel_rfl) (fun _ => by kernel_rfl) (fun w => run_equalIn_string w _ _ _ _ (by kernel_rfl)) (eqF_cons (x := (Value.int .i64 a1)) (y := (Value.int .i64 b1)) (by decide) (fun _ => by kernel_rfl) (fun _ => by kernel_rfl) (fun w => run_equalIn_int w _ _ _ .i64 _ _ (by kernel_rfl)) (eqF_cons (x := (Value.int .i64 a2)) (y := (Value.int .i64 b2)) (by decide) (fun _ => by kernel_rfl) (fun _ => by kernel_rfl) (fun w => run_equalIn_int w _ _ _ .i64 _ _ (by kernel_rfl)) eqF_nil)))) (eqF_cons (x := (Value.agg #[(Value.int .i64 a3), (Value.int .i64 a4), (Value.int .i64 a5), (Value.int .i64 a6)])) (y := (Value.agg #[(Value.int .i64 b3), (Value.int .i64 b4), (Value.int .i64 b5), (Value.int .i64 b6)])) (by decide) (fun _ => by kernel_rfl) (fun _ => by kernel_rfl) (eq_struct (by kernel_rfl) (by kernel_rfl) (Try.fl45) (eqF_cons (x := (Value.int .i64 a3)) (y := (Value.int .i64 b3)) (by decide) (fun _ => by kernel_rfl) (fun _ => by kernel_rfl) (fun w => run_equalIn_int w _ _ _ .i64 _ _ (by kernel_rfl)) (eqF_cons (x := (Value.int .i64 a4)) (y := (Value.int .i64 b4)) (by decide) (fun _ => by kernel_rfl) (fun _ => by kernel_rfl) (fun w => run_equalIn_int w _ _ _ .i64 _ _ (by kernel_rfl)) (eqF_cons (x := (Value.int .i64 a5)) (y := (Value.int .i64 b5)) (by decide) (fun _ => by kernel_rfl) (fun _ => by kernel_rfl) (fun w => run_equalIn_int w _ _ _ .i64 _ _ (by kernel_rfl)) (eqF_cons (x := (Value.int .i64 a6)) (y := (Value.int .i64 b6)) (by decide) (fun _ => by kernel_rfl) (fun _ => by kernel_rfl) (fun w => run_equalIn_int w _ _ _ .i64 _ _ (by kernel_rfl)) eqF_nil))))) eqF_nil)))

theorem clone_row {G : Nat → Prop} {w : World} (v : Value) (xs : List Row5)  (hb : xs.length * 64 ≤ 140737488355328) (M : Mem G (fun _ => False) w [] [SlAt 7 v xs.length (xs.flatMap rowE)] w) : Rets Try.prog 108 #[v] w fun r w' => ∃ (v' : Value), r = v' ∧ Mem G (fun _ => False) w [own 115 7 v' xs.length (xs.flatMap rowE)] [] w' := by
  refine Rets.enter 8 _ Try.func108 rfl Try.ntmps108 Try.results108 (by simp) ?_
  have hle1 := SlAt.le' (M.rep 0 rfl)
  have sl2 : IsSl v := SlAt.isSl (Mem.rep M 0 rfl)
  refine W.seq' ?_
  refine W.region rfl ?_
  refine WL.step (v := (Value.slice none 0 0)) rfl (Step.assign rfl) ?_
  refine WL.nil ?_
  refine W.seq' ?_
  refine W.seq' ?_
  refine W.region rfl ?_
  refine WL.step (v := v) rfl (Step.move rfl) ?_
  rcases SlAt.cases (M.rep 0 rfl) with ⟨hn3, hn3z⟩ | ⟨_, _, hn3⟩
  ·
    refine WL.step (v := (Value.bool true)) rfl (Step.eqNil Try.un105 rfl hn3 rfl) ?_
    refine WL.nil ?_
    refine W.cond (t := true) rfl (fun _ => ?_) (fun h => by cases h)
    refine W.seq' ?_
    refine W.region rfl ?_
    refine WL.step (v := (Value.slice none 0 0)) rfl (Step.assign rfl) ?_
    refine WL.nil ?_
    refine W.ret ?_
    refine ⟨.inl rfl, (Value.slice none 0 0), ?_, ?_⟩
    · exact ⟨rfl, (Res.r1 (show RV _ _ _ (.tmp 2) (Value.slice none 0 0) from by exact rfl))⟩
    replace M := M.ownNil 115 7
    have e4 : xs = [] := by
      exact List.eq_nil_of_length_eq_zero hn3z
    replace M : Mem _ _ _ [own 115 7 (Value.slice none 0 0) (([] : List Row5).length) (([] : List Row5).flatMap rowE)] [SlAt 7 v xs.length (xs.flatMap rowE)] _ := M
    replace M := M.rechunk 0 (c' := own 115 7 (Value.slice none 0 0) xs.length (xs.flatMap rowE)) rfl (by rw [e4])
    replace M : Mem _ _ _ [own 115 7 (Value.slice none 0 0) xs.length (xs.flatMap rowE)] [SlAt 7 v xs.length (xs.flatMap rowE)] _ := M
    refine ⟨(Value.slice none 0 0), ?_, M.close [0] rfl (by decide) trivial⟩
    rfl
  ·
    refine WL.step (v := (Value.bool false)) rfl (Step.eqSome Try.un105 rfl hn3 rfl) ?_
    refine WL.nil ?_
    refine W.cond (t := false) rfl (fun h => by cases h) (fun _ => ?_)
    refine W.skip ?_
    refine W.seq' ?_
    refine W.region rfl ?_
    refine WL.new (obj := .cells #[] 115) (fun b => .slice (some ⟨b, 0, none⟩) 0 0) M rfl (fun w => Step.make (by kernel_rfl)) (fun b5 w6 hb5 M => ?_)
    refine WL.step (v := v) rfl (Step.move rfl) ?_
    replace M := M.ownBlk 0 (n := 0) (size := 7) rfl rfl (by decide)
    replace M : Mem _ _ _ [own 115 7 (Value.slice (some ⟨b5, 0, none⟩) 0 0) (([] : List Row5).length) (([] : List Row5).flatMap rowE)] [SlAt 7 v xs.length (xs.flatMap rowE)] _ := M
    refine WL.does rfl (M.appendF ([] : List Row5) xs (sv := v) 0 Try.un105 Try.el115 rfl (by decide) rfl rfl rfl (M.rep 0 rfl) rowE_cel (by have := trivial; simp only [maxLen, List.length_nil, List.length_cons, List.length_append]; omega) (by have := trivial; (try simp only [List.length_nil, List.length_cons, List.length_append]); omega)) ?_
    rintro v7 w8 M
    replace M : Mem _ _ _ [own 115 7 v7 xs.length (xs.flatMap rowE)] [SlAt 7 v xs.length (xs.flatMap rowE)] _ := M
    have sl9 : IsSl v7 := SlAt.isSl (own_slAt (M.chunk 0 rfl).inv)
    refine WL.step (v := v7) rfl (Step.assign rfl) ?_
    refine WL.nil ?_
    refine W.ret ?_
    refine ⟨.inl rfl, v7, ?_, ?_⟩
    · exact ⟨rfl, (Res.r1 (show RV _ _ _ (.tmp 2) v7 from by exact rfl))⟩
    refine ⟨v7, ?_, M.close [0] rfl (by decide) trivial⟩
    rfl

theorem agg_sort {G : Nat → Prop} {w : World} (second : Bool) (v : Value) (l : List Row5)  (hb : l.length ≤ 20) (M : Mem G (fun _ => False) w [] [SlAt 7 v l.length (l.flatMap rowE)] w) : Rets Try.prog 61 #[(Value.bool second), v] w fun r w' => ∃ (v' : Value), r = v' ∧ Mem G (fun _ => False) w [own 115 7 v' ((sortV (cmpRow second) l).length) ((sortV (cmpRow second) l).flatMap rowE)] [] w' := by
  refine Rets.enter 17 _ Try.func61 rfl Try.ntmps61 Try.results61 (by simp) ?_
  have hle1 := SlAt.le' (M.rep 0 rfl)
  have sl2 : IsSl v := SlAt.isSl (Mem.rep M 0 rfl)
  refine W.seq' ?_
  refine W.region rfl ?_
  refine WL.step (v := (Value.slice none 0 0)) rfl (Step.assign rfl) ?_
  refine WL.nil ?_
  refine W.seq' ?_
  refine W.region rfl ?_
  refine WL.step (v := (Value.agg #[(Value.func (.func 64) #[] #[])])) rfl (Step.pure (by kernel_rfl)) ?_
  refine WL.alloc (c := #[Value.nilFunc]) M rfl Try.el171.zero rfl (fun b3 w4 hb3 M => ?_)
  refine WL.store (v := (Value.agg #[(Value.func (.func 64) #[] #[])])) (cs := [(Value.func (.func 64) #[] #[])]) (c' := #[(Value.func (.func 64) #[] #[])]) M 0 rfl rfl Try.el171.sized rfl rfl rfl rfl (Nat.le_of_ble_eq_true rfl) (cel_cons rfl cel_nil) rfl rfl (fun w5 M => ?_)
  refine WL.nil ?_
  refine W.seq' ?_
  refine W.seq' ?_
  refine W.region rfl ?_
  refine WL.step (v := (Value.bool second)) rfl (Step.move rfl) ?_
  refine WL.nil ?_
  refine W.cond (t := second) rfl (fun h6 => ?_) (fun h6 => ?_)
  ·
    refine W.region rfl ?_
    refine WL.step (v := (Value.pointer (some ⟨b3, 0, none⟩))) rfl (Step.pure (by kernel_rfl)) ?_
    refine WL.store (v := (Value.func (.func 67) #[] #[])) (cs := [(Value.func (.func 67) #[] #[])]) (c' := #[(Value.func (.func 67) #[] #[])]) M 0 rfl rfl Try.el116.sized rfl rfl rfl rfl (Nat.le_of_ble_eq_true rfl) (cel_cons rfl cel_nil) rfl rfl (fun w7 M => ?_)
    refine WL.nil ?_
    refine W.seq' ?_
    refine W.region rfl ?_
    refine WL.step (v := v) rfl (Step.move rfl) ?_
    refine WL.callX rfl (clone_row v l (by omega) (M.enterW0 ⟨(M.wideR0 0 rfl), trivial⟩)) (CallsF.func Try.en108 rfl) ?_
    rintro v8 w9 ⟨_, rfl, m⟩
    replace M := M.leaveW0 m
    clear m
    replace M : Mem _ _ _ [own 115 7 v8 l.length (l.flatMap rowE), blk b3 (.cells #[(Value.func (.func 67) #[] #[])] 171)] [SlAt 7 v l.length (l.flatMap rowE)] _ := M
    have sl10 : IsSl v8 := SlAt.isSl (own_slAt (Mem.chunk M 0 rfl).inv)
    have hle11 := SlAt.le' (own_slAt (Mem.chunk M 0 rfl).inv)
    refine WL.step (v := v8) rfl (Step.assign rfl) ?_
    refine WL.nil ?_
    refine W.seq' ?_
    refine W.region rfl ?_
    refine WL.step (v := v8) rfl (Step.move rfl) ?_
    refine WL.step (v := (Value.agg #[(Value.func (.func 67) #[] #[])])) rfl (Step.loadN Try.ag171 rfl (M.blk 1 rfl) (Nat.le_of_ble_eq_true rfl) rfl) ?_
    refine WL.step (v := (Value.func (.func 110) #[(Value.agg #[(Value.func (.func 67) #[] #[])])] #[])) rfl (Step.pure (by kernel_rfl)) ?_
    refine WL.callX rfl (sstab_true v8 l (by first | omega | assumption) (M.enterW (C := [own 115 7 v8 l.length (l.flatMap rowE)]) (D := [blk b3 (.cells #[(Value.func (.func 67) #[] #[])] 171)]) [0, 1] rfl (by decide) trivial)) (CallsF.func Try.en109 rfl) ?_
    rintro _ w12 ⟨rfl, m⟩
    replace M := M.leaveW (C := [own 115 7 v8 l.length (l.flatMap rowE)]) (D := [blk b3 (.cells #[(Value.func (.func 67) #[] #[])] 171)]) [0, 1] rfl (by decide) m
    clear m
    replace M : Mem _ _ _ [own 115 7 v8 ((sortV (cmpRow true) l).length) ((sortV (cmpRow true) l).flatMap rowE), blk b3 (.cells #[(Value.func (.func 67) #[] #[])] 171)] [SlAt 7 v l.length (l.flatMap rowE)] _ := M
    have hle13 := SlAt.le' (own_slAt (Mem.chunk M 0 rfl).inv)
    refine WL.nil ?_
    refine W.seq' ?_
    refine W.region rfl ?_
    refine WL.step (v := v8) rfl (Step.move rfl) ?_
    refine WL.step (v := v8) rfl (Step.assign rfl) ?_
    refine WL.nil ?_
    refine W.ret ?_
    refine ⟨.inl rfl, v8, ?_, ?_⟩
    · exact ⟨rfl, (Res.r1 (show RV _ _ _ (.tmp 4) v8 from by exact rfl))⟩
    have e14 : sortV (cmpRow second) l = sortV (cmpRow true) l := by
      rw [h6]
    replace M := M.rechunk 0 (c' := own 115 7 v8 ((sortV (cmpRow second) l).length) ((sortV (cmpRow second) l).flatMap rowE)) rfl (congrArg (fun z => own 115 7 v8 z.length (z.flatMap rowE)) e14.symm)
    replace M : Mem _ _ _ [own 115 7 v8 ((sortV (cmpRow second) l).length) ((sortV (cmpRow second) l).flatMap rowE), blk b3 (.cells #[(Value.func (.func 67) #[] #[])] 171)] [SlAt 7 v l.length (l.flatMap rowE)] _ := M
    refine ⟨v8, ?_, M.close [0] rfl (by decide) trivial⟩
    rfl
  ·
    refine W.skip ?_
    refine W.seq' ?_
    refine W.region rfl ?_
    refine WL.step (v := v) rfl (Step.move rfl) ?_
    refine WL.callX rfl (clone_row v l (by omega) (M.enterW0 ⟨(M.wideR0 0 rfl), trivial⟩)) (CallsF.func Try.en108 rfl) ?_
    rintro v15 w16 ⟨_, rfl, m⟩
    replace M := M.leaveW0 m
    clear m
    replace M : Mem _ _ _ [own 115 7 v15 l.length (l.flatMap rowE), blk b3 (.cells #[(Value.func (.func 64) #[] #[])] 171)] [SlAt 7 v l.length (l.flatMap rowE)] _ := M
    have sl17 : IsSl v15 := SlAt.isSl (own_slAt (Mem.chunk M 0 rfl).inv)
    have hle18 := SlAt.le' (own_slAt (Mem.chunk M 0 rfl).inv)
    refine WL.step (v := v15) rfl (Step.assign rfl) ?_
    refine WL.nil ?_
    refine W.seq' ?_
    refine W.region rfl ?_
    refine WL.step (v := v15) rfl (Step.move rfl) ?_
    refine WL.step (v := (Value.agg #[(Value.func (.func 64) #[] #[])])) rfl (Step.loadN Try.ag171 rfl (M.blk 1 rfl) (Nat.le_of_ble_eq_true rfl) rfl) ?_
    refine WL.step (v := (Value.func (.func 110) #[(Value.agg #[(Value.func (.func 64) #[] #[])])] #[])) rfl (Step.pure (by kernel_rfl)) ?_
    refine WL.callX rfl (sstab_false v15 l (by first | omega | assumption) (M.enterW (C := [own 115 7 v15 l.length (l.flatMap rowE)]) (D := [blk b3 (.cells #[(Value.func (.func 64) #[] #[])] 171)]) [0, 1] rfl (by decide) trivial)) (CallsF.func Try.en109 rfl) ?_
    rintro _ w19 ⟨rfl, m⟩
    replace M := M.leaveW (C := [own 115 7 v15 l.length (l.flatMap rowE)]) (D := [blk b3 (.cells #[(Value.func (.func 64) #[] #[])] 171)]) [0, 1] rfl (by decide) m
    clear m
    replace M : Mem _ _ _ [own 115 7 v15 ((sortV (cmpRow false) l).length) ((sortV (cmpRow false) l).flatMap rowE), blk b3 (.cells #[(Value.func (.func 64) #[] #[])] 171)] [SlAt 7 v l.length (l.flatMap rowE)] _ := M
    have hle20 := SlAt.le' (own_slAt (Mem.chunk M 0 rfl).inv)
    refine WL.nil ?_
    refine W.seq' ?_
    refine W.region rfl ?_
    refine WL.step (v := v15) rfl (Step.move rfl) ?_
    refine WL.step (v := v15) rfl (Step.assign rfl) ?_
    refine WL.nil ?_
    refine W.ret ?_
    refine ⟨.inl rfl, v15, ?_, ?_⟩
    · exact ⟨rfl, (Res.r1 (show RV _ _ _ (.tmp 4) v15 from by exact rfl))⟩
    have e21 : sortV (cmpRow second) l = sortV (cmpRow false) l := by
      rw [h6]
    replace M := M.rechunk 0 (c' := own 115 7 v15 ((sortV (cmpRow second) l).length) ((sortV (cmpRow second) l).flatMap rowE)) rfl (congrArg (fun z => own 115 7 v15 z.length (z.flatMap rowE)) e21.symm)
    replace M : Mem _ _ _ [own 115 7 v15 ((sortV (cmpRow second) l).length) ((sortV (cmpRow second) l).flatMap rowE), blk b3 (.cells #[(Value.func (.func 64) #[] #[])] 171)] [SlAt 7 v l.length (l.flatMap rowE)] _ := M
    refine ⟨v15, ?_, M.close [0] rfl (by decide) trivial⟩
    rfl

theorem equal_row {G : Nat → Prop} {w : World} (v : Value) (xs : List Row5) (u : Value) (ys : List Row5)   (M : Mem G (fun _ => False) w [] [SlAt 7 v xs.length (xs.flatMap rowE), SlAt 7 u ys.length (ys.flatMap rowE)] w) : Rets Try.prog 115 #[v, u] w fun r w' => r = (Value.bool (decide (xs = ys))) ∧ Mem G (fun _ => False) w [] [] w' := by
  refine Rets.enter 26 _ Try.func115 rfl Try.ntmps115 Try.results115 (by simp) ?_
  have hle1 := SlAt.le' (M.rep 0 rfl)
  have hle2 := SlAt.le' (M.rep 1 rfl)
  have sl3 : IsSl v := SlAt.isSl (Mem.rep M 0 rfl)
  have sl4 : IsSl u := SlAt.isSl (Mem.rep M 1 rfl)
  refine W.seq' ?_
  refine W.region rfl ?_
  refine WL.step (v := (Value.bool false)) rfl (Step.assign rfl) ?_
  refine WL.nil ?_
  refine W.seq' ?_
  refine W.seq' ?_
  refine W.region rfl ?_
  refine WL.step (v := v) rfl (Step.move rfl) ?_
  refine WL.step (v := (Value.int .i64 ↑xs.length)) rfl (Step.lenSl Try.un105 rfl (M.rep 0 rfl)) ?_
  refine WL.step (v := u) rfl (Step.move rfl) ?_
  refine WL.step (v := (Value.int .i64 ↑ys.length)) rfl (Step.lenSl Try.un105 rfl (M.rep 1 rfl)) ?_
  refine WL.step (v := (Value.bool ((↑xs.length : Int) != (↑ys.length : Int)))) rfl (Step.pure (by kernel_rfl)) ?_
  refine WL.nil ?_
  refine W.cond (t := (↑xs.length : Int) != (↑ys.length : Int)) rfl (fun h5 => ?_) (fun h5 => ?_)
  ·
    have h5p : ¬ (↑xs.length : Int) = (↑ys.length : Int) := by simpa using h5
    refine W.seq' ?_
    refine W.region rfl ?_
    refine WL.step (v := (Value.bool false)) rfl (Step.assign rfl) ?_
    refine WL.nil ?_
    refine W.ret ?_
    refine ⟨.inl rfl, (Value.bool false), ?_, ?_⟩
    · exact ⟨rfl, (Res.r1 (show RV _ _ _ (.tmp 4) (Value.bool false) from by exact rfl))⟩
    refine ⟨?_, M.close [] rfl (by decide) trivial⟩
    refine congrArg Value.bool ?_
    exact eqL_len h5p
  ·
    have h5p : (↑xs.length : Int) = (↑ys.length : Int) := by simpa using h5
    refine W.skip ?_
    refine W.seq' ?_
    refine W.seq' ?_
    refine W.region rfl ?_
    refine WL.step (v := v) rfl (Step.move rfl) ?_
    refine WL.step (v := (Value.int .i64 ↑xs.length)) rfl (Step.lenSl Try.un105 rfl (M.rep 0 rfl)) ?_
    refine WL.step (v := (Value.int .i64 0)) rfl (Step.move rfl) ?_
    refine WL.nil ?_
    refine W.block ?_
    refine W.loop (fun kk ρ w' => ∃ (i_ : Nat), ((i_ ≤ xs.length) ∧ (xs.take i_ = ys.take i_) ∧ kk = xs.length - i_) ∧ ρ.has [(0, v), (1, u), (12, (Value.int .i64 ↑xs.length)), (13, (Value.int .i64 ↑i_))] ∧ Mem G (fun _ => False) w [] [SlAt 7 v xs.length (xs.flatMap rowE), SlAt 7 u ys.length (ys.flatMap rowE)]  w') _ ⟨0, ⟨(Nat.zero_le _), rfl, rfl⟩, ⟨rfl, rfl, rfl, rfl, rfl, rfl⟩, M⟩ ?_
    rintro _ ρ7 w6 ⟨i_, ⟨hi8, hi9, rfl⟩, hρ, M⟩
    obtain ⟨ρ7, rfl⟩ := hρ.know
    clear hρ
    refine W.seq' ?_
    refine W.region rfl ?_
    refine WL.step (v := (Value.bool (decide ((↑i_ : Int) < (↑xs.length : Int))))) rfl (Step.pure (by kernel_rfl)) ?_
    refine WL.nil ?_
    refine W.seq' ?_
    refine W.cond (t := decide ((↑i_ : Int) < (↑xs.length : Int))) rfl (fun h10 => ?_) (fun h10 => ?_)
    ·
      have h10p := of_decide_eq_true h10
      refine W.skip ?_
      refine W.seq' ?_
      refine W.block ?_
      refine W.seq' ?_
      refine W.region rfl ?_
      refine WL.step (v := (Value.int .i64 ↑i_)) rfl (Step.move rfl) ?_
      refine WL.step (v := (Value.int .i64 ↑i_)) rfl (Step.assign rfl) ?_
      refine WL.nil ?_
      refine W.seq' ?_
      obtain ⟨cap12, hb11⟩ := SlAt.base (M.rep 0 rfl) (by omega)
      obtain ⟨x13, hx13⟩ := elem_of_lt (xs := xs) (i := i_) (by omega)
      obtain ⟨cap15, hb14⟩ := SlAt.base (M.rep 1 rfl) (by omega)
      obtain ⟨x16, hx16⟩ := elem_of_lt (xs := ys) (i := i_) (by omega)
      refine W.drawn M [0, 1, 2, 3, 4, 5, 6, 7, 8] [] [] [] [SlAt 7 v xs.length (xs.flatMap rowE), SlAt 7 u ys.length (ys.flatMap rowE)] List.Sublist.slnil (fun _ h => h) Try.mixed (by kernel_rfl) ?_
      refine TW.pure (v := v) rfl (by decide) (by decide) rfl (fun w => (Step.move rfl)) ?_
      refine TW.pure (v := (Value.int .i64 ↑i_)) rfl (by decide) (by decide) rfl (fun w => (Step.move rfl)) ?_
      refine TW.pure (v := (Value.pointer (some ⟨(sBlk v), sOff v + i_ * 7, none⟩))) rfl (by decide) (by decide) rfl (fun w => (Step.indexAddr (i := i_) (Try.un105).run Try.el115.sized rfl rfl (by omega) hb11 (by omega))) ?_
      refine TW.read (v := (Value.agg #[(Value.string x13.pane.key), (Value.int .i64 x13.pane.start), (Value.int .i64 x13.pane.fin), (Value.int .i64 x13.agg.count), (Value.int .i64 x13.agg.sum), (Value.int .i64 x13.agg.min), (Value.int .i64 x13.agg.max)])) rfl (by decide) (by decide) rfl (fun A w M => (Step.loadEN (k := 0) (cs' := [(Value.string x13.pane.key), (Value.int .i64 x13.pane.start), (Value.int .i64 x13.pane.fin), (Value.int .i64 x13.agg.count), (Value.int .i64 x13.agg.sum), (Value.int .i64 x13.agg.min), (Value.int .i64 x13.agg.max)]) Try.ag115 (flat_ec (M.rep 0 rfl) hx13 rowE_len) (by decide) rfl rfl rfl)) ?_
      refine TW.pure (v := u) rfl (by decide) (by decide) rfl (fun w => (Step.move rfl)) ?_
      refine TW.pure (v := (Value.int .i64 ↑i_)) rfl (by decide) (by decide) rfl (fun w => (Step.move rfl)) ?_
      refine TW.pure (v := (Value.pointer (some ⟨(sBlk u), sOff u + i_ * 7, none⟩))) rfl (by decide) (by decide) rfl (fun w => (Step.indexAddr (i := i_) (Try.un105).run Try.el115.sized rfl rfl (by omega) hb14 (by omega))) ?_
      refine TW.read (v := (Value.agg #[(Value.string x16.pane.key), (Value.int .i64 x16.pane.start), (Value.int .i64 x16.pane.fin), (Value.int .i64 x16.agg.count), (Value.int .i64 x16.agg.sum), (Value.int .i64 x16.agg.min), (Value.int .i64 x16.agg.max)])) rfl (by decide) (by decide) rfl (fun A w M => (Step.loadEN (k := 0) (cs' := [(Value.string x16.pane.key), (Value.int .i64 x16.pane.start), (Value.int .i64 x16.pane.fin), (Value.int .i64 x16.agg.count), (Value.int .i64 x16.agg.sum), (Value.int .i64 x16.agg.min), (Value.int .i64 x16.agg.max)]) Try.ag115 (flat_ec (M.rep 1 rfl) hx16 rowE_len) (by decide) rfl rfl rfl)) ?_
      refine TW.pure (v := (Value.bool (!decide (x13 = x16)))) rfl (by decide) (by decide) rfl (fun w => (Step.cast (congrArg (fun z => Value.bool (!z)) (row_eqB x13 x16)) (Step.neqAgg Try.eg115 rfl rfl rfl (Try.eq115 9997 x13.pane.key (x13.pane.start : Int) (x13.pane.fin : Int) (x13.agg.count : Int) (x13.agg.sum : Int) (x13.agg.min : Int) (x13.agg.max : Int) x16.pane.key (x16.pane.start : Int) (x16.pane.fin : Int) (x16.agg.count : Int) (x16.agg.sum : Int) (x16.agg.min : Int) (x16.agg.max : Int))))) ?_
      refine TW.done (fun w17 M => ?_)
      refine W.cond (t := !decide (x13 = x16)) rfl (fun h18 => ?_) (fun h18 => ?_)
      ·
        refine W.seq' ?_
        refine W.region rfl ?_
        refine WL.step (v := (Value.bool false)) rfl (Step.assign rfl) ?_
        refine WL.nil ?_
        refine W.ret ?_
        refine ⟨.inl rfl, (Value.bool false), ?_, ?_⟩
        · exact ⟨rfl, (Res.r1 (show RV _ _ _ (.tmp 4) (Value.bool false) from by exact rfl))⟩
        refine ⟨?_, M.close [] rfl (by decide) trivial⟩
        refine congrArg Value.bool ?_
        exact eqL_at hx13 hx16 h18
      ·
        refine W.skip ?_
        refine W.region rfl ?_
        refine WL.step (v := (Value.int .i64 (↑i_ + 1))) rfl (Step.add rfl rfl (wrap_i64 (by omega))) ?_
        refine WL.step (v := (Value.int .i64 (↑i_ + 1))) rfl (Step.move rfl) ?_
        refine WL.nil ?_
        exact ⟨_, (by omega), i_ + 1, ⟨(by omega), (eqL_step hi9 hx13 hx16 h18), rfl⟩, ⟨rfl, rfl, rfl, rfl, rfl, rfl⟩, M⟩
    ·
      have h10p := of_decide_eq_false h10
      refine W.exit ?_
      refine thn_exit ?_
      refine thn_exit ?_
      refine inBlk_hit ?_
      refine W.seq' ?_
      refine W.region rfl ?_
      refine WL.step (v := (Value.bool true)) rfl (Step.assign rfl) ?_
      refine WL.nil ?_
      refine W.ret ?_
      refine ⟨.inl rfl, (Value.bool true), ?_, ?_⟩
      · exact ⟨rfl, (Res.r1 (show RV _ _ _ (.tmp 4) (Value.bool true) from by exact rfl))⟩
      refine ⟨?_, M.close [] rfl (by decide) trivial⟩
      refine congrArg Value.bool ?_
      exact eqL_all hi9 (by omega) h5p

theorem agg_same {G : Nat → Prop} {w : World} (v : Value) (xs : List Row5) (u : Value) (ys : List Row5)   (M : Mem G (fun _ => False) w [] [SlAt 7 v xs.length (xs.flatMap rowE), SlAt 7 u ys.length (ys.flatMap rowE)] w) : Rets Try.prog 69 #[v, u] w fun r w' => r = (Value.bool (decide (xs = ys))) ∧ Mem G (fun _ => False) w [] [] w' := by
  refine Rets.enter 8 _ Try.func69 rfl Try.ntmps69 Try.results69 (by simp) ?_
  have hle1 := SlAt.le' (M.rep 0 rfl)
  have hle2 := SlAt.le' (M.rep 1 rfl)
  have sl3 : IsSl v := SlAt.isSl (Mem.rep M 0 rfl)
  have sl4 : IsSl u := SlAt.isSl (Mem.rep M 1 rfl)
  refine W.seq' ?_
  refine W.region rfl ?_
  refine WL.step (v := (Value.bool false)) rfl (Step.assign rfl) ?_
  refine WL.nil ?_
  refine W.seq' ?_
  refine W.region rfl ?_
  refine WL.step (v := v) rfl (Step.move rfl) ?_
  refine WL.step (v := u) rfl (Step.move rfl) ?_
  refine WL.callX rfl (equal_row v xs u ys (M.enterW0 ⟨(M.wideR0 0 rfl), (M.wideR0 1 rfl), trivial⟩)) (CallsF.func Try.en115 rfl) ?_
  rintro _ w5 ⟨rfl, m⟩
  replace M := M.leaveW0 m
  clear m
  replace M : Mem _ _ _ [] [SlAt 7 v xs.length (xs.flatMap rowE), SlAt 7 u ys.length (ys.flatMap rowE)] _ := M
  refine WL.step (v := (Value.bool (decide (xs = ys)))) rfl (Step.assign rfl) ?_
  refine WL.nil ?_
  refine W.ret ?_
  refine ⟨.inl rfl, (Value.bool (decide (xs = ys))), ?_, ?_⟩
  · exact ⟨rfl, (Res.r1 (show RV _ _ _ (.tmp 4) (Value.bool (decide (xs = ys))) from by exact rfl))⟩
  refine ⟨?_, M.close [] rfl (by decide) trivial⟩
  rfl

theorem ref5_same {G : Nat → Prop} {w : World} (v : Value) (xs : List Row5) (u : Value) (ys : List Row5)   (M : Mem G (fun _ => False) w [] [SlAt 7 v xs.length (xs.flatMap rowE), SlAt 7 u ys.length (ys.flatMap rowE)] w) : Rets Try.prog 62 #[v, u] w fun r w' => r = (Value.bool (decide (xs = ys))) ∧ Mem G (fun _ => False) w [] [] w' := by
  refine Rets.enter 26 _ Try.func62 rfl Try.ntmps62 Try.results62 (by simp) ?_
  have hle1 := SlAt.le' (M.rep 0 rfl)
  have hle2 := SlAt.le' (M.rep 1 rfl)
  have sl3 : IsSl v := SlAt.isSl (Mem.rep M 0 rfl)
  have sl4 : IsSl u := SlAt.isSl (Mem.rep M 1 rfl)
  refine W.seq' ?_
  refine W.region rfl ?_
  refine WL.step (v := (Value.bool false)) rfl (Step.assign rfl) ?_
  refine WL.nil ?_
  refine W.seq' ?_
  refine W.seq' ?_
  refine W.region rfl ?_
  refine WL.step (v := v) rfl (Step.move rfl) ?_
  refine WL.step (v := (Value.int .i64 ↑xs.length)) rfl (Step.lenSl Try.un107 rfl (M.rep 0 rfl)) ?_
  refine WL.step (v := u) rfl (Step.move rfl) ?_
  refine WL.step (v := (Value.int .i64 ↑ys.length)) rfl (Step.lenSl Try.un107 rfl (M.rep 1 rfl)) ?_
  refine WL.step (v := (Value.bool ((↑xs.length : Int) != (↑ys.length : Int)))) rfl (Step.pure (by kernel_rfl)) ?_
  refine WL.nil ?_
  refine W.cond (t := (↑xs.length : Int) != (↑ys.length : Int)) rfl (fun h5 => ?_) (fun h5 => ?_)
  ·
    have h5p : ¬ (↑xs.length : Int) = (↑ys.length : Int) := by simpa using h5
    refine W.seq' ?_
    refine W.region rfl ?_
    refine WL.step (v := (Value.bool false)) rfl (Step.assign rfl) ?_
    refine WL.nil ?_
    refine W.ret ?_
    refine ⟨.inl rfl, (Value.bool false), ?_, ?_⟩
    · exact ⟨rfl, (Res.r1 (show RV _ _ _ (.tmp 4) (Value.bool false) from by exact rfl))⟩
    refine ⟨?_, M.close [] rfl (by decide) trivial⟩
    refine congrArg Value.bool ?_
    exact eqL_len h5p
  ·
    have h5p : (↑xs.length : Int) = (↑ys.length : Int) := by simpa using h5
    refine W.skip ?_
    refine W.seq' ?_
    refine W.seq' ?_
    refine W.region rfl ?_
    refine WL.step (v := (Value.int .i64 0)) rfl (Step.assign rfl) ?_
    refine WL.nil ?_
    refine W.block ?_
    refine W.loop (fun kk ρ w' => ∃ (i_ : Nat), ((i_ ≤ xs.length) ∧ (xs.take i_ = ys.take i_) ∧ kk = xs.length - i_) ∧ ρ.has [(0, v), (1, u), (5, (Value.int .i64 ↑i_))] ∧ Mem G (fun _ => False) w [] [SlAt 7 v xs.length (xs.flatMap rowE), SlAt 7 u ys.length (ys.flatMap rowE)]  w') _ ⟨0, ⟨(Nat.zero_le _), rfl, rfl⟩, ⟨rfl, rfl, rfl, rfl, rfl⟩, M⟩ ?_
    rintro _ ρ7 w6 ⟨i_, ⟨hi8, hi9, rfl⟩, hρ, M⟩
    obtain ⟨ρ7, rfl⟩ := hρ.know
    clear hρ
    refine W.seq' ?_
    refine W.seq' ?_
    refine W.region rfl ?_
    refine WL.step (v := (Value.int .i64 ↑i_)) rfl (Step.move rfl) ?_
    refine WL.step (v := v) rfl (Step.move rfl) ?_
    refine WL.step (v := (Value.int .i64 ↑xs.length)) rfl (Step.lenSl Try.un107 rfl (M.rep 0 rfl)) ?_
    refine WL.step (v := (Value.bool (decide ((↑i_ : Int) < (↑xs.length : Int))))) rfl (Step.pure (by kernel_rfl)) ?_
    refine WL.nil ?_
    refine W.cond (t := decide ((↑i_ : Int) < (↑xs.length : Int))) rfl (fun h10 => ?_) (fun h10 => ?_)
    ·
      have h10p := of_decide_eq_true h10
      refine W.skip ?_
      refine W.seq' ?_
      refine W.block ?_
      refine W.seq' ?_
      obtain ⟨cap12, hb11⟩ := SlAt.base (M.rep 0 rfl) (by omega)
      obtain ⟨x13, hx13⟩ := elem_of_lt (xs := xs) (i := i_) (by omega)
      obtain ⟨cap15, hb14⟩ := SlAt.base (M.rep 1 rfl) (by omega)
      obtain ⟨x16, hx16⟩ := elem_of_lt (xs := ys) (i := i_) (by omega)
      refine W.drawn M [0, 1, 2, 3, 4, 5, 6, 7, 8] [] [] [] [SlAt 7 v xs.length (xs.flatMap rowE), SlAt 7 u ys.length (ys.flatMap rowE)] List.Sublist.slnil (fun _ h => h) Try.mixed (by kernel_rfl) ?_
      refine TW.pure (v := v) rfl (by decide) (by decide) rfl (fun w => (Step.move rfl)) ?_
      refine TW.pure (v := (Value.int .i64 ↑i_)) rfl (by decide) (by decide) rfl (fun w => (Step.move rfl)) ?_
      refine TW.pure (v := (Value.pointer (some ⟨(sBlk v), sOff v + i_ * 7, none⟩))) rfl (by decide) (by decide) rfl (fun w => (Step.indexAddr (i := i_) (Try.un107).run Try.el169.sized rfl rfl (by omega) hb11 (by omega))) ?_
      refine TW.read (v := (Value.agg #[(Value.string x13.pane.key), (Value.int .i64 x13.pane.start), (Value.int .i64 x13.pane.fin), (Value.int .i64 x13.agg.count), (Value.int .i64 x13.agg.sum), (Value.int .i64 x13.agg.min), (Value.int .i64 x13.agg.max)])) rfl (by decide) (by decide) rfl (fun A w M => (Step.loadEN (k := 0) (cs' := [(Value.string x13.pane.key), (Value.int .i64 x13.pane.start), (Value.int .i64 x13.pane.fin), (Value.int .i64 x13.agg.count), (Value.int .i64 x13.agg.sum), (Value.int .i64 x13.agg.min), (Value.int .i64 x13.agg.max)]) Try.ag169 (flat_ec (M.rep 0 rfl) hx13 rowE_len) (by decide) rfl rfl rfl)) ?_
      refine TW.pure (v := u) rfl (by decide) (by decide) rfl (fun w => (Step.move rfl)) ?_
      refine TW.pure (v := (Value.int .i64 ↑i_)) rfl (by decide) (by decide) rfl (fun w => (Step.move rfl)) ?_
      refine TW.pure (v := (Value.pointer (some ⟨(sBlk u), sOff u + i_ * 7, none⟩))) rfl (by decide) (by decide) rfl (fun w => (Step.indexAddr (i := i_) (Try.un107).run Try.el169.sized rfl rfl (by omega) hb14 (by omega))) ?_
      refine TW.read (v := (Value.agg #[(Value.string x16.pane.key), (Value.int .i64 x16.pane.start), (Value.int .i64 x16.pane.fin), (Value.int .i64 x16.agg.count), (Value.int .i64 x16.agg.sum), (Value.int .i64 x16.agg.min), (Value.int .i64 x16.agg.max)])) rfl (by decide) (by decide) rfl (fun A w M => (Step.loadEN (k := 0) (cs' := [(Value.string x16.pane.key), (Value.int .i64 x16.pane.start), (Value.int .i64 x16.pane.fin), (Value.int .i64 x16.agg.count), (Value.int .i64 x16.agg.sum), (Value.int .i64 x16.agg.min), (Value.int .i64 x16.agg.max)]) Try.ag169 (flat_ec (M.rep 1 rfl) hx16 rowE_len) (by decide) rfl rfl rfl)) ?_
      refine TW.pure (v := (Value.bool (!decide (x13 = x16)))) rfl (by decide) (by decide) rfl (fun w => (Step.cast (congrArg (fun z => Value.bool (!z)) (row_eqB x13 x16)) (Step.neqAgg Try.eg169 rfl rfl rfl (Try.eq169 9997 x13.pane.key (x13.pane.start : Int) (x13.pane.fin : Int) (x13.agg.count : Int) (x13.agg.sum : Int) (x13.agg.min : Int) (x13.agg.max : Int) x16.pane.key (x16.pane.start : Int) (x16.pane.fin : Int) (x16.agg.count : Int) (x16.agg.sum : Int) (x16.agg.min : Int) (x16.agg.max : Int))))) ?_
      refine TW.done (fun w17 M => ?_)
      refine W.cond (t := !decide (x13 = x16)) rfl (fun h18 => ?_) (fun h18 => ?_)
      ·
        refine W.seq' ?_
        refine W.region rfl ?_
        refine WL.step (v := (Value.bool false)) rfl (Step.assign rfl) ?_
        refine WL.nil ?_
        refine W.ret ?_
        refine ⟨.inl rfl, (Value.bool false), ?_, ?_⟩
        · exact ⟨rfl, (Res.r1 (show RV _ _ _ (.tmp 4) (Value.bool false) from by exact rfl))⟩
        refine ⟨?_, M.close [] rfl (by decide) trivial⟩
        refine congrArg Value.bool ?_
        exact eqL_at hx13 hx16 h18
      ·
        refine W.skip ?_
        refine W.region rfl ?_
        refine WL.step (v := (Value.int .i64 ↑i_)) rfl (Step.move rfl) ?_
        refine WL.step (v := (Value.int .i64 (↑i_ + 1))) rfl (Step.add rfl rfl (wrap_i64 (by omega))) ?_
        refine WL.step (v := (Value.int .i64 (↑i_ + 1))) rfl (Step.assign rfl) ?_
        refine WL.nil ?_
        exact ⟨_, (by omega), i_ + 1, ⟨(by omega), (eqL_step hi9 hx13 hx16 h18), rfl⟩, ⟨rfl, rfl, rfl, rfl, rfl⟩, M⟩
    ·
      have h10p := of_decide_eq_false h10
      refine W.exit ?_
      refine thn_exit ?_
      refine thn_exit ?_
      refine inBlk_hit ?_
      refine W.seq' ?_
      refine W.region rfl ?_
      refine WL.step (v := (Value.bool true)) rfl (Step.assign rfl) ?_
      refine WL.nil ?_
      refine W.ret ?_
      refine ⟨.inl rfl, (Value.bool true), ?_, ?_⟩
      · exact ⟨rfl, (Res.r1 (show RV _ _ _ (.tmp 4) (Value.bool true) from by exact rfl))⟩
      refine ⟨?_, M.close [] rfl (by decide) trivial⟩
      refine congrArg Value.bool ?_
      exact eqL_all hi9 (by omega) h5p

theorem ref5_sort {G : Nat → Prop} {w : World} (second : Bool) (v : Value) (l : List Row5)  (hb : l.length ≤ 1000000) (M : Mem G (fun _ => False) w [] [SlAt 7 v l.length (l.flatMap rowE)] w) : Rets Try.prog 63 #[(Value.bool second), v] w fun r w' => ∃ (v' : Value), r = v' ∧ Mem G (fun _ => False) w [own 169 7 v' ((sortV (cmpRow second) l).length) ((sortV (cmpRow second) l).flatMap rowE)] [] w' := by
  refine Rets.enter 71 _ Try.func63 rfl Try.ntmps63 Try.results63 (by simp) ?_
  have hle1 := SlAt.le' (M.rep 0 rfl)
  have sl2 : IsSl v := SlAt.isSl (Mem.rep M 0 rfl)
  refine W.seq' ?_
  refine W.region rfl ?_
  refine WL.step (v := (Value.slice none 0 0)) rfl (Step.assign rfl) ?_
  refine WL.nil ?_
  refine W.seq' ?_
  refine W.region rfl ?_
  refine WL.step (v := (Value.slice none 0 0)) rfl (Step.assign rfl) ?_
  refine WL.nil ?_
  refine W.seq' ?_
  refine W.seq' ?_
  refine W.region rfl ?_
  refine WL.step (v := (Value.int .i64 0)) rfl (Step.assign rfl) ?_
  refine WL.nil ?_
  refine W.block ?_
  replace M := M.ownNil 169 7
  replace M := M.rechunk 0 (c' := own 169 7 (Value.slice none 0 0) (((sortN (cmpRow second) l 0).take 0).length) (((sortN (cmpRow second) l 0).take 0).flatMap rowE)) rfl rfl
  replace M : Mem _ _ _ [own 169 7 (Value.slice none 0 0) (((sortN (cmpRow second) l 0).take 0).length) (((sortN (cmpRow second) l 0).take 0).flatMap rowE)] [SlAt 7 v l.length (l.flatMap rowE)] _ := M
  refine W.loop (fun kk ρ w' => ∃ (i_ : Nat) (acci_ : Value), ((i_ ≤ l.length) ∧ kk = l.length - i_) ∧ ρ.has [(0, (Value.bool second)), (1, v), (4, (Value.slice none 0 0)), (5, acci_), (6, (Value.int .i64 ↑i_))] ∧ Mem G (fun _ => False) w [own 169 7 acci_ (((sortN (cmpRow second) l i_).take i_).length) (((sortN (cmpRow second) l i_).take i_).flatMap rowE)] [SlAt 7 v l.length (l.flatMap rowE)]  w') _ ⟨0, _, ⟨(Nat.zero_le _), rfl⟩, ⟨rfl, rfl, rfl, rfl, rfl, rfl, rfl⟩, M⟩ ?_
  rintro _ ρ4 w3 ⟨i_, acci_, ⟨hi5, rfl⟩, hρ, M⟩
  obtain ⟨ρ4, rfl⟩ := hρ.know
  clear hρ
  have sl6 : IsSl acci_ := SlAt.isSl (own_slAt (M.chunk 0 rfl).inv)
  have hacl : ((sortN (cmpRow second) l i_).take i_).length = i_ := by rw [List.length_take, sortN_len]; omega
  refine W.seq' ?_
  refine W.seq' ?_
  refine W.region rfl ?_
  refine WL.step (v := (Value.int .i64 ↑i_)) rfl (Step.move rfl) ?_
  refine WL.step (v := v) rfl (Step.move rfl) ?_
  refine WL.step (v := (Value.int .i64 ↑l.length)) rfl (Step.lenSl Try.un107 rfl (M.rep 0 rfl)) ?_
  refine WL.step (v := (Value.bool (decide ((↑i_ : Int) < (↑l.length : Int))))) rfl (Step.pure (by kernel_rfl)) ?_
  refine WL.nil ?_
  refine W.cond (t := decide ((↑i_ : Int) < (↑l.length : Int))) rfl (fun h7 => ?_) (fun h7 => ?_)
  ·
    have h7p := of_decide_eq_true h7
    refine W.skip ?_
    refine W.seq' ?_
    refine W.block ?_
    refine W.seq' ?_
    refine W.region rfl ?_
    refine WL.step (v := acci_) rfl (Step.move rfl) ?_
    refine WL.step (v := v) rfl (Step.move rfl) ?_
    refine WL.step (v := (Value.int .i64 ↑i_)) rfl (Step.move rfl) ?_
    obtain ⟨cap9, hb8⟩ := SlAt.base (M.rep 0 rfl) (by omega)
    refine WL.step (v := (Value.pointer (some ⟨(sBlk v), sOff v + i_ * 7, none⟩))) rfl (Step.indexAddr (i := i_) (Try.un107).run Try.el169.sized rfl rfl (by omega) hb8 (by omega)) ?_
    obtain ⟨x10, hx10⟩ := elem_of_lt (xs := l) (i := i_) (by omega)
    refine WL.step (v := (Value.agg #[(Value.string x10.pane.key), (Value.int .i64 x10.pane.start), (Value.int .i64 x10.pane.fin), (Value.int .i64 x10.agg.count), (Value.int .i64 x10.agg.sum), (Value.int .i64 x10.agg.min), (Value.int .i64 x10.agg.max)])) rfl (Step.loadEN (k := 0) (cs' := [(Value.string x10.pane.key), (Value.int .i64 x10.pane.start), (Value.int .i64 x10.pane.fin), (Value.int .i64 x10.agg.count), (Value.int .i64 x10.agg.sum), (Value.int .i64 x10.agg.min), (Value.int .i64 x10.agg.max)]) Try.ag169 (flat_ec (M.rep 0 rfl) hx10 rowE_len) (by decide) rfl rfl rfl) ?_
    refine WL.new (obj := .cells #[(Value.string x10.pane.key), (Value.int .i64 x10.pane.start), (Value.int .i64 x10.pane.fin), (Value.int .i64 x10.agg.count), (Value.int .i64 x10.agg.sum), (Value.int .i64 x10.agg.min), (Value.int .i64 x10.agg.max)] 169) (fun b => .slice (some ⟨b, 0, none⟩) 1 1) M rfl (fun w => Step.make (by kernel_rfl)) (fun b11 w12 hb11 M => ?_)
    refine WL.does rfl (M.appendF ((sortN (cmpRow second) l i_).take i_) ([x10] : List Row5) (sv := (Value.slice (some ⟨b11, 0, none⟩) 1 1)) 1 Try.un107 Try.el169 rfl (by decide) rfl rfl rfl (SlAt.of_blk (M.blk 0 rfl) rfl (by decide)) rowE_cel (by have := hacl; simp only [maxLen, List.length_nil, List.length_cons, List.length_append]; omega) (by have := hacl; (try simp only [List.length_nil, List.length_cons, List.length_append]); omega)) ?_
    rintro v13 w14 M
    replace M : Mem _ _ _ [blk b11 (.cells #[(Value.string x10.pane.key), (Value.int .i64 x10.pane.start), (Value.int .i64 x10.pane.fin), (Value.int .i64 x10.agg.count), (Value.int .i64 x10.agg.sum), (Value.int .i64 x10.agg.min), (Value.int .i64 x10.agg.max)] 169), own 169 7 v13 ((((sortN (cmpRow second) l i_).take i_) ++ ([x10] : List Row5)).length) ((((sortN (cmpRow second) l i_).take i_) ++ ([x10] : List Row5)).flatMap rowE)] [SlAt 7 v l.length (l.flatMap rowE)] _ := M
    have sl15 : IsSl v13 := SlAt.isSl (own_slAt (M.chunk 1 rfl).inv)
    refine WL.step (v := v13) rfl (Step.assign rfl) ?_
    refine WL.nil ?_
    refine W.seq' ?_
    refine W.region rfl ?_
    refine WL.step (v := (Value.int .i64 ↑i_)) rfl (Step.move rfl) ?_
    refine WL.step (v := (Value.int .i64 ↑i_)) rfl (Step.assign rfl) ?_
    refine WL.nil ?_
    refine W.block ?_
    replace M := M.sel (L' := [own 169 7 v13 ((((sortN (cmpRow second) l i_).take i_) ++ ([x10] : List Row5)).length) ((((sortN (cmpRow second) l i_).take i_) ++ ([x10] : List Row5)).flatMap rowE), blk b11 (.cells #[(Value.string x10.pane.key), (Value.int .i64 x10.pane.start), (Value.int .i64 x10.pane.fin), (Value.int .i64 x10.agg.count), (Value.int .i64 x10.agg.sum), (Value.int .i64 x10.agg.min), (Value.int .i64 x10.agg.max)] 169)]) [1, 0] rfl (by decide)
    replace M : Mem _ _ _ [own 169 7 v13 ((((sortN (cmpRow second) l i_).take i_) ++ ([x10] : List Row5)).length) ((((sortN (cmpRow second) l i_).take i_) ++ ([x10] : List Row5)).flatMap rowE), blk b11 (.cells #[(Value.string x10.pane.key), (Value.int .i64 x10.pane.start), (Value.int .i64 x10.pane.fin), (Value.int .i64 x10.agg.count), (Value.int .i64 x10.agg.sum), (Value.int .i64 x10.agg.min), (Value.int .i64 x10.agg.max)] 169)] [SlAt 7 v l.length (l.flatMap rowE)] _ := M
    refine W.loop (fun kk ρ w' => ∃ (k_ : Nat) (zs_ : List Row5), ((k_ ≤ i_) ∧ (zs_.length = i_ + 1) ∧ (bub (cmpRow second) zs_ k_ = (sortN (cmpRow second) l (i_ + 1)).take (i_ + 1)) ∧ kk = k_ + 1) ∧ ρ.has [(0, (Value.bool second)), (1, v), (4, (Value.slice none 0 0)), (5, v13), (6, (Value.int .i64 ↑i_)), (7, (Value.int .i64 ↑k_)), (9, (Value.int .i64 ↑i_)), (10, v), (11, (Value.int .i64 ↑l.length)), (12, (Value.bool (decide ((↑i_ : Int) < (↑l.length : Int))))), (15, acci_), (16, v), (17, (Value.int .i64 ↑i_)), (18, (Value.pointer (some ⟨(sBlk v), sOff v + i_ * 7, none⟩))), (19, (Value.agg #[(Value.string x10.pane.key), (Value.int .i64 x10.pane.start), (Value.int .i64 x10.pane.fin), (Value.int .i64 x10.agg.count), (Value.int .i64 x10.agg.sum), (Value.int .i64 x10.agg.min), (Value.int .i64 x10.agg.max)])), (20, (Value.slice (some ⟨b11, 0, none⟩) 1 1)), (21, v13), (22, (Value.int .i64 ↑i_))] ∧ Mem G (fun _ => False) w [own 169 7 v13 zs_.length (zs_.flatMap rowE), blk b11 (.cells #[(Value.string x10.pane.key), (Value.int .i64 x10.pane.start), (Value.int .i64 x10.pane.fin), (Value.int .i64 x10.agg.count), (Value.int .i64 x10.agg.sum), (Value.int .i64 x10.agg.min), (Value.int .i64 x10.agg.max)] 169)] [SlAt 7 v l.length (l.flatMap rowE)]  w') _ ⟨i_, ((sortN (cmpRow second) l i_).take i_) ++ ([x10] : List Row5), ⟨(Nat.le_refl _), (by simp [sortN_len]; omega), (sortN_snoc (cmpRow second) hx10).symm, rfl⟩, ⟨rfl, rfl, rfl, rfl, rfl, rfl, rfl, rfl, rfl, rfl, rfl, rfl, rfl, rfl, rfl, rfl, rfl, rfl, rfl, rfl⟩, M⟩ ?_
    rintro _ ρ17 w16 ⟨k_, zs_, ⟨hi18, hi19, hi20, rfl⟩, hρ, M⟩
    obtain ⟨ρ17, rfl⟩ := hρ.know
    clear hρ
    refine W.seq' ?_
    refine W.seq' ?_
    refine W.region rfl ?_
    refine WL.step (v := (Value.int .i64 ↑k_)) rfl (Step.move rfl) ?_
    refine WL.step (v := (Value.bool (decide ((↑k_ : Int) > (0 : Int))))) rfl (Step.pure (by kernel_rfl)) ?_
    refine WL.nil ?_
    refine W.cond (t := decide ((↑k_ : Int) > (0 : Int))) rfl (fun h21 => ?_) (fun h21 => ?_)
    ·
      have h21p := of_decide_eq_true h21
      refine W.skip ?_
      refine W.seq' ?_
      refine W.block ?_
      refine W.seq' ?_
      obtain ⟨cap23, hb22⟩ := SlAt.base (own_slAt (M.chunk 0 rfl).inv) (by omega)
      obtain ⟨x24, hx24⟩ := elem_of_lt (xs := zs_) (i := k_ - 1) (by omega)
      obtain ⟨x25, hx25⟩ := elem_of_lt (xs := zs_) (i := k_) (by omega)
      refine W.drawn M [0, 1, 2, 3, 4, 5, 6, 7, 8, 9, 10, 11, 12] [11] [] [own 169 7 v13 zs_.length (zs_.flatMap rowE), blk b11 (.cells #[(Value.string x10.pane.key), (Value.int .i64 x10.pane.start), (Value.int .i64 x10.pane.fin), (Value.int .i64 x10.agg.count), (Value.int .i64 x10.agg.sum), (Value.int .i64 x10.agg.min), (Value.int .i64 x10.agg.max)] 169)] [SlAt 7 v l.length (l.flatMap rowE)] (List.Sublist.cons_cons _ (List.Sublist.cons_cons _ List.Sublist.slnil)) (fun _ h => h) Try.mixed (by kernel_rfl) ?_
      refine TW.pure (v := v13) rfl (by decide) (by decide) rfl (fun w => (Step.move rfl)) ?_
      refine TW.pure (v := (Value.int .i64 ↑k_)) rfl (by decide) (by decide) rfl (fun w => (Step.move rfl)) ?_
      refine TW.pure (v := (Value.int .i64 (↑(k_ - 1)))) rfl (by decide) (by decide) rfl (fun w => (Step.cast (congrArg (Value.int .i64) (show (↑k_ : Int) - 1 = ↑(k_ - 1) by omega)) (Step.sub rfl rfl (wrap_i64 (by omega))))) ?_
      refine TW.pure (v := (Value.pointer (some ⟨(sBlk v13), sOff v13 + (k_ - 1) * 7, none⟩))) rfl (by decide) (by decide) rfl (fun w => (Step.indexAddr (i := k_ - 1) (Try.un107).run Try.el169.sized rfl rfl (by omega) hb22 (by omega))) ?_
      refine TW.pure (v := (Value.pointer (some ⟨(sBlk v13), sOff v13 + (k_ - 1) * 7, none⟩))) rfl (by decide) (by decide) rfl (fun w => (Step.pure (by kernel_rfl))) ?_
      refine TW.read (v := (Value.agg #[(Value.string x24.pane.key), (Value.int .i64 x24.pane.start), (Value.int .i64 x24.pane.fin)])) rfl (by decide) (by decide) rfl (fun A w M => (Step.loadEN (k := 0) (cs' := [(Value.string x24.pane.key), (Value.int .i64 x24.pane.start), (Value.int .i64 x24.pane.fin)]) Try.ag118 (flat_ec (own_slAt (M.chunk 1 rfl).inv) hx24 rowE_len) (by decide) rfl rfl rfl)) ?_
      refine TW.pure (v := v13) rfl (by decide) (by decide) rfl (fun w => (Step.move rfl)) ?_
      refine TW.pure (v := (Value.int .i64 ↑k_)) rfl (by decide) (by decide) rfl (fun w => (Step.move rfl)) ?_
      refine TW.pure (v := (Value.pointer (some ⟨(sBlk v13), sOff v13 + k_ * 7, none⟩))) rfl (by decide) (by decide) rfl (fun w => (Step.indexAddr (i := k_) (Try.un107).run Try.el169.sized rfl rfl (by omega) hb22 (by omega))) ?_
      refine TW.pure (v := (Value.pointer (some ⟨(sBlk v13), sOff v13 + k_ * 7, none⟩))) rfl (by decide) (by decide) rfl (fun w => (Step.pure (by kernel_rfl))) ?_
      refine TW.read (v := (Value.agg #[(Value.string x25.pane.key), (Value.int .i64 x25.pane.start), (Value.int .i64 x25.pane.fin)])) rfl (by decide) (by decide) rfl (fun A w M => (Step.loadEN (k := 0) (cs' := [(Value.string x25.pane.key), (Value.int .i64 x25.pane.start), (Value.int .i64 x25.pane.fin)]) Try.ag118 (flat_ec (own_slAt (M.chunk 1 rfl).inv) hx25 rowE_len) (by decide) rfl rfl rfl)) ?_
      refine TW.callX (ι := Unit) (fun jx v_ => v_ = (Value.int .i64 (primV x24.pane x25.pane))) (fun jx => [own 169 7 v13 zs_.length (zs_.flatMap rowE), blk b11 (.cells #[(Value.string x10.pane.key), (Value.int .i64 x10.pane.start), (Value.int .i64 x10.pane.fin), (Value.int .i64 x10.agg.count), (Value.int .i64 x10.agg.sum), (Value.int .i64 x10.agg.min), (Value.int .i64 x10.agg.max)] 169)]) (fun jx => [SlAt 7 v l.length (l.flatMap rowE)]) rfl (by decide) rfl (fun jx => (List.Sublist.cons_cons _ (List.Sublist.cons_cons _ List.Sublist.slnil))) (fun jx r h => h) (fun A w M => Rets.mono (ref5_prim x24.pane x25.pane (M.enterW0 trivial)) (fun v_ w_ ⟨e_, m⟩ => ⟨(), e_, (M.leaveW0 m).sel (L' := [fl A, own 169 7 v13 zs_.length (zs_.flatMap rowE), blk b11 (.cells #[(Value.string x10.pane.key), (Value.int .i64 x10.pane.start), (Value.int .i64 x10.pane.fin), (Value.int .i64 x10.agg.count), (Value.int .i64 x10.agg.sum), (Value.int .i64 x10.agg.min), (Value.int .i64 x10.agg.max)] 169)]) [0, 1, 2] rfl (by decide), fun b hb => M.keptW0 m (fl A) (List.mem_cons_self ..) b hb⟩)) (fun w => CallsF.func Try.en65 rfl) (fun jx v hp hin => ?_)
      replace hp := hp.symm; subst hp
      clear hin
      change TW _ _ _ _ _ _ _ _ (MemA _ _ _ [own 169 7 v13 zs_.length (zs_.flatMap rowE), blk b11 (.cells #[(Value.string x10.pane.key), (Value.int .i64 x10.pane.start), (Value.int .i64 x10.pane.fin), (Value.int .i64 x10.agg.count), (Value.int .i64 x10.agg.sum), (Value.int .i64 x10.agg.min), (Value.int .i64 x10.agg.max)] 169)] [SlAt 7 v l.length (l.flatMap rowE)])
      refine TW.pure (v := (Value.int .i64 (primV x24.pane x25.pane))) rfl (by decide) (by decide) rfl (fun w => (Step.assign rfl)) ?_
      refine TW.done (fun w26 M => ?_)
      refine W.seq' ?_
      refine W.seq' ?_
      refine W.region rfl ?_
      refine WL.step (v := (Value.bool second)) rfl (Step.move rfl) ?_
      refine WL.nil ?_
      refine W.cond (t := second) rfl (fun h27 => ?_) (fun h27 => ?_)
      ·
        refine W.drawn M [0, 1, 2, 3, 4, 5, 6, 7, 8, 9, 10, 11, 12] [11] [] [own 169 7 v13 zs_.length (zs_.flatMap rowE), blk b11 (.cells #[(Value.string x10.pane.key), (Value.int .i64 x10.pane.start), (Value.int .i64 x10.pane.fin), (Value.int .i64 x10.agg.count), (Value.int .i64 x10.agg.sum), (Value.int .i64 x10.agg.min), (Value.int .i64 x10.agg.max)] 169)] [SlAt 7 v l.length (l.flatMap rowE)] (List.Sublist.cons_cons _ (List.Sublist.cons_cons _ List.Sublist.slnil)) (fun _ h => h) Try.mixed (by kernel_rfl) ?_
        refine TW.pure (v := v13) rfl (by decide) (by decide) rfl (fun w => (Step.move rfl)) ?_
        refine TW.pure (v := (Value.int .i64 ↑k_)) rfl (by decide) (by decide) rfl (fun w => (Step.move rfl)) ?_
        refine TW.pure (v := (Value.int .i64 (↑(k_ - 1)))) rfl (by decide) (by decide) rfl (fun w => (Step.cast (congrArg (Value.int .i64) (show (↑k_ : Int) - 1 = ↑(k_ - 1) by omega)) (Step.sub rfl rfl (wrap_i64 (by omega))))) ?_
        refine TW.pure (v := (Value.pointer (some ⟨(sBlk v13), sOff v13 + (k_ - 1) * 7, none⟩))) rfl (by decide) (by decide) rfl (fun w => (Step.indexAddr (i := k_ - 1) (Try.un107).run Try.el169.sized rfl rfl (by omega) hb22 (by omega))) ?_
        refine TW.pure (v := (Value.pointer (some ⟨(sBlk v13), sOff v13 + (k_ - 1) * 7, none⟩))) rfl (by decide) (by decide) rfl (fun w => (Step.pure (by kernel_rfl))) ?_
        refine TW.read (v := (Value.agg #[(Value.string x24.pane.key), (Value.int .i64 x24.pane.start), (Value.int .i64 x24.pane.fin)])) rfl (by decide) (by decide) rfl (fun A w M => (Step.loadEN (k := 0) (cs' := [(Value.string x24.pane.key), (Value.int .i64 x24.pane.start), (Value.int .i64 x24.pane.fin)]) Try.ag118 (flat_ec (own_slAt (M.chunk 1 rfl).inv) hx24 rowE_len) (by decide) rfl rfl rfl)) ?_
        refine TW.pure (v := v13) rfl (by decide) (by decide) rfl (fun w => (Step.move rfl)) ?_
        refine TW.pure (v := (Value.int .i64 ↑k_)) rfl (by decide) (by decide) rfl (fun w => (Step.move rfl)) ?_
        refine TW.pure (v := (Value.pointer (some ⟨(sBlk v13), sOff v13 + k_ * 7, none⟩))) rfl (by decide) (by decide) rfl (fun w => (Step.indexAddr (i := k_) (Try.un107).run Try.el169.sized rfl rfl (by omega) hb22 (by omega))) ?_
        refine TW.pure (v := (Value.pointer (some ⟨(sBlk v13), sOff v13 + k_ * 7, none⟩))) rfl (by decide) (by decide) rfl (fun w => (Step.pure (by kernel_rfl))) ?_
        refine TW.read (v := (Value.agg #[(Value.string x25.pane.key), (Value.int .i64 x25.pane.start), (Value.int .i64 x25.pane.fin)])) rfl (by decide) (by decide) rfl (fun A w M => (Step.loadEN (k := 0) (cs' := [(Value.string x25.pane.key), (Value.int .i64 x25.pane.start), (Value.int .i64 x25.pane.fin)]) Try.ag118 (flat_ec (own_slAt (M.chunk 1 rfl).inv) hx25 rowE_len) (by decide) rfl rfl rfl)) ?_
        refine TW.callX (ι := Unit) (fun jx v_ => v_ = (Value.int .i64 (secoV x24.pane x25.pane))) (fun jx => [own 169 7 v13 zs_.length (zs_.flatMap rowE), blk b11 (.cells #[(Value.string x10.pane.key), (Value.int .i64 x10.pane.start), (Value.int .i64 x10.pane.fin), (Value.int .i64 x10.agg.count), (Value.int .i64 x10.agg.sum), (Value.int .i64 x10.agg.min), (Value.int .i64 x10.agg.max)] 169)]) (fun jx => [SlAt 7 v l.length (l.flatMap rowE)]) rfl (by decide) rfl (fun jx => (List.Sublist.cons_cons _ (List.Sublist.cons_cons _ List.Sublist.slnil))) (fun jx r h => h) (fun A w M => Rets.mono (ref5_seco x24.pane x25.pane (M.enterW0 trivial)) (fun v_ w_ ⟨e_, m⟩ => ⟨(), e_, (M.leaveW0 m).sel (L' := [fl A, own 169 7 v13 zs_.length (zs_.flatMap rowE), blk b11 (.cells #[(Value.string x10.pane.key), (Value.int .i64 x10.pane.start), (Value.int .i64 x10.pane.fin), (Value.int .i64 x10.agg.count), (Value.int .i64 x10.agg.sum), (Value.int .i64 x10.agg.min), (Value.int .i64 x10.agg.max)] 169)]) [0, 1, 2] rfl (by decide), fun b hb => M.keptW0 m (fl A) (List.mem_cons_self ..) b hb⟩)) (fun w => CallsF.func Try.en68 rfl) (fun jx v hp hin => ?_)
        replace hp := hp.symm; subst hp
        clear hin
        change TW _ _ _ _ _ _ _ _ (MemA _ _ _ [own 169 7 v13 zs_.length (zs_.flatMap rowE), blk b11 (.cells #[(Value.string x10.pane.key), (Value.int .i64 x10.pane.start), (Value.int .i64 x10.pane.fin), (Value.int .i64 x10.agg.count), (Value.int .i64 x10.agg.sum), (Value.int .i64 x10.agg.min), (Value.int .i64 x10.agg.max)] 169)] [SlAt 7 v l.length (l.flatMap rowE)])
        refine TW.pure (v := (Value.int .i64 (secoV x24.pane x25.pane))) rfl (by decide) (by decide) rfl (fun w => (Step.assign rfl)) ?_
        refine TW.done (fun w28 M => ?_)
        refine W.seq' ?_
        refine W.seq' ?_
        refine W.region rfl ?_
        refine WL.step (v := (Value.int .i64 (secoV x24.pane x25.pane))) rfl (Step.move rfl) ?_
        refine WL.step (v := (Value.bool (decide ((secoV x24.pane x25.pane : Int) ≤ (0 : Int))))) rfl (Step.pure (by kernel_rfl)) ?_
        refine WL.nil ?_
        refine W.cond (t := decide ((secoV x24.pane x25.pane : Int) ≤ (0 : Int))) rfl (fun h29 => ?_) (fun h29 => ?_)
        ·
          have h29p := of_decide_eq_true h29
          refine W.exit ?_
          refine thn_exit ?_
          refine inBlk_miss (by decide) ?_
          refine thn_exit ?_
          refine thn_exit ?_
          refine inBlk_hit ?_
          refine W.region rfl ?_
          refine WL.step (v := (Value.int .i64 ↑i_)) rfl (Step.move rfl) ?_
          refine WL.step (v := (Value.int .i64 (↑i_ + 1))) rfl (Step.add rfl rfl (wrap_i64 (by omega))) ?_
          refine WL.step (v := (Value.int .i64 (↑i_ + 1))) rfl (Step.assign rfl) ?_
          refine WL.nil ?_
          replace M := M.rechunk 0 (c' := own 169 7 v13 (((sortN (cmpRow second) l (i_ + 1)).take (i_ + 1)).length) (((sortN (cmpRow second) l (i_ + 1)).take (i_ + 1)).flatMap rowE)) rfl (by rw [← hi20, bub_stop (cmpRow second) (by omega) hx25 hx24 (cmpRow_pos (by simp [ordV, h27]) h29p)])
          replace M : Mem _ _ _ [own 169 7 v13 (((sortN (cmpRow second) l (i_ + 1)).take (i_ + 1)).length) (((sortN (cmpRow second) l (i_ + 1)).take (i_ + 1)).flatMap rowE), blk b11 (.cells #[(Value.string x10.pane.key), (Value.int .i64 x10.pane.start), (Value.int .i64 x10.pane.fin), (Value.int .i64 x10.agg.count), (Value.int .i64 x10.agg.sum), (Value.int .i64 x10.agg.min), (Value.int .i64 x10.agg.max)] 169)] [SlAt 7 v l.length (l.flatMap rowE)] _ := M
          replace M := M.sel (L' := [own 169 7 v13 (((sortN (cmpRow second) l (i_ + 1)).take (i_ + 1)).length) (((sortN (cmpRow second) l (i_ + 1)).take (i_ + 1)).flatMap rowE)]) [0] rfl (by decide)
          exact ⟨_, (by omega), i_ + 1, v13, ⟨(by omega), rfl⟩, ⟨rfl, rfl, rfl, rfl, rfl, rfl, rfl⟩, M⟩
        ·
          have h29p := of_decide_eq_false h29
          refine W.skip ?_
          refine W.drawn M [0, 1, 2, 3, 4, 5, 6, 7, 8, 9, 10, 11, 12, 13, 14, 15, 16, 17] [8, 13, 15, 17] [8, 13] [blk b11 (.cells #[(Value.string x10.pane.key), (Value.int .i64 x10.pane.start), (Value.int .i64 x10.pane.fin), (Value.int .i64 x10.agg.count), (Value.int .i64 x10.agg.sum), (Value.int .i64 x10.agg.min), (Value.int .i64 x10.agg.max)] 169)] [SlAt 7 v l.length (l.flatMap rowE)] (List.Sublist.cons _ (List.Sublist.cons_cons _ List.Sublist.slnil)) (fun _ h => h) Try.mixed (by kernel_rfl) ?_
          refine TW.pure (v := v13) rfl (by decide) (by decide) rfl (fun w => (Step.move rfl)) ?_
          refine TW.pure (v := (Value.int .i64 ↑k_)) rfl (by decide) (by decide) rfl (fun w => (Step.move rfl)) ?_
          refine TW.pure (v := (Value.int .i64 (↑(k_ - 1)))) rfl (by decide) (by decide) rfl (fun w => (Step.cast (congrArg (Value.int .i64) (show (↑k_ : Int) - 1 = ↑(k_ - 1) by omega)) (Step.sub rfl rfl (wrap_i64 (by omega))))) ?_
          refine TW.pure (v := v13) rfl (by decide) (by decide) rfl (fun w => (Step.move rfl)) ?_
          refine TW.pure (v := (Value.int .i64 ↑k_)) rfl (by decide) (by decide) rfl (fun w => (Step.move rfl)) ?_
          refine TW.pure (v := v13) rfl (by decide) (by decide) rfl (fun w => (Step.move rfl)) ?_
          refine TW.pure (v := (Value.int .i64 ↑k_)) rfl (by decide) (by decide) rfl (fun w => (Step.move rfl)) ?_
          refine TW.pure (v := (Value.pointer (some ⟨(sBlk v13), sOff v13 + k_ * 7, none⟩))) rfl (by decide) (by decide) rfl (fun w => (Step.indexAddr (i := k_) (Try.un107).run Try.el169.sized rfl rfl (by omega) hb22 (by omega))) ?_
          refine TW.readP (v := (Value.agg #[(Value.string x25.pane.key), (Value.int .i64 x25.pane.start), (Value.int .i64 x25.pane.fin), (Value.int .i64 x25.agg.count), (Value.int .i64 x25.agg.sum), (Value.int .i64 x25.agg.min), (Value.int .i64 x25.agg.max)])) rfl (by decide) (by decide) rfl (fun A w M => (Step.loadEN (k := 0) (cs' := [(Value.string x25.pane.key), (Value.int .i64 x25.pane.start), (Value.int .i64 x25.pane.fin), (Value.int .i64 x25.agg.count), (Value.int .i64 x25.agg.sum), (Value.int .i64 x25.agg.min), (Value.int .i64 x25.agg.max)]) Try.ag169 (flat_ec (own_slAt (M.chunk 1 rfl).inv) hx25 rowE_len) (by decide) rfl rfl rfl)) ?_
          refine TW.pure (v := v13) rfl (by decide) (by decide) rfl (fun w => (Step.move rfl)) ?_
          refine TW.pure (v := (Value.int .i64 ↑k_)) rfl (by decide) (by decide) rfl (fun w => (Step.move rfl)) ?_
          refine TW.pure (v := (Value.int .i64 (↑(k_ - 1)))) rfl (by decide) (by decide) rfl (fun w => (Step.cast (congrArg (Value.int .i64) (show (↑k_ : Int) - 1 = ↑(k_ - 1) by omega)) (Step.sub rfl rfl (wrap_i64 (by omega))))) ?_
          refine TW.pure (v := (Value.pointer (some ⟨(sBlk v13), sOff v13 + (k_ - 1) * 7, none⟩))) rfl (by decide) (by decide) rfl (fun w => (Step.indexAddr (i := k_ - 1) (Try.un107).run Try.el169.sized rfl rfl (by omega) hb22 (by omega))) ?_
          refine TW.readP (v := (Value.agg #[(Value.string x24.pane.key), (Value.int .i64 x24.pane.start), (Value.int .i64 x24.pane.fin), (Value.int .i64 x24.agg.count), (Value.int .i64 x24.agg.sum), (Value.int .i64 x24.agg.min), (Value.int .i64 x24.agg.max)])) rfl (by decide) (by decide) rfl (fun A w M => (Step.loadEN (k := 0) (cs' := [(Value.string x24.pane.key), (Value.int .i64 x24.pane.start), (Value.int .i64 x24.pane.fin), (Value.int .i64 x24.agg.count), (Value.int .i64 x24.agg.sum), (Value.int .i64 x24.agg.min), (Value.int .i64 x24.agg.max)]) Try.ag169 (flat_ec (own_slAt (M.chunk 1 rfl).inv) hx24 rowE_len) (by decide) rfl rfl rfl)) ?_
          refine TW.pure (v := (Value.pointer (some ⟨(sBlk v13), sOff v13 + (k_ - 1) * 7, none⟩))) rfl (by decide) (by decide) rfl (fun w => (Step.indexAddr (i := k_ - 1) (Try.un107).run Try.el169.sized rfl rfl (by omega) hb22 (by omega))) ?_
          refine TW.act (c' := own 169 7 v13 ((zs_.set (k_ - 1) x25).length) ((zs_.set (k_ - 1) x25).flatMap rowE)) 0 rfl rfl (by decide) rfl (List.Sublist.cons _ (List.Sublist.cons_cons _ List.Sublist.slnil)) (fun r h => h) (fun A w M => M.storeF rowE_len x25 1 rfl Try.el169.sized rfl rfl rfl (cel_cons rfl (cel_cons rfl (cel_cons rfl (cel_cons rfl (cel_cons rfl (cel_cons rfl (cel_cons rfl cel_nil))))))) (by first | omega | (simp only [List.length_set]; omega))) ?_
          refine TW.pure (v := (Value.pointer (some ⟨(sBlk v13), sOff v13 + k_ * 7, none⟩))) rfl (by decide) (by decide) rfl (fun w => (Step.indexAddr (i := k_) (Try.un107).run Try.el169.sized rfl rfl (by omega) hb22 (by omega))) ?_
          refine TW.act (c' := own 169 7 v13 (((zs_.set (k_ - 1) x25).set k_ x24).length) (((zs_.set (k_ - 1) x25).set k_ x24).flatMap rowE)) 0 rfl rfl (by decide) rfl (List.Sublist.cons _ (List.Sublist.cons_cons _ List.Sublist.slnil)) (fun r h => h) (fun A w M => M.storeF rowE_len x24 1 rfl Try.el169.sized rfl rfl rfl (cel_cons rfl (cel_cons rfl (cel_cons rfl (cel_cons rfl (cel_cons rfl (cel_cons rfl (cel_cons rfl cel_nil))))))) (by first | omega | (simp only [List.length_set]; omega))) ?_
          refine TW.done (fun w30 M => ?_)
          refine W.region rfl ?_
          refine WL.step (v := (Value.int .i64 ↑k_)) rfl (Step.move rfl) ?_
          refine WL.step (v := (Value.int .i64 (↑(k_ - 1)))) rfl (Step.cast (congrArg (Value.int .i64) (show (↑k_ : Int) - 1 = ↑(k_ - 1) by omega)) (Step.sub rfl rfl (wrap_i64 (by omega)))) ?_
          refine WL.step (v := (Value.int .i64 (↑(k_ - 1)))) rfl (Step.assign rfl) ?_
          refine WL.nil ?_
          exact ⟨_, (by omega), k_ - 1, (zs_.set (k_ - 1) x25).set k_ x24, ⟨(by omega), (by simp only [List.length_set]; exact hi19), (by rw [List.set_comm _ _ (by omega), ← bub_go (cmpRow second) (by omega) hx25 hx24 (cmpRow_neg (by simp [ordV, h27]) h29p)]; exact hi20), rfl⟩, ⟨rfl, rfl, rfl, rfl, rfl, rfl, rfl, rfl, rfl, rfl, rfl, rfl, rfl, rfl, rfl, rfl, rfl, rfl, rfl, rfl⟩, M⟩
      ·
        refine W.skip ?_
        refine W.seq' ?_
        refine W.seq' ?_
        refine W.region rfl ?_
        refine WL.step (v := (Value.int .i64 (primV x24.pane x25.pane))) rfl (Step.move rfl) ?_
        refine WL.step (v := (Value.bool (decide ((primV x24.pane x25.pane : Int) ≤ (0 : Int))))) rfl (Step.pure (by kernel_rfl)) ?_
        refine WL.nil ?_
        refine W.cond (t := decide ((primV x24.pane x25.pane : Int) ≤ (0 : Int))) rfl (fun h31 => ?_) (fun h31 => ?_)
        ·
          have h31p := of_decide_eq_true h31
          refine W.exit ?_
          refine thn_exit ?_
          refine inBlk_miss (by decide) ?_
          refine thn_exit ?_
          refine thn_exit ?_
          refine inBlk_hit ?_
          refine W.region rfl ?_
          refine WL.step (v := (Value.int .i64 ↑i_)) rfl (Step.move rfl) ?_
          refine WL.step (v := (Value.int .i64 (↑i_ + 1))) rfl (Step.add rfl rfl (wrap_i64 (by omega))) ?_
          refine WL.step (v := (Value.int .i64 (↑i_ + 1))) rfl (Step.assign rfl) ?_
          refine WL.nil ?_
          replace M := M.rechunk 0 (c' := own 169 7 v13 (((sortN (cmpRow second) l (i_ + 1)).take (i_ + 1)).length) (((sortN (cmpRow second) l (i_ + 1)).take (i_ + 1)).flatMap rowE)) rfl (by rw [← hi20, bub_stop (cmpRow second) (by omega) hx25 hx24 (cmpRow_pos (by simp [ordV, h27]) h31p)])
          replace M : Mem _ _ _ [own 169 7 v13 (((sortN (cmpRow second) l (i_ + 1)).take (i_ + 1)).length) (((sortN (cmpRow second) l (i_ + 1)).take (i_ + 1)).flatMap rowE), blk b11 (.cells #[(Value.string x10.pane.key), (Value.int .i64 x10.pane.start), (Value.int .i64 x10.pane.fin), (Value.int .i64 x10.agg.count), (Value.int .i64 x10.agg.sum), (Value.int .i64 x10.agg.min), (Value.int .i64 x10.agg.max)] 169)] [SlAt 7 v l.length (l.flatMap rowE)] _ := M
          replace M := M.sel (L' := [own 169 7 v13 (((sortN (cmpRow second) l (i_ + 1)).take (i_ + 1)).length) (((sortN (cmpRow second) l (i_ + 1)).take (i_ + 1)).flatMap rowE)]) [0] rfl (by decide)
          exact ⟨_, (by omega), i_ + 1, v13, ⟨(by omega), rfl⟩, ⟨rfl, rfl, rfl, rfl, rfl, rfl, rfl⟩, M⟩
        ·
          have h31p := of_decide_eq_false h31
          refine W.skip ?_
          refine W.drawn M [0, 1, 2, 3, 4, 5, 6, 7, 8, 9, 10, 11, 12, 13, 14, 15, 16, 17] [8, 13, 15, 17] [8, 13] [blk b11 (.cells #[(Value.string x10.pane.key), (Value.int .i64 x10.pane.start), (Value.int .i64 x10.pane.fin), (Value.int .i64 x10.agg.count), (Value.int .i64 x10.agg.sum), (Value.int .i64 x10.agg.min), (Value.int .i64 x10.agg.max)] 169)] [SlAt 7 v l.length (l.flatMap rowE)] (List.Sublist.cons _ (List.Sublist.cons_cons _ List.Sublist.slnil)) (fun _ h => h) Try.mixed (by kernel_rfl) ?_
          refine TW.pure (v := v13) rfl (by decide) (by decide) rfl (fun w => (Step.move rfl)) ?_
          refine TW.pure (v := (Value.int .i64 ↑k_)) rfl (by decide) (by decide) rfl (fun w => (Step.move rfl)) ?_
          refine TW.pure (v := (Value.int .i64 (↑(k_ - 1)))) rfl (by decide) (by decide) rfl (fun w => (Step.cast (congrArg (Value.int .i64) (show (↑k_ : Int) - 1 = ↑(k_ - 1) by omega)) (Step.sub rfl rfl (wrap_i64 (by omega))))) ?_
          refine TW.pure (v := v13) rfl (by decide) (by decide) rfl (fun w => (Step.move rfl)) ?_
          refine TW.pure (v := (Value.int .i64 ↑k_)) rfl (by decide) (by decide) rfl (fun w => (Step.move rfl)) ?_
          refine TW.pure (v := v13) rfl (by decide) (by decide) rfl (fun w => (Step.move rfl)) ?_
          refine TW.pure (v := (Value.int .i64 ↑k_)) rfl (by decide) (by decide) rfl (fun w => (Step.move rfl)) ?_
          refine TW.pure (v := (Value.pointer (some ⟨(sBlk v13), sOff v13 + k_ * 7, none⟩))) rfl (by decide) (by decide) rfl (fun w => (Step.indexAddr (i := k_) (Try.un107).run Try.el169.sized rfl rfl (by omega) hb22 (by omega))) ?_
          refine TW.readP (v := (Value.agg #[(Value.string x25.pane.key), (Value.int .i64 x25.pane.start), (Value.int .i64 x25.pane.fin), (Value.int .i64 x25.agg.count), (Value.int .i64 x25.agg.sum), (Value.int .i64 x25.agg.min), (Value.int .i64 x25.agg.max)])) rfl (by decide) (by decide) rfl (fun A w M => (Step.loadEN (k := 0) (cs' := [(Value.string x25.pane.key), (Value.int .i64 x25.pane.start), (Value.int .i64 x25.pane.fin), (Value.int .i64 x25.agg.count), (Value.int .i64 x25.agg.sum), (Value.int .i64 x25.agg.min), (Value.int .i64 x25.agg.max)]) Try.ag169 (flat_ec (own_slAt (M.chunk 1 rfl).inv) hx25 rowE_len) (by decide) rfl rfl rfl)) ?_
          refine TW.pure (v := v13) rfl (by decide) (by decide) rfl (fun w => (Step.move rfl)) ?_
          refine TW.pure (v := (Value.int .i64 ↑k_)) rfl (by decide) (by decide) rfl (fun w => (Step.move rfl)) ?_
          refine TW.pure (v := (Value.int .i64 (↑(k_ - 1)))) rfl (by decide) (by decide) rfl (fun w => (Step.cast (congrArg (Value.int .i64) (show (↑k_ : Int) - 1 = ↑(k_ - 1) by omega)) (Step.sub rfl rfl (wrap_i64 (by omega))))) ?_
          refine TW.pure (v := (Value.pointer (some ⟨(sBlk v13), sOff v13 + (k_ - 1) * 7, none⟩))) rfl (by decide) (by decide) rfl (fun w => (Step.indexAddr (i := k_ - 1) (Try.un107).run Try.el169.sized rfl rfl (by omega) hb22 (by omega))) ?_
          refine TW.readP (v := (Value.agg #[(Value.string x24.pane.key), (Value.int .i64 x24.pane.start), (Value.int .i64 x24.pane.fin), (Value.int .i64 x24.agg.count), (Value.int .i64 x24.agg.sum), (Value.int .i64 x24.agg.min), (Value.int .i64 x24.agg.max)])) rfl (by decide) (by decide) rfl (fun A w M => (Step.loadEN (k := 0) (cs' := [(Value.string x24.pane.key), (Value.int .i64 x24.pane.start), (Value.int .i64 x24.pane.fin), (Value.int .i64 x24.agg.count), (Value.int .i64 x24.agg.sum), (Value.int .i64 x24.agg.min), (Value.int .i64 x24.agg.max)]) Try.ag169 (flat_ec (own_slAt (M.chunk 1 rfl).inv) hx24 rowE_len) (by decide) rfl rfl rfl)) ?_
          refine TW.pure (v := (Value.pointer (some ⟨(sBlk v13), sOff v13 + (k_ - 1) * 7, none⟩))) rfl (by decide) (by decide) rfl (fun w => (Step.indexAddr (i := k_ - 1) (Try.un107).run Try.el169.sized rfl rfl (by omega) hb22 (by omega))) ?_
          refine TW.act (c' := own 169 7 v13 ((zs_.set (k_ - 1) x25).length) ((zs_.set (k_ - 1) x25).flatMap rowE)) 0 rfl rfl (by decide) rfl (List.Sublist.cons _ (List.Sublist.cons_cons _ List.Sublist.slnil)) (fun r h => h) (fun A w M => M.storeF rowE_len x25 1 rfl Try.el169.sized rfl rfl rfl (cel_cons rfl (cel_cons rfl (cel_cons rfl (cel_cons rfl (cel_cons rfl (cel_cons rfl (cel_cons rfl cel_nil))))))) (by first | omega | (simp only [List.length_set]; omega))) ?_
          refine TW.pure (v := (Value.pointer (some ⟨(sBlk v13), sOff v13 + k_ * 7, none⟩))) rfl (by decide) (by decide) rfl (fun w => (Step.indexAddr (i := k_) (Try.un107).run Try.el169.sized rfl rfl (by omega) hb22 (by omega))) ?_
          refine TW.act (c' := own 169 7 v13 (((zs_.set (k_ - 1) x25).set k_ x24).length) (((zs_.set (k_ - 1) x25).set k_ x24).flatMap rowE)) 0 rfl rfl (by decide) rfl (List.Sublist.cons _ (List.Sublist.cons_cons _ List.Sublist.slnil)) (fun r h => h) (fun A w M => M.storeF rowE_len x24 1 rfl Try.el169.sized rfl rfl rfl (cel_cons rfl (cel_cons rfl (cel_cons rfl (cel_cons rfl (cel_cons rfl (cel_cons rfl (cel_cons rfl cel_nil))))))) (by first | omega | (simp only [List.length_set]; omega))) ?_
          refine TW.done (fun w32 M => ?_)
          refine W.region rfl ?_
          refine WL.step (v := (Value.int .i64 ↑k_)) rfl (Step.move rfl) ?_
          refine WL.step (v := (Value.int .i64 (↑(k_ - 1)))) rfl (Step.cast (congrArg (Value.int .i64) (show (↑k_ : Int) - 1 = ↑(k_ - 1) by omega)) (Step.sub rfl rfl (wrap_i64 (by omega)))) ?_
          refine WL.step (v := (Value.int .i64 (↑(k_ - 1)))) rfl (Step.assign rfl) ?_
          refine WL.nil ?_
          exact ⟨_, (by omega), k_ - 1, (zs_.set (k_ - 1) x25).set k_ x24, ⟨(by omega), (by simp only [List.length_set]; exact hi19), (by rw [List.set_comm _ _ (by omega), ← bub_go (cmpRow second) (by omega) hx25 hx24 (cmpRow_neg (by simp [ordV, h27]) h31p)]; exact hi20), rfl⟩, ⟨rfl, rfl, rfl, rfl, rfl, rfl, rfl, rfl, rfl, rfl, rfl, rfl, rfl, rfl, rfl, rfl, rfl, rfl, rfl, rfl⟩, M⟩
    ·
      have h21p := of_decide_eq_false h21
      refine W.exit ?_
      refine thn_exit ?_
      refine thn_exit ?_
      refine inBlk_hit ?_
      refine W.region rfl ?_
      refine WL.step (v := (Value.int .i64 ↑i_)) rfl (Step.move rfl) ?_
      refine WL.step (v := (Value.int .i64 (↑i_ + 1))) rfl (Step.add rfl rfl (wrap_i64 (by omega))) ?_
      refine WL.step (v := (Value.int .i64 (↑i_ + 1))) rfl (Step.assign rfl) ?_
      refine WL.nil ?_
      replace M := M.rechunk 0 (c' := own 169 7 v13 (((sortN (cmpRow second) l (i_ + 1)).take (i_ + 1)).length) (((sortN (cmpRow second) l (i_ + 1)).take (i_ + 1)).flatMap rowE)) rfl (by rw [← hi20, show k_ = 0 by omega, bub_zero])
      replace M : Mem _ _ _ [own 169 7 v13 (((sortN (cmpRow second) l (i_ + 1)).take (i_ + 1)).length) (((sortN (cmpRow second) l (i_ + 1)).take (i_ + 1)).flatMap rowE), blk b11 (.cells #[(Value.string x10.pane.key), (Value.int .i64 x10.pane.start), (Value.int .i64 x10.pane.fin), (Value.int .i64 x10.agg.count), (Value.int .i64 x10.agg.sum), (Value.int .i64 x10.agg.min), (Value.int .i64 x10.agg.max)] 169)] [SlAt 7 v l.length (l.flatMap rowE)] _ := M
      replace M := M.sel (L' := [own 169 7 v13 (((sortN (cmpRow second) l (i_ + 1)).take (i_ + 1)).length) (((sortN (cmpRow second) l (i_ + 1)).take (i_ + 1)).flatMap rowE)]) [0] rfl (by decide)
      exact ⟨_, (by omega), i_ + 1, v13, ⟨(by omega), rfl⟩, ⟨rfl, rfl, rfl, rfl, rfl, rfl, rfl⟩, M⟩
  ·
    have h7p := of_decide_eq_false h7
    refine W.exit ?_
    refine thn_exit ?_
    refine thn_exit ?_
    refine inBlk_hit ?_
    refine W.seq' ?_
    refine W.region rfl ?_
    refine WL.step (v := acci_) rfl (Step.move rfl) ?_
    refine WL.step (v := acci_) rfl (Step.assign rfl) ?_
    refine WL.nil ?_
    refine W.ret ?_
    refine ⟨.inl rfl, acci_, ?_, ?_⟩
    · exact ⟨rfl, (Res.r1 (show RV _ _ _ (.tmp 4) acci_ from by exact rfl))⟩
    have e33 : sortV (cmpRow second) l = (sortN (cmpRow second) l i_).take i_ := by
      rw [show i_ = l.length by omega, sortN_take]
    replace M := M.rechunk 0 (c' := own 169 7 acci_ ((sortV (cmpRow second) l).length) ((sortV (cmpRow second) l).flatMap rowE)) rfl (congrArg (fun z => own 169 7 acci_ z.length (z.flatMap rowE)) e33.symm)
    replace M : Mem _ _ _ [own 169 7 acci_ ((sortV (cmpRow second) l).length) ((sortV (cmpRow second) l).flatMap rowE)] [SlAt 7 v l.length (l.flatMap rowE)] _ := M
    refine ⟨acci_, ?_, M.close [0] rfl (by decide) trivial⟩
    rfl

theorem law5_ref {G : Nat → Prop} {w : World} (a : Agg5)   (M : Mem G (fun _ => False) w [] [] w) : Rets Try.prog 107 #[(Value.agg #[(Value.int .i64 a.count), (Value.int .i64 a.sum), (Value.int .i64 a.min), (Value.int .i64 a.max)])] w fun r w' => r = (Value.agg #[(Value.int .i64 a.count), (Value.int .i64 a.sum), (Value.int .i64 a.min), (Value.int .i64 a.max)]) ∧ Mem G (fun _ => False) w [] [] w' := by
  refine Rets.enter 12 _ Try.func107 rfl Try.ntmps107 Try.results107 (by simp) ?_
  refine W.seq' ?_
  refine W.region rfl ?_
  refine WL.box (v := (Value.agg #[(Value.int .i64 a.count), (Value.int .i64 a.sum), (Value.int .i64 a.min), (Value.int .i64 a.max)])) (c := #[(Value.int .i64 a.count), (Value.int .i64 a.sum), (Value.int .i64 a.min), (Value.int .i64 a.max)]) M rfl rfl rfl (fun b1 w2 hb1 M => ?_)
  refine WL.alloc (c := #[(Value.int .i64 0), (Value.int .i64 0), (Value.int .i64 0), (Value.int .i64 0)]) M rfl Try.el45.zero rfl (fun b3 w4 hb3 M => ?_)
  refine WL.nil ?_
  refine W.seq' ?_
  refine W.region rfl ?_
  refine WL.step (v := (Value.pointer (some ⟨b1, 0, none⟩))) rfl (Step.pure (by kernel_rfl)) ?_
  refine WL.step (v := (Value.int .i64 a.count)) rfl (Step.load1 Try.sc2 rfl ((M.cell 1 rfl 0).trans rfl)) ?_
  refine WL.step (v := (Value.pointer (some ⟨b1, 1, none⟩))) rfl (Step.pure (by kernel_rfl)) ?_
  refine WL.step (v := (Value.int .i64 a.sum)) rfl (Step.load1 Try.sc2 rfl ((M.cell 1 rfl 1).trans rfl)) ?_
  refine WL.step (v := (Value.pointer (some ⟨b1, 2, none⟩))) rfl (Step.pure (by kernel_rfl)) ?_
  refine WL.step (v := (Value.int .i64 a.min)) rfl (Step.load1 Try.sc2 rfl ((M.cell 1 rfl 2).trans rfl)) ?_
  refine WL.step (v := (Value.pointer (some ⟨b1, 3, none⟩))) rfl (Step.pure (by kernel_rfl)) ?_
  refine WL.step (v := (Value.int .i64 a.max)) rfl (Step.load1 Try.sc2 rfl ((M.cell 1 rfl 3).trans rfl)) ?_
  refine WL.step (v := (Value.agg #[(Value.int .i64 a.count), (Value.int .i64 a.sum), (Value.int .i64 a.min), (Value.int .i64 a.max)])) rfl (Step.pure (by kernel_rfl)) ?_
  refine WL.store (v := (Value.agg #[(Value.int .i64 a.count), (Value.int .i64 a.sum), (Value.int .i64 a.min), (Value.int .i64 a.max)])) (cs := [(Value.int .i64 a.count), (Value.int .i64 a.sum), (Value.int .i64 a.min), (Value.int .i64 a.max)]) (c' := #[(Value.int .i64 a.count), (Value.int .i64 a.sum), (Value.int .i64 a.min), (Value.int .i64 a.max)]) M 0 rfl rfl Try.el45.sized rfl rfl rfl rfl (Nat.le_of_ble_eq_true rfl) (cel_cons rfl (cel_cons rfl (cel_cons rfl (cel_cons rfl cel_nil)))) rfl rfl (fun w5 M => ?_)
  refine WL.nil ?_
  refine W.ret ?_
  refine ⟨.inl rfl, (Value.agg #[(Value.int .i64 a.count), (Value.int .i64 a.sum), (Value.int .i64 a.min), (Value.int .i64 a.max)]), ?_, ?_⟩
  · exact ⟨rfl, (Res.r1 (RV.cellN Try.ag45 rfl (M.blk 0 rfl) rfl))⟩
  refine ⟨?_, M.close [] rfl (by decide) trivial⟩
  rfl

theorem law5_pane {G : Nat → Prop} {w : World} (p : Pane5)   (M : Mem G (fun _ => False) w [] [] w) : Rets Try.prog 66 #[(Value.agg #[(Value.string p.key), (Value.int .i64 p.start), (Value.int .i64 p.fin)])] w fun r w' => r = (Value.agg #[(Value.string p.key), (Value.int .i64 p.start), (Value.int .i64 p.fin)]) ∧ Mem G (fun _ => False) w [] [] w' := by
  refine Rets.enter 10 _ Try.func66 rfl Try.ntmps66 Try.results66 (by simp) ?_
  refine W.seq' ?_
  refine W.region rfl ?_
  refine WL.box (v := (Value.agg #[(Value.string p.key), (Value.int .i64 p.start), (Value.int .i64 p.fin)])) (c := #[(Value.string p.key), (Value.int .i64 p.start), (Value.int .i64 p.fin)]) M rfl rfl rfl (fun b1 w2 hb1 M => ?_)
  refine WL.alloc (c := #[(Value.string (⟨#[]⟩)), (Value.int .i64 0), (Value.int .i64 0)]) M rfl Try.el118.zero rfl (fun b3 w4 hb3 M => ?_)
  refine WL.nil ?_
  refine W.seq' ?_
  refine W.region rfl ?_
  refine WL.step (v := (Value.pointer (some ⟨b1, 0, none⟩))) rfl (Step.pure (by kernel_rfl)) ?_
  refine WL.step (v := (Value.string p.key)) rfl (Step.load1 Try.sc9 rfl ((M.cell 1 rfl 0).trans rfl)) ?_
  refine WL.step (v := (Value.pointer (some ⟨b1, 1, none⟩))) rfl (Step.pure (by kernel_rfl)) ?_
  refine WL.step (v := (Value.int .i64 p.start)) rfl (Step.load1 Try.sc2 rfl ((M.cell 1 rfl 1).trans rfl)) ?_
  refine WL.step (v := (Value.pointer (some ⟨b1, 2, none⟩))) rfl (Step.pure (by kernel_rfl)) ?_
  refine WL.step (v := (Value.int .i64 p.fin)) rfl (Step.load1 Try.sc2 rfl ((M.cell 1 rfl 2).trans rfl)) ?_
  refine WL.step (v := (Value.agg #[(Value.string p.key), (Value.int .i64 p.start), (Value.int .i64 p.fin)])) rfl (Step.pure (by kernel_rfl)) ?_
  refine WL.store (v := (Value.agg #[(Value.string p.key), (Value.int .i64 p.start), (Value.int .i64 p.fin)])) (cs := [(Value.string p.key), (Value.int .i64 p.start), (Value.int .i64 p.fin)]) (c' := #[(Value.string p.key), (Value.int .i64 p.start), (Value.int .i64 p.fin)]) M 0 rfl rfl Try.el118.sized rfl rfl rfl rfl (Nat.le_of_ble_eq_true rfl) (cel_cons rfl (cel_cons rfl (cel_cons rfl cel_nil))) rfl rfl (fun w5 M => ?_)
  refine WL.nil ?_
  refine W.ret ?_
  refine ⟨.inl rfl, (Value.agg #[(Value.string p.key), (Value.int .i64 p.start), (Value.int .i64 p.fin)]), ?_, ?_⟩
  · exact ⟨rfl, (Res.r1 (RV.cellN Try.ag118 rfl (M.blk 0 rfl) rfl))⟩
  refine ⟨?_, M.close [] rfl (by decide) trivial⟩
  rfl

theorem law5_row {G : Nat → Prop} {w : World} (k : ByteArray) (start : Int) (fin : Int)   (M : Mem G (fun _ => False) w [] [] w) : Rets Try.prog 77 #[(Value.string k), (Value.int .i64 start), (Value.int .i64 fin)] w fun r w' => r = (Value.agg #[(Value.string k), (Value.int .i64 start), (Value.int .i64 fin), (Value.int .i64 1), (Value.int .i64 0), (Value.int .i64 0), (Value.int .i64 0)]) ∧ Mem G (fun _ => False) w [] [] w' := by
  refine Rets.enter 13 _ Try.func77 rfl Try.ntmps77 Try.results77 (by simp) ?_
  refine W.seq' ?_
  refine W.region rfl ?_
  refine WL.alloc (c := #[(Value.string (⟨#[]⟩)), (Value.int .i64 0), (Value.int .i64 0), (Value.int .i64 0), (Value.int .i64 0), (Value.int .i64 0), (Value.int .i64 0)]) M rfl Try.el115.zero rfl (fun b1 w2 hb1 M => ?_)
  refine WL.nil ?_
  refine W.seq' ?_
  refine W.region rfl ?_
  refine WL.step (v := (Value.string k)) rfl (Step.move rfl) ?_
  refine WL.step (v := (Value.int .i64 start)) rfl (Step.move rfl) ?_
  refine WL.step (v := (Value.int .i64 fin)) rfl (Step.move rfl) ?_
  refine WL.step (v := (Value.agg #[(Value.string k), (Value.int .i64 start), (Value.int .i64 fin)])) rfl (Step.pure (by kernel_rfl)) ?_
  refine WL.step (v := (Value.agg #[(Value.int .i64 1), (Value.int .i64 0), (Value.int .i64 0), (Value.int .i64 0)])) rfl (Step.pure (by kernel_rfl)) ?_
  refine WL.step (v := (Value.agg #[(Value.string k), (Value.int .i64 start), (Value.int .i64 fin), (Value.int .i64 1), (Value.int .i64 0), (Value.int .i64 0), (Value.int .i64 0)])) rfl (Step.pure (by kernel_rfl)) ?_
  refine WL.store (v := (Value.agg #[(Value.string k), (Value.int .i64 start), (Value.int .i64 fin), (Value.int .i64 1), (Value.int .i64 0), (Value.int .i64 0), (Value.int .i64 0)])) (cs := [(Value.string k), (Value.int .i64 start), (Value.int .i64 fin), (Value.int .i64 1), (Value.int .i64 0), (Value.int .i64 0), (Value.int .i64 0)]) (c' := #[(Value.string k), (Value.int .i64 start), (Value.int .i64 fin), (Value.int .i64 1), (Value.int .i64 0), (Value.int .i64 0), (Value.int .i64 0)]) M 0 rfl rfl Try.el115.sized rfl rfl rfl rfl (Nat.le_of_ble_eq_true rfl) (cel_cons rfl (cel_cons rfl (cel_cons rfl (cel_cons rfl (cel_cons rfl (cel_cons rfl (cel_cons rfl cel_nil))))))) rfl rfl (fun w3 M => ?_)
  refine WL.nil ?_
  refine W.ret ?_
  refine ⟨.inl rfl, (Value.agg #[(Value.string k), (Value.int .i64 start), (Value.int .i64 fin), (Value.int .i64 1), (Value.int .i64 0), (Value.int .i64 0), (Value.int .i64 0)]), ?_, ?_⟩
  · exact ⟨rfl, (Res.r1 (RV.cellN Try.ag115 rfl (M.blk 0 rfl) rfl))⟩
  refine ⟨?_, M.close [] rfl (by decide) trivial⟩
  rfl

theorem law5_rows {G : Nat → Prop} {w : World} (v : Value) (l : List Row5)  (hb : l.length ≤ 1000000) (M : Mem G (fun _ => False) w [] [SlAt 7 v l.length (l.flatMap rowE)] w) : Rets Try.prog 60 #[v] w fun r w' => ∃ (v' : Value), r = v' ∧ Mem G (fun _ => False) w [own 169 7 v' l.length (l.flatMap rowE)] [] w' := by
  refine Rets.enter 28 _ Try.func60 rfl Try.ntmps60 Try.results60 (by simp) ?_
  have hle1 := SlAt.le' (M.rep 0 rfl)
  have sl2 : IsSl v := SlAt.isSl (Mem.rep M 0 rfl)
  refine W.seq' ?_
  refine W.region rfl ?_
  refine WL.step (v := (Value.slice none 0 0)) rfl (Step.assign rfl) ?_
  refine WL.nil ?_
  refine W.seq' ?_
  refine W.region rfl ?_
  refine WL.step (v := (Value.slice none 0 0)) rfl (Step.assign rfl) ?_
  refine WL.nil ?_
  refine W.seq' ?_
  refine W.seq' ?_
  refine W.region rfl ?_
  refine WL.step (v := (Value.int .i64 0)) rfl (Step.assign rfl) ?_
  refine WL.nil ?_
  refine W.block ?_
  replace M := M.ownNil 169 7
  replace M := M.rechunk 0 (c' := own 169 7 (Value.slice none 0 0) ((l.take 0).length) ((l.take 0).flatMap rowE)) rfl rfl
  replace M : Mem _ _ _ [own 169 7 (Value.slice none 0 0) ((l.take 0).length) ((l.take 0).flatMap rowE)] [SlAt 7 v l.length (l.flatMap rowE)] _ := M
  refine W.loop (fun kk ρ w' => ∃ (i_ : Nat) (acci_ : Value), ((i_ ≤ l.length) ∧ kk = l.length - i_) ∧ ρ.has [(0, v), (2, (Value.slice none 0 0)), (3, acci_), (4, (Value.int .i64 ↑i_))] ∧ Mem G (fun _ => False) w [own 169 7 acci_ ((l.take i_).length) ((l.take i_).flatMap rowE)] [SlAt 7 v l.length (l.flatMap rowE)]  w') _ ⟨0, _, ⟨(Nat.zero_le _), rfl⟩, ⟨rfl, rfl, rfl, rfl, rfl, rfl⟩, M⟩ ?_
  rintro _ ρ4 w3 ⟨i_, acci_, ⟨hi5, rfl⟩, hρ, M⟩
  obtain ⟨ρ4, rfl⟩ := hρ.know
  clear hρ
  have sl6 : IsSl acci_ := SlAt.isSl (own_slAt (M.chunk 0 rfl).inv)
  have hacl : (l.take i_).length ≤ 1000000 := by rw [List.length_take]; omega
  refine W.seq' ?_
  refine W.seq' ?_
  refine W.region rfl ?_
  refine WL.step (v := (Value.int .i64 ↑i_)) rfl (Step.move rfl) ?_
  refine WL.step (v := v) rfl (Step.move rfl) ?_
  refine WL.step (v := (Value.int .i64 ↑l.length)) rfl (Step.lenSl Try.un105 rfl (M.rep 0 rfl)) ?_
  refine WL.step (v := (Value.bool (decide ((↑i_ : Int) < (↑l.length : Int))))) rfl (Step.pure (by kernel_rfl)) ?_
  refine WL.nil ?_
  refine W.cond (t := decide ((↑i_ : Int) < (↑l.length : Int))) rfl (fun h7 => ?_) (fun h7 => ?_)
  ·
    have h7p := of_decide_eq_true h7
    refine W.skip ?_
    refine W.seq' ?_
    refine W.block ?_
    obtain ⟨cap9, hb8⟩ := SlAt.base (M.rep 0 rfl) (by omega)
    obtain ⟨x10, hx10⟩ := elem_of_lt (xs := l) (i := i_) (by omega)
    refine W.drawn M [0, 1, 2, 3, 4, 5, 6, 7, 8, 9, 10, 11, 12, 13, 14, 15, 16] [6, 12, 15] [14] [] [SlAt 7 v l.length (l.flatMap rowE)] (List.Sublist.cons _ List.Sublist.slnil) (fun _ h => h) Try.mixed (by kernel_rfl) ?_
    refine TW.pure (v := acci_) rfl (by decide) (by decide) rfl (fun w => (Step.move rfl)) ?_
    refine TW.pure (v := v) rfl (by decide) (by decide) rfl (fun w => (Step.move rfl)) ?_
    refine TW.pure (v := (Value.int .i64 ↑i_)) rfl (by decide) (by decide) rfl (fun w => (Step.move rfl)) ?_
    refine TW.pure (v := (Value.pointer (some ⟨(sBlk v), sOff v + i_ * 7, none⟩))) rfl (by decide) (by decide) rfl (fun w => (Step.indexAddr (i := i_) (Try.un105).run Try.el115.sized rfl rfl (by omega) hb8 (by omega))) ?_
    refine TW.pure (v := (Value.pointer (some ⟨(sBlk v), sOff v + i_ * 7, none⟩))) rfl (by decide) (by decide) rfl (fun w => (Step.pure (by kernel_rfl))) ?_
    refine TW.read (v := (Value.agg #[(Value.string x10.pane.key), (Value.int .i64 x10.pane.start), (Value.int .i64 x10.pane.fin)])) rfl (by decide) (by decide) rfl (fun A w M => (Step.loadEN (k := 0) (cs' := [(Value.string x10.pane.key), (Value.int .i64 x10.pane.start), (Value.int .i64 x10.pane.fin)]) Try.ag113 (flat_ec (M.rep 0 rfl) hx10 rowE_len) (by decide) rfl rfl rfl)) ?_
    refine TW.callX (ι := Unit) (fun jx v_ => v_ = (Value.agg #[(Value.string x10.pane.key), (Value.int .i64 x10.pane.start), (Value.int .i64 x10.pane.fin)])) (fun jx => [own 169 7 acci_ ((l.take i_).length) ((l.take i_).flatMap rowE)]) (fun jx => [SlAt 7 v l.length (l.flatMap rowE)]) rfl (by decide) rfl (fun jx => (List.Sublist.cons _ List.Sublist.slnil)) (fun jx r h => h) (fun A w M => Rets.mono (law5_pane x10.pane (M.enterW0 trivial)) (fun v_ w_ ⟨e_, m⟩ => ⟨(), e_, (M.leaveW0 m).sel (L' := [fl A, own 169 7 acci_ ((l.take i_).length) ((l.take i_).flatMap rowE)]) [0, 1] rfl (by decide), fun b hb => M.keptW0 m (fl A) (List.mem_cons_self ..) b hb⟩)) (fun w => CallsF.func Try.en66 rfl) (fun jx v hp hin => ?_)
    replace hp := hp.symm; subst hp
    clear hin
    change TW _ _ _ _ _ _ _ _ (MemA _ _ _ [own 169 7 acci_ ((l.take i_).length) ((l.take i_).flatMap rowE)] [SlAt 7 v l.length (l.flatMap rowE)])
    refine TW.pure (v := v) rfl (by decide) (by decide) rfl (fun w => (Step.move rfl)) ?_
    refine TW.pure (v := (Value.int .i64 ↑i_)) rfl (by decide) (by decide) rfl (fun w => (Step.move rfl)) ?_
    refine TW.pure (v := (Value.pointer (some ⟨(sBlk v), sOff v + i_ * 7, none⟩))) rfl (by decide) (by decide) rfl (fun w => (Step.indexAddr (i := i_) (Try.un105).run Try.el115.sized rfl rfl (by omega) hb8 (by omega))) ?_
    refine TW.pure (v := (Value.pointer (some ⟨(sBlk v), sOff v + i_ * 7 + 3, none⟩))) rfl (by decide) (by decide) rfl (fun w => (Step.pure (by kernel_rfl))) ?_
    refine TW.read (v := (Value.agg #[(Value.int .i64 x10.agg.count), (Value.int .i64 x10.agg.sum), (Value.int .i64 x10.agg.min), (Value.int .i64 x10.agg.max)])) rfl (by decide) (by decide) rfl (fun A w M => (Step.loadEN (k := 3) (cs' := [(Value.int .i64 x10.agg.count), (Value.int .i64 x10.agg.sum), (Value.int .i64 x10.agg.min), (Value.int .i64 x10.agg.max)]) Try.ag32 (flat_ec (M.rep 0 rfl) hx10 rowE_len) (by decide) rfl rfl rfl)) ?_
    refine TW.callX (ι := Unit) (fun jx v_ => v_ = (Value.agg #[(Value.int .i64 x10.agg.count), (Value.int .i64 x10.agg.sum), (Value.int .i64 x10.agg.min), (Value.int .i64 x10.agg.max)])) (fun jx => [own 169 7 acci_ ((l.take i_).length) ((l.take i_).flatMap rowE)]) (fun jx => [SlAt 7 v l.length (l.flatMap rowE)]) rfl (by decide) rfl (fun jx => (List.Sublist.cons _ List.Sublist.slnil)) (fun jx r h => h) (fun A w M => Rets.mono (law5_ref x10.agg (M.enterW0 trivial)) (fun v_ w_ ⟨e_, m⟩ => ⟨(), e_, (M.leaveW0 m).sel (L' := [fl A, own 169 7 acci_ ((l.take i_).length) ((l.take i_).flatMap rowE)]) [0, 1] rfl (by decide), fun b hb => M.keptW0 m (fl A) (List.mem_cons_self ..) b hb⟩)) (fun w => CallsF.func Try.en107 rfl) (fun jx v hp hin => ?_)
    replace hp := hp.symm; subst hp
    clear hin
    change TW _ _ _ _ _ _ _ _ (MemA _ _ _ [own 169 7 acci_ ((l.take i_).length) ((l.take i_).flatMap rowE)] [SlAt 7 v l.length (l.flatMap rowE)])
    refine TW.pure (v := (Value.agg #[(Value.string x10.pane.key), (Value.int .i64 x10.pane.start), (Value.int .i64 x10.pane.fin), (Value.int .i64 x10.agg.count), (Value.int .i64 x10.agg.sum), (Value.int .i64 x10.agg.min), (Value.int .i64 x10.agg.max)])) rfl (by decide) (by decide) rfl (fun w => (Step.pure (by kernel_rfl))) ?_
    refine TW.new (obj := .cells #[(Value.string x10.pane.key), (Value.int .i64 x10.pane.start), (Value.int .i64 x10.pane.fin), (Value.int .i64 x10.agg.count), (Value.int .i64 x10.agg.sum), (Value.int .i64 x10.agg.min), (Value.int .i64 x10.agg.max)] 169) (fun b => .slice (some ⟨b, 0, none⟩) 1 1) rfl (by decide) (by decide) rfl (fun w => Step.make (by kernel_rfl)) (fun b19 => ?_)
    refine TW.doesM (fun v_ => own 169 7 v_ (((l.take i_) ++ ([x10] : List Row5)).length) (((l.take i_) ++ ([x10] : List Row5)).flatMap rowE)) 1 rfl rfl (by decide) rfl (fun v_ => (List.Sublist.cons _ (List.Sublist.cons _ List.Sublist.slnil))) (fun r h => h) (fun A w M => M.appendF' (l.take i_) ([x10] : List Row5) (sv := (Value.slice (some ⟨b19, 0, none⟩) 1 1)) 2 Try.un107 Try.el169 rfl (by decide) rfl rfl rfl (SlAt.of_blk (M.blk 1 rfl) rfl (by decide)) rowE_cel (by have := hacl; simp only [maxLen, List.length_nil, List.length_cons, List.length_append]; omega) (by have := hacl; (try simp only [List.length_nil, List.length_cons, List.length_append]); omega)) (fun v20 hin => ?_)
    obtain ⟨_, _, hin⟩ := hin
    have sl22 : IsSl v20 := SlAt.isSl (own_slAt (Mem.chunk hin 2 rfl).inv)
    clear hin
    change TW _ _ _ _ _ _ _ _ (MemA _ _ _ [blk b19 (.cells #[(Value.string x10.pane.key), (Value.int .i64 x10.pane.start), (Value.int .i64 x10.pane.fin), (Value.int .i64 x10.agg.count), (Value.int .i64 x10.agg.sum), (Value.int .i64 x10.agg.min), (Value.int .i64 x10.agg.max)] 169), own 169 7 v20 (((l.take i_) ++ ([x10] : List Row5)).length) (((l.take i_) ++ ([x10] : List Row5)).flatMap rowE)] [SlAt 7 v l.length (l.flatMap rowE)])
    refine TW.pure (v := v20) rfl (by decide) (by decide) rfl (fun w => (Step.assign rfl)) ?_
    refine TW.done (fun w23 M => ?_)
    refine W.region rfl ?_
    refine WL.step (v := (Value.int .i64 ↑i_)) rfl (Step.move rfl) ?_
    refine WL.step (v := (Value.int .i64 (↑i_ + 1))) rfl (Step.add rfl rfl (wrap_i64 (by omega))) ?_
    refine WL.step (v := (Value.int .i64 (↑i_ + 1))) rfl (Step.assign rfl) ?_
    refine WL.nil ?_
    replace M := M.rechunk 1 (c' := own 169 7 v20 ((l.take (i_ + 1)).length) ((l.take (i_ + 1)).flatMap rowE)) rfl (by rw [← take_snoc hx10])
    replace M : Mem _ _ _ [blk b19 (.cells #[(Value.string x10.pane.key), (Value.int .i64 x10.pane.start), (Value.int .i64 x10.pane.fin), (Value.int .i64 x10.agg.count), (Value.int .i64 x10.agg.sum), (Value.int .i64 x10.agg.min), (Value.int .i64 x10.agg.max)] 169), own 169 7 v20 ((l.take (i_ + 1)).length) ((l.take (i_ + 1)).flatMap rowE)] [SlAt 7 v l.length (l.flatMap rowE)] _ := M
    replace M := M.sel (L' := [own 169 7 v20 ((l.take (i_ + 1)).length) ((l.take (i_ + 1)).flatMap rowE)]) [1] rfl (by decide)
    exact ⟨_, (by omega), i_ + 1, v20, ⟨(by omega), rfl⟩, ⟨rfl, rfl, rfl, rfl, rfl, rfl⟩, M⟩
  ·
    have h7p := of_decide_eq_false h7
    refine W.exit ?_
    refine thn_exit ?_
    refine thn_exit ?_
    refine inBlk_hit ?_
    refine W.seq' ?_
    refine W.region rfl ?_
    refine WL.step (v := acci_) rfl (Step.move rfl) ?_
    refine WL.step (v := acci_) rfl (Step.assign rfl) ?_
    refine WL.nil ?_
    refine W.ret ?_
    refine ⟨.inl rfl, acci_, ?_, ?_⟩
    · exact ⟨rfl, (Res.r1 (show RV _ _ _ (.tmp 2) acci_ from by exact rfl))⟩
    have e24 : l = l.take i_ := by
      rw [show i_ = l.length by omega, List.take_length]
    replace M := M.rechunk 0 (c' := own 169 7 acci_ l.length (l.flatMap rowE)) rfl (congrArg (fun z => own 169 7 acci_ z.length (z.flatMap rowE)) e24.symm)
    replace M : Mem _ _ _ [own 169 7 acci_ l.length (l.flatMap rowE)] [SlAt 7 v l.length (l.flatMap rowE)] _ := M
    refine ⟨acci_, ?_, M.close [0] rfl (by decide) trivial⟩
    rfl

theorem law5_refs {G : Nat → Prop} {w : World} (v : Value) (l : List Agg5)  (hb : l.length ≤ 1000000) (M : Mem G (fun _ => False) w [] [SlAt 4 v l.length (l.flatMap aggE)] w) : Rets Try.prog 122 #[v] w fun r w' => ∃ (v' : Value), r = v' ∧ Mem G (fun _ => False) w [own 45 4 v' l.length (l.flatMap aggE)] [] w' := by
  refine Rets.enter 20 _ Try.func122 rfl Try.ntmps122 Try.results122 (by simp) ?_
  have hle1 := SlAt.le' (M.rep 0 rfl)
  have sl2 : IsSl v := SlAt.isSl (Mem.rep M 0 rfl)
  refine W.seq' ?_
  refine W.region rfl ?_
  refine WL.step (v := (Value.slice none 0 0)) rfl (Step.assign rfl) ?_
  refine WL.nil ?_
  refine W.seq' ?_
  refine W.region rfl ?_
  refine WL.step (v := (Value.slice none 0 0)) rfl (Step.assign rfl) ?_
  refine WL.nil ?_
  refine W.seq' ?_
  refine W.seq' ?_
  refine W.region rfl ?_
  refine WL.step (v := (Value.int .i64 0)) rfl (Step.assign rfl) ?_
  refine WL.nil ?_
  refine W.block ?_
  replace M := M.ownNil 45 4
  replace M := M.rechunk 0 (c' := own 45 4 (Value.slice none 0 0) ((l.take 0).length) ((l.take 0).flatMap aggE)) rfl rfl
  replace M : Mem _ _ _ [own 45 4 (Value.slice none 0 0) ((l.take 0).length) ((l.take 0).flatMap aggE)] [SlAt 4 v l.length (l.flatMap aggE)] _ := M
  refine W.loop (fun kk ρ w' => ∃ (i_ : Nat) (acci_ : Value), ((i_ ≤ l.length) ∧ kk = l.length - i_) ∧ ρ.has [(0, v), (2, (Value.slice none 0 0)), (3, acci_), (4, (Value.int .i64 ↑i_))] ∧ Mem G (fun _ => False) w [own 45 4 acci_ ((l.take i_).length) ((l.take i_).flatMap aggE)] [SlAt 4 v l.length (l.flatMap aggE)]  w') _ ⟨0, _, ⟨(Nat.zero_le _), rfl⟩, ⟨rfl, rfl, rfl, rfl, rfl, rfl⟩, M⟩ ?_
  rintro _ ρ4 w3 ⟨i_, acci_, ⟨hi5, rfl⟩, hρ, M⟩
  obtain ⟨ρ4, rfl⟩ := hρ.know
  clear hρ
  have sl6 : IsSl acci_ := SlAt.isSl (own_slAt (M.chunk 0 rfl).inv)
  have hacl : (l.take i_).length ≤ 1000000 := by rw [List.length_take]; omega
  refine W.seq' ?_
  refine W.seq' ?_
  refine W.region rfl ?_
  refine WL.step (v := (Value.int .i64 ↑i_)) rfl (Step.move rfl) ?_
  refine WL.step (v := v) rfl (Step.move rfl) ?_
  refine WL.step (v := (Value.int .i64 ↑l.length)) rfl (Step.lenSl Try.un130 rfl (M.rep 0 rfl)) ?_
  refine WL.step (v := (Value.bool (decide ((↑i_ : Int) < (↑l.length : Int))))) rfl (Step.pure (by kernel_rfl)) ?_
  refine WL.nil ?_
  refine W.cond (t := decide ((↑i_ : Int) < (↑l.length : Int))) rfl (fun h7 => ?_) (fun h7 => ?_)
  ·
    have h7p := of_decide_eq_true h7
    refine W.skip ?_
    refine W.seq' ?_
    refine W.block ?_
    refine W.region rfl ?_
    refine WL.step (v := acci_) rfl (Step.move rfl) ?_
    refine WL.step (v := v) rfl (Step.move rfl) ?_
    refine WL.step (v := (Value.int .i64 ↑i_)) rfl (Step.move rfl) ?_
    obtain ⟨cap9, hb8⟩ := SlAt.base (M.rep 0 rfl) (by omega)
    obtain ⟨x10, hx10⟩ := elem_of_lt (xs := l) (i := i_) (by omega)
    refine WL.step (v := (Value.pointer (some ⟨(sBlk v), sOff v + i_ * 4, none⟩))) rfl (Step.indexAddr (i := i_) (Try.un130).run Try.el32.sized rfl rfl (by omega) hb8 (by omega)) ?_
    refine WL.step (v := (Value.agg #[(Value.int .i64 x10.count), (Value.int .i64 x10.sum), (Value.int .i64 x10.min), (Value.int .i64 x10.max)])) rfl (Step.loadEN (k := 0) (cs' := [(Value.int .i64 x10.count), (Value.int .i64 x10.sum), (Value.int .i64 x10.min), (Value.int .i64 x10.max)]) Try.ag32 (flat_ec (M.rep 0 rfl) hx10 aggE_len) (by decide) rfl rfl rfl) ?_
    refine WL.callX rfl (law5_ref x10 (M.enterW0 trivial)) (CallsF.func Try.en107 rfl) ?_
    rintro _ w11 ⟨rfl, m⟩
    replace M := M.leaveW0 m
    clear m
    replace M : Mem _ _ _ [own 45 4 acci_ ((l.take i_).length) ((l.take i_).flatMap aggE)] [SlAt 4 v l.length (l.flatMap aggE)] _ := M
    refine WL.new (obj := .cells #[(Value.int .i64 x10.count), (Value.int .i64 x10.sum), (Value.int .i64 x10.min), (Value.int .i64 x10.max)] 45) (fun b => .slice (some ⟨b, 0, none⟩) 1 1) M rfl (fun w => Step.make (by kernel_rfl)) (fun b12 w13 hb12 M => ?_)
    refine WL.does rfl (M.appendF (l.take i_) ([x10] : List Agg5) (sv := (Value.slice (some ⟨b12, 0, none⟩) 1 1)) 1 Try.un186 Try.el45 rfl (by decide) rfl rfl rfl (SlAt.of_blk (M.blk 0 rfl) rfl (by decide)) aggE_cel (by have := hacl; simp only [maxLen, List.length_nil, List.length_cons, List.length_append]; omega) (by have := hacl; (try simp only [List.length_nil, List.length_cons, List.length_append]); omega)) ?_
    rintro v14 w15 M
    replace M : Mem _ _ _ [blk b12 (.cells #[(Value.int .i64 x10.count), (Value.int .i64 x10.sum), (Value.int .i64 x10.min), (Value.int .i64 x10.max)] 45), own 45 4 v14 (((l.take i_) ++ ([x10] : List Agg5)).length) (((l.take i_) ++ ([x10] : List Agg5)).flatMap aggE)] [SlAt 4 v l.length (l.flatMap aggE)] _ := M
    have sl16 : IsSl v14 := SlAt.isSl (own_slAt (M.chunk 1 rfl).inv)
    refine WL.step (v := v14) rfl (Step.assign rfl) ?_
    refine WL.nil ?_
    refine W.region rfl ?_
    refine WL.step (v := (Value.int .i64 ↑i_)) rfl (Step.move rfl) ?_
    refine WL.step (v := (Value.int .i64 (↑i_ + 1))) rfl (Step.add rfl rfl (wrap_i64 (by omega))) ?_
    refine WL.step (v := (Value.int .i64 (↑i_ + 1))) rfl (Step.assign rfl) ?_
    refine WL.nil ?_
    replace M := M.rechunk 1 (c' := own 45 4 v14 ((l.take (i_ + 1)).length) ((l.take (i_ + 1)).flatMap aggE)) rfl (by rw [← take_snoc hx10])
    replace M : Mem _ _ _ [blk b12 (.cells #[(Value.int .i64 x10.count), (Value.int .i64 x10.sum), (Value.int .i64 x10.min), (Value.int .i64 x10.max)] 45), own 45 4 v14 ((l.take (i_ + 1)).length) ((l.take (i_ + 1)).flatMap aggE)] [SlAt 4 v l.length (l.flatMap aggE)] _ := M
    replace M := M.sel (L' := [own 45 4 v14 ((l.take (i_ + 1)).length) ((l.take (i_ + 1)).flatMap aggE)]) [1] rfl (by decide)
    exact ⟨_, (by omega), i_ + 1, v14, ⟨(by omega), rfl⟩, ⟨rfl, rfl, rfl, rfl, rfl, rfl⟩, M⟩
  ·
    have h7p := of_decide_eq_false h7
    refine W.exit ?_
    refine thn_exit ?_
    refine thn_exit ?_
    refine inBlk_hit ?_
    refine W.seq' ?_
    refine W.region rfl ?_
    refine WL.step (v := acci_) rfl (Step.move rfl) ?_
    refine WL.step (v := acci_) rfl (Step.assign rfl) ?_
    refine WL.nil ?_
    refine W.ret ?_
    refine ⟨.inl rfl, acci_, ?_, ?_⟩
    · exact ⟨rfl, (Res.r1 (show RV _ _ _ (.tmp 2) acci_ from by exact rfl))⟩
    have e17 : l = l.take i_ := by
      rw [show i_ = l.length by omega, List.take_length]
    replace M := M.rechunk 0 (c' := own 45 4 acci_ l.length (l.flatMap aggE)) rfl (congrArg (fun z => own 45 4 acci_ z.length (z.flatMap aggE)) e17.symm)
    replace M : Mem _ _ _ [own 45 4 acci_ l.length (l.flatMap aggE)] [SlAt 4 v l.length (l.flatMap aggE)] _ := M
    refine ⟨acci_, ?_, M.close [0] rfl (by decide) trivial⟩
    rfl
end Go.Proofs
