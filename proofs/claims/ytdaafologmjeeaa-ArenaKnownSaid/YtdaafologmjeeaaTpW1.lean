/- Walks. -/
import Derived.Test.YtdaafologmjeeaaTpArena2
import Derived.Test.YtdaafologmjeeaaChecked
set_option maxRecDepth 100000
set_option linter.all false
namespace Go.Proofs
open Go Tp
theorem Try.un22 : Und Try.prog 22 (.slice 3) := by unfold Und; kernel_rfl
theorem Try.un26 : Und Try.prog 26 (.slice 29) := by unfold Und; kernel_rfl
theorem Try.un34 : Und Try.prog 34 (.slice 9) := by unfold Und; kernel_rfl
theorem Try.un68 : Und Try.prog 68 (.map 3 75) := by unfold Und; kernel_rfl
theorem Try.un69 : Und Try.prog 69 (.slice 73) := by unfold Und; kernel_rfl
theorem Try.ag29 : Aggr Try.prog 29 2 := ⟨fun _ => by kernel_rfl, fun _ => by kernel_rfl⟩
theorem Try.ag36 : Aggr Try.prog 36 4 := ⟨fun _ => by kernel_rfl, fun _ => by kernel_rfl⟩
theorem Try.ag61 : Aggr Try.prog 61 2 := ⟨fun _ => by kernel_rfl, fun _ => by kernel_rfl⟩
theorem Try.ag73 : Aggr Try.prog 73 5 := ⟨fun _ => by kernel_rfl, fun _ => by kernel_rfl⟩
theorem Try.el3 : Elem Try.prog 3 (Value.int .i64 0) 1 8 := Elem.mk (by kernel_rfl)
theorem Try.el9 : Elem Try.prog 9 (Value.string (⟨#[]⟩)) 1 16 := Elem.mk (by kernel_rfl)
theorem Try.el29 : Elem Try.prog 29 (Value.agg #[(Value.int .i64 0), (Value.int .i64 0)]) 2 16 := Elem.mk (by kernel_rfl)
theorem Try.el36 : Elem Try.prog 36 (Value.agg #[(Value.bool false), (Value.slice none 0 0), (Value.slice none 0 0), (Value.slice none 0 0)]) 4 80 := Elem.mk (by kernel_rfl)
theorem Try.el61 : Elem Try.prog 61 (Value.agg #[(Value.int .i64 0), (Value.int .i64 0)]) 2 16 := Elem.mk (by kernel_rfl)
theorem Try.el69 : Elem Try.prog 69 (Value.slice none 0 0) 1 24 := Elem.mk (by kernel_rfl)
theorem Try.el73 : Elem Try.prog 73 (Value.agg #[(Value.bool false), (Value.slice none 0 0), (Value.slice none 0 0), (Value.slice none 0 0), (Value.int .i64 0)]) 5 88 := Elem.mk (by kernel_rfl)
theorem Try.el75 : Elem Try.prog 75 (Value.agg #[]) 0 0 := Elem.mk (by kernel_rfl)
theorem Try.en16 : Enters Try.prog 16 := fun _ _ => by kernel_rfl
theorem Try.en27 : Enters Try.prog 27 := fun _ _ => by kernel_rfl
theorem Try.en28 : Enters Try.prog 28 := fun _ _ => by kernel_rfl
theorem Try.en29 : Enters Try.prog 29 := fun _ _ => by kernel_rfl
theorem Try.en30 : Enters Try.prog 30 := fun _ _ => by kernel_rfl
theorem Try.en39 : Enters Try.prog 39 := fun _ _ => by kernel_rfl
theorem Try.en40 : Enters Try.prog 40 := fun _ _ => by kernel_rfl
theorem Try.en41 : Enters Try.prog 41 := fun _ _ => by kernel_rfl
theorem Try.en42 : Enters Try.prog 42 := fun _ _ => by kernel_rfl
theorem Try.en43 : Enters Try.prog 43 := fun _ _ => by kernel_rfl
theorem Try.en44 : Enters Try.prog 44 := fun _ _ => by kernel_rfl
theorem Try.en45 : Enters Try.prog 45 := fun _ _ => by kernel_rfl
theorem Try.fl29 : (Try.prog.fieldsOf 29).toList = [⟨ "At", 3, 0, false, "", "", 0⟩, ⟨ "Turn", 3, 1, false, "", "", 8⟩] := by kernel_rfl
theorem Try.eg29 : Try.prog.eqGuardType Try.prog.depth 29 = false := by kernel_rfl
theorem Try.eq29 (d : Nat) (a0 : Int) (a1 : Int) (b0 : Int) (b1 : Int) : ∀ w, (Op.equalIn (d + 2) 29 (Value.agg #[(Value.int .i64 a0), (Value.int .i64 a1)]) (Value.agg #[(Value.int .i64 b0), (Value.int .i64 b1)])).run Try.prog w = .ok (((a0 : Int) == (b0 : Int)) && (((a1 : Int) == (b1 : Int)) && true)) w :=
  (eq_struct (by kernel_rfl) (by kernel_rfl) (Try.fl29) (eqF_cons (x := (Value.int .i64 a0)) (y := (Value.int .i64 b0)) (by decide) (fun _ => by kernel_rfl) (fun _ => by kernel_rfl) (fun w => run_equalIn_int w _ _ _ .i64 _ _ (by kernel_rfl)) (eqF_cons (x := (Value.int .i64 a1)) (y := (Value.int .i64 b1)) (by decide) (fun _ => by kernel_rfl) (fun _ => by kernel_rfl) (fun w => run_equalIn_int w _ _ _ .i64 _ _ (by kernel_rfl)) eqF_nil)))
theorem Try.mt68 : MapT Try.prog 68 3 75 .i64 (Value.agg #[]) := ⟨Try.un68, by unfold Und; kernel_rfl, (Elem.mk (size := 0) (bytes := 0) (by kernel_rfl)).zero⟩
theorem Try.sc3 : Scal Try.prog 3 := fun _ => by kernel_rfl
theorem Try.sc4 : Scal Try.prog 4 := fun _ => by kernel_rfl
theorem Try.sc9 : Scal Try.prog 9 := fun _ => by kernel_rfl
theorem Try.sc22 : Scal Try.prog 22 := fun _ => by kernel_rfl
theorem Try.sc26 : Scal Try.prog 26 := fun _ => by kernel_rfl
theorem Try.sc34 : Scal Try.prog 34 := fun _ => by kernel_rfl
theorem Try.sc68 : Scal Try.prog 68 := fun _ => by kernel_rfl
theorem Try.sc69 : Scal Try.prog 69 := fun _ => by kernel_rfl
theorem Try.mixed : Try.prog.follows .mixedOrders = true := by kernel_rfl

theorem equal_int {G : Nat → Prop} {w : World} (v : Value) (xs : List Int) (u : Value) (ys : List Int)  (M : Mem G (fun _ => False) w [] [SlAt 1 v xs.length (xs.flatMap intE), SlAt 1 u ys.length (ys.flatMap intE)] w) : Rets Try.prog 41 #[v, u] w fun r w' => r = (Value.bool (decide (xs = ys))) ∧ Mem G (fun _ => False) w [] [] w' := by
  refine Rets.enter 26 _ Try.func41 rfl Try.ntmps41 Try.results41 (by simp) ?_
  have hle1 := SlAt.le' (M.rep 0 rfl)
  have hle2 := SlAt.le' (M.rep 1 rfl)
  have sl3 : IsSl v := SlAt.isSl (Mem.rep M 0 rfl)
  have sl4 : IsSl u := SlAt.isSl (Mem.rep M 1 rfl)
  refine W.seq' ?_
  refine W.region rfl ?_
  refine WL.step (v := (Value.bool false)) rfl (Step.assign rfl) ?_
  refine WL.nil ?_
  refine W.seq' ?_
  refine W.seq' ?_
  refine W.region rfl ?_
  refine WL.step (v := v) rfl (Step.move rfl) ?_
  refine WL.step (v := (Value.int .i64 ↑xs.length)) rfl (Step.lenSl Try.un22 rfl (M.rep 0 rfl)) ?_
  refine WL.step (v := u) rfl (Step.move rfl) ?_
  refine WL.step (v := (Value.int .i64 ↑ys.length)) rfl (Step.lenSl Try.un22 rfl (M.rep 1 rfl)) ?_
  refine WL.step (v := (Value.bool ((↑xs.length : Int) != (↑ys.length : Int)))) rfl (Step.pure (by kernel_rfl)) ?_
  refine WL.nil ?_
  refine W.cond (t := (↑xs.length : Int) != (↑ys.length : Int)) rfl (fun h5 => ?_) (fun h5 => ?_)
  ·
    have h5p : ¬ (↑xs.length : Int) = (↑ys.length : Int) := by simpa using h5
    refine W.seq' ?_
    refine W.region rfl ?_
    refine WL.step (v := (Value.bool false)) rfl (Step.assign rfl) ?_
    refine WL.nil ?_
    refine W.ret ?_
    refine ⟨.inl rfl, (Value.bool false), ?_, ?_⟩
    · exact (Res.r1 (show RV _ _ _ (.tmp 4) (Value.bool false) from by exact rfl))
    refine ⟨?_, M.close [] rfl (by decide) trivial⟩
    refine congrArg Value.bool (Eq.symm ?_)
    refine decide_eq_false fun e => ?_
    subst e
    omega
  ·
    have h5p : (↑xs.length : Int) = (↑ys.length : Int) := by simpa using h5
    refine W.skip ?_
    refine W.seq' ?_
    refine W.seq' ?_
    refine W.region rfl ?_
    refine WL.step (v := v) rfl (Step.move rfl) ?_
    refine WL.step (v := (Value.int .i64 ↑xs.length)) rfl (Step.lenSl Try.un22 rfl (M.rep 0 rfl)) ?_
    refine WL.step (v := (Value.int .i64 0)) rfl (Step.move rfl) ?_
    refine WL.nil ?_
    refine W.block ?_
    refine W.loop (fun kk ρ w' => ∃ (i : Nat), ((i ≤ xs.length) ∧ (∀ j, j < i → xs[j]? = ys[j]?) ∧ kk = xs.length - i) ∧ ρ.has [(0, v), (1, u), (12, (Value.int .i64 ↑xs.length)), (13, (Value.int .i64 ↑i))] ∧ Mem G (fun _ => False) w [] [SlAt 1 v xs.length (xs.flatMap intE), SlAt 1 u ys.length (ys.flatMap intE)]  w') _ ⟨0, ⟨(Nat.zero_le _), (fun _ h => absurd h (Nat.not_lt_zero _)), rfl⟩, ⟨rfl, rfl, rfl, rfl, trivial⟩, M⟩ ?_
    rintro _ ρ7 w6 ⟨i, ⟨hi8, hi9, rfl⟩, hρ, M⟩
    obtain ⟨ρ7, rfl⟩ := hρ.know
    clear hρ
    refine W.seq' ?_
    refine W.region rfl ?_
    refine WL.step (v := (Value.bool (decide ((↑i : Int) < (↑xs.length : Int))))) rfl (Step.pure (by kernel_rfl)) ?_
    refine WL.nil ?_
    refine W.seq' ?_
    refine W.cond (t := decide ((↑i : Int) < (↑xs.length : Int))) rfl (fun h10 => ?_) (fun h10 => ?_)
    ·
      have h10p := of_decide_eq_true h10
      refine W.skip ?_
      refine W.seq' ?_
      refine W.block ?_
      refine W.seq' ?_
      refine W.region rfl ?_
      refine WL.step (v := (Value.int .i64 ↑i)) rfl (Step.move rfl) ?_
      refine WL.step (v := (Value.int .i64 ↑i)) rfl (Step.assign rfl) ?_
      refine WL.nil ?_
      refine W.seq' ?_
      obtain ⟨cap12, hb11⟩ := SlAt.base (M.rep 0 rfl) (by omega)
      obtain ⟨x13, hx13⟩ := elem_of_lt (xs := xs) (i := i) (by omega)
      obtain ⟨cap15, hb14⟩ := SlAt.base (M.rep 1 rfl) (by omega)
      obtain ⟨x16, hx16⟩ := elem_of_lt (xs := ys) (i := i) (by omega)
      refine W.drawn M [0, 1, 2, 3, 4, 5, 6, 7, 8] [] [] [] [SlAt 1 v xs.length (xs.flatMap intE), SlAt 1 u ys.length (ys.flatMap intE)] List.Sublist.slnil (fun _ h => h) Try.mixed (by kernel_rfl) ?_
      refine TW.pure (v := v) rfl (by decide) (by decide) rfl (fun w => (Step.move rfl)) ?_
      refine TW.pure (v := (Value.int .i64 ↑i)) rfl (by decide) (by decide) rfl (fun w => (Step.move rfl)) ?_
      refine TW.pure (v := (Value.pointer (some ⟨(sBlk v), sOff v + i * 1, none⟩))) rfl (by decide) (by decide) rfl (fun w => (Step.indexAddr (i := i) (Try.un22).run Try.el3.sized rfl rfl (by omega) hb11 (by omega))) ?_
      refine TW.read (v := (Value.int .i64 x13)) rfl (by decide) (by decide) rfl (fun A w M => (Step.loadE (k := 0) Try.sc3 (flat_ec (M.rep 0 rfl) hx13 intE_len) (by decide) rfl rfl)) ?_
      refine TW.pure (v := u) rfl (by decide) (by decide) rfl (fun w => (Step.move rfl)) ?_
      refine TW.pure (v := (Value.int .i64 ↑i)) rfl (by decide) (by decide) rfl (fun w => (Step.move rfl)) ?_
      refine TW.pure (v := (Value.pointer (some ⟨(sBlk u), sOff u + i * 1, none⟩))) rfl (by decide) (by decide) rfl (fun w => (Step.indexAddr (i := i) (Try.un22).run Try.el3.sized rfl rfl (by omega) hb14 (by omega))) ?_
      refine TW.read (v := (Value.int .i64 x16)) rfl (by decide) (by decide) rfl (fun A w M => (Step.loadE (k := 0) Try.sc3 (flat_ec (M.rep 1 rfl) hx16 intE_len) (by decide) rfl rfl)) ?_
      refine TW.pure (v := (Value.bool ((x13 : Int) != (x16 : Int)))) rfl (by decide) (by decide) rfl (fun w => (Step.pure (by kernel_rfl))) ?_
      refine TW.done (fun w17 M => ?_)
      refine W.cond (t := (x13 : Int) != (x16 : Int)) rfl (fun h18 => ?_) (fun h18 => ?_)
      ·
        have h18p : ¬ (x13 : Int) = (x16 : Int) := by simpa using h18
        refine W.seq' ?_
        refine W.region rfl ?_
        refine WL.step (v := (Value.bool false)) rfl (Step.assign rfl) ?_
        refine WL.nil ?_
        refine W.ret ?_
        refine ⟨.inl rfl, (Value.bool false), ?_, ?_⟩
        · exact (Res.r1 (show RV _ _ _ (.tmp 4) (Value.bool false) from by exact rfl))
        refine ⟨?_, M.close [] rfl (by decide) trivial⟩
        refine congrArg Value.bool (Eq.symm ?_)
        exact decide_eq_false (list_ne_of hx13 hx16 (by simpa using h18))
      ·
        have h18p : (x13 : Int) = (x16 : Int) := by simpa using h18
        refine W.skip ?_
        refine W.region rfl ?_
        refine WL.step (v := (Value.int .i64 (↑i + 1))) rfl (Step.add rfl rfl (wrap_i64 (by omega))) ?_
        refine WL.step (v := (Value.int .i64 (↑i + 1))) rfl (Step.move rfl) ?_
        refine WL.nil ?_
        have hs := list_step hx13 hx16 (by simpa using h18) hi9
        exact ⟨_, (by omega), i + 1, ⟨(by omega), hs, rfl⟩, ⟨rfl, rfl, rfl, rfl, trivial⟩, M⟩
    ·
      have h10p := of_decide_eq_false h10
      refine W.exit ?_
      refine thn_exit ?_
      refine thn_exit ?_
      refine inBlk_hit ?_
      refine W.seq' ?_
      refine W.region rfl ?_
      refine WL.step (v := (Value.bool true)) rfl (Step.assign rfl) ?_
      refine WL.nil ?_
      refine W.ret ?_
      refine ⟨.inl rfl, (Value.bool true), ?_, ?_⟩
      · exact (Res.r1 (show RV _ _ _ (.tmp 4) (Value.bool true) from by exact rfl))
      refine ⟨?_, M.close [] rfl (by decide) trivial⟩
      refine congrArg Value.bool (Eq.symm ?_)
      exact decide_eq_true (list_eq_of (by omega) hi9 (by omega))

theorem equal_str {G : Nat → Prop} {w : World} (v : Value) (xs : List ByteArray) (u : Value) (ys : List ByteArray)  (M : Mem G (fun _ => False) w [] [SlAt 1 v xs.length (xs.flatMap strE), SlAt 1 u ys.length (ys.flatMap strE)] w) : Rets Try.prog 39 #[v, u] w fun r w' => r = (Value.bool (decide (xs = ys))) ∧ Mem G (fun _ => False) w [] [] w' := by
  refine Rets.enter 26 _ Try.func39 rfl Try.ntmps39 Try.results39 (by simp) ?_
  have hle1 := SlAt.le' (M.rep 0 rfl)
  have hle2 := SlAt.le' (M.rep 1 rfl)
  have sl3 : IsSl v := SlAt.isSl (Mem.rep M 0 rfl)
  have sl4 : IsSl u := SlAt.isSl (Mem.rep M 1 rfl)
  refine W.seq' ?_
  refine W.region rfl ?_
  refine WL.step (v := (Value.bool false)) rfl (Step.assign rfl) ?_
  refine WL.nil ?_
  refine W.seq' ?_
  refine W.seq' ?_
  refine W.region rfl ?_
  refine WL.step (v := v) rfl (Step.move rfl) ?_
  refine WL.step (v := (Value.int .i64 ↑xs.length)) rfl (Step.lenSl Try.un34 rfl (M.rep 0 rfl)) ?_
  refine WL.step (v := u) rfl (Step.move rfl) ?_
  refine WL.step (v := (Value.int .i64 ↑ys.length)) rfl (Step.lenSl Try.un34 rfl (M.rep 1 rfl)) ?_
  refine WL.step (v := (Value.bool ((↑xs.length : Int) != (↑ys.length : Int)))) rfl (Step.pure (by kernel_rfl)) ?_
  refine WL.nil ?_
  refine W.cond (t := (↑xs.length : Int) != (↑ys.length : Int)) rfl (fun h5 => ?_) (fun h5 => ?_)
  ·
    have h5p : ¬ (↑xs.length : Int) = (↑ys.length : Int) := by simpa using h5
    refine W.seq' ?_
    refine W.region rfl ?_
    refine WL.step (v := (Value.bool false)) rfl (Step.assign rfl) ?_
    refine WL.nil ?_
    refine W.ret ?_
    refine ⟨.inl rfl, (Value.bool false), ?_, ?_⟩
    · exact (Res.r1 (show RV _ _ _ (.tmp 4) (Value.bool false) from by exact rfl))
    refine ⟨?_, M.close [] rfl (by decide) trivial⟩
    refine congrArg Value.bool (Eq.symm ?_)
    refine decide_eq_false fun e => ?_
    subst e
    omega
  ·
    have h5p : (↑xs.length : Int) = (↑ys.length : Int) := by simpa using h5
    refine W.skip ?_
    refine W.seq' ?_
    refine W.seq' ?_
    refine W.region rfl ?_
    refine WL.step (v := v) rfl (Step.move rfl) ?_
    refine WL.step (v := (Value.int .i64 ↑xs.length)) rfl (Step.lenSl Try.un34 rfl (M.rep 0 rfl)) ?_
    refine WL.step (v := (Value.int .i64 0)) rfl (Step.move rfl) ?_
    refine WL.nil ?_
    refine W.block ?_
    refine W.loop (fun kk ρ w' => ∃ (i : Nat), ((i ≤ xs.length) ∧ (∀ j, j < i → xs[j]? = ys[j]?) ∧ kk = xs.length - i) ∧ ρ.has [(0, v), (1, u), (12, (Value.int .i64 ↑xs.length)), (13, (Value.int .i64 ↑i))] ∧ Mem G (fun _ => False) w [] [SlAt 1 v xs.length (xs.flatMap strE), SlAt 1 u ys.length (ys.flatMap strE)]  w') _ ⟨0, ⟨(Nat.zero_le _), (fun _ h => absurd h (Nat.not_lt_zero _)), rfl⟩, ⟨rfl, rfl, rfl, rfl, trivial⟩, M⟩ ?_
    rintro _ ρ7 w6 ⟨i, ⟨hi8, hi9, rfl⟩, hρ, M⟩
    obtain ⟨ρ7, rfl⟩ := hρ.know
    clear hρ
    refine W.seq' ?_
    refine W.region rfl ?_
    refine WL.step (v := (Value.bool (decide ((↑i : Int) < (↑xs.length : Int))))) rfl (Step.pure (by kernel_rfl)) ?_
    refine WL.nil ?_
    refine W.seq' ?_
    refine W.cond (t := decide ((↑i : Int) < (↑xs.length : Int))) rfl (fun h10 => ?_) (fun h10 => ?_)
    ·
      have h10p := of_decide_eq_true h10
      refine W.skip ?_
      refine W.seq' ?_
      refine W.block ?_
      refine W.seq' ?_
      refine W.region rfl ?_
      refine WL.step (v := (Value.int .i64 ↑i)) rfl (Step.move rfl) ?_
      refine WL.step (v := (Value.int .i64 ↑i)) rfl (Step.assign rfl) ?_
      refine WL.nil ?_
      refine W.seq' ?_
      obtain ⟨cap12, hb11⟩ := SlAt.base (M.rep 0 rfl) (by omega)
      obtain ⟨x13, hx13⟩ := elem_of_lt (xs := xs) (i := i) (by omega)
      obtain ⟨cap15, hb14⟩ := SlAt.base (M.rep 1 rfl) (by omega)
      obtain ⟨x16, hx16⟩ := elem_of_lt (xs := ys) (i := i) (by omega)
      refine W.drawn M [0, 1, 2, 3, 4, 5, 6, 7, 8] [] [] [] [SlAt 1 v xs.length (xs.flatMap strE), SlAt 1 u ys.length (ys.flatMap strE)] List.Sublist.slnil (fun _ h => h) Try.mixed (by kernel_rfl) ?_
      refine TW.pure (v := v) rfl (by decide) (by decide) rfl (fun w => (Step.move rfl)) ?_
      refine TW.pure (v := (Value.int .i64 ↑i)) rfl (by decide) (by decide) rfl (fun w => (Step.move rfl)) ?_
      refine TW.pure (v := (Value.pointer (some ⟨(sBlk v), sOff v + i * 1, none⟩))) rfl (by decide) (by decide) rfl (fun w => (Step.indexAddr (i := i) (Try.un34).run Try.el9.sized rfl rfl (by omega) hb11 (by omega))) ?_
      refine TW.read (v := (Value.string x13)) rfl (by decide) (by decide) rfl (fun A w M => (Step.loadE (k := 0) Try.sc9 (flat_ec (M.rep 0 rfl) hx13 strE_len) (by decide) rfl rfl)) ?_
      refine TW.pure (v := u) rfl (by decide) (by decide) rfl (fun w => (Step.move rfl)) ?_
      refine TW.pure (v := (Value.int .i64 ↑i)) rfl (by decide) (by decide) rfl (fun w => (Step.move rfl)) ?_
      refine TW.pure (v := (Value.pointer (some ⟨(sBlk u), sOff u + i * 1, none⟩))) rfl (by decide) (by decide) rfl (fun w => (Step.indexAddr (i := i) (Try.un34).run Try.el9.sized rfl rfl (by omega) hb14 (by omega))) ?_
      refine TW.read (v := (Value.string x16)) rfl (by decide) (by decide) rfl (fun A w M => (Step.loadE (k := 0) Try.sc9 (flat_ec (M.rep 1 rfl) hx16 strE_len) (by decide) rfl rfl)) ?_
      refine TW.pure (v := (Value.bool (!(x13.toList == x16.toList)))) rfl (by decide) (by decide) rfl (fun w => (Step.pure (by kernel_rfl))) ?_
      refine TW.done (fun w17 M => ?_)
      refine W.cond (t := !(x13.toList == x16.toList)) rfl (fun h18 => ?_) (fun h18 => ?_)
      ·
        refine W.seq' ?_
        refine W.region rfl ?_
        refine WL.step (v := (Value.bool false)) rfl (Step.assign rfl) ?_
        refine WL.nil ?_
        refine W.ret ?_
        refine ⟨.inl rfl, (Value.bool false), ?_, ?_⟩
        · exact (Res.r1 (show RV _ _ _ (.tmp 4) (Value.bool false) from by exact rfl))
        refine ⟨?_, M.close [] rfl (by decide) trivial⟩
        refine congrArg Value.bool (Eq.symm ?_)
        exact decide_eq_false (list_ne_of hx13 hx16 (str_ne h18))
      ·
        refine W.skip ?_
        refine W.region rfl ?_
        refine WL.step (v := (Value.int .i64 (↑i + 1))) rfl (Step.add rfl rfl (wrap_i64 (by omega))) ?_
        refine WL.step (v := (Value.int .i64 (↑i + 1))) rfl (Step.move rfl) ?_
        refine WL.nil ?_
        have hs := list_step hx13 hx16 (str_eq h18) hi9
        exact ⟨_, (by omega), i + 1, ⟨(by omega), hs, rfl⟩, ⟨rfl, rfl, rfl, rfl, trivial⟩, M⟩
    ·
      have h10p := of_decide_eq_false h10
      refine W.exit ?_
      refine thn_exit ?_
      refine thn_exit ?_
      refine inBlk_hit ?_
      refine W.seq' ?_
      refine W.region rfl ?_
      refine WL.step (v := (Value.bool true)) rfl (Step.assign rfl) ?_
      refine WL.nil ?_
      refine W.ret ?_
      refine ⟨.inl rfl, (Value.bool true), ?_, ?_⟩
      · exact (Res.r1 (show RV _ _ _ (.tmp 4) (Value.bool true) from by exact rfl))
      refine ⟨?_, M.close [] rfl (by decide) trivial⟩
      refine congrArg Value.bool (Eq.symm ?_)
      exact decide_eq_true (list_eq_of (by omega) hi9 (by omega))

theorem equal_handle {G : Nat → Prop} {w : World} (v : Value) (xs : List Handle) (u : Value) (ys : List Handle)  (M : Mem G (fun _ => False) w [] [SlAt 2 v xs.length (xs.flatMap handleE), SlAt 2 u ys.length (ys.flatMap handleE)] w) : Rets Try.prog 40 #[v, u] w fun r w' => r = (Value.bool (decide (xs = ys))) ∧ Mem G (fun _ => False) w [] [] w' := by
  refine Rets.enter 26 _ Try.func40 rfl Try.ntmps40 Try.results40 (by simp) ?_
  have hle1 := SlAt.le' (M.rep 0 rfl)
  have hle2 := SlAt.le' (M.rep 1 rfl)
  have sl3 : IsSl v := SlAt.isSl (Mem.rep M 0 rfl)
  have sl4 : IsSl u := SlAt.isSl (Mem.rep M 1 rfl)
  refine W.seq' ?_
  refine W.region rfl ?_
  refine WL.step (v := (Value.bool false)) rfl (Step.assign rfl) ?_
  refine WL.nil ?_
  refine W.seq' ?_
  refine W.seq' ?_
  refine W.region rfl ?_
  refine WL.step (v := v) rfl (Step.move rfl) ?_
  refine WL.step (v := (Value.int .i64 ↑xs.length)) rfl (Step.lenSl Try.un26 rfl (M.rep 0 rfl)) ?_
  refine WL.step (v := u) rfl (Step.move rfl) ?_
  refine WL.step (v := (Value.int .i64 ↑ys.length)) rfl (Step.lenSl Try.un26 rfl (M.rep 1 rfl)) ?_
  refine WL.step (v := (Value.bool ((↑xs.length : Int) != (↑ys.length : Int)))) rfl (Step.pure (by kernel_rfl)) ?_
  refine WL.nil ?_
  refine W.cond (t := (↑xs.length : Int) != (↑ys.length : Int)) rfl (fun h5 => ?_) (fun h5 => ?_)
  ·
    have h5p : ¬ (↑xs.length : Int) = (↑ys.length : Int) := by simpa using h5
    refine W.seq' ?_
    refine W.region rfl ?_
    refine WL.step (v := (Value.bool false)) rfl (Step.assign rfl) ?_
    refine WL.nil ?_
    refine W.ret ?_
    refine ⟨.inl rfl, (Value.bool false), ?_, ?_⟩
    · exact (Res.r1 (show RV _ _ _ (.tmp 4) (Value.bool false) from by exact rfl))
    refine ⟨?_, M.close [] rfl (by decide) trivial⟩
    refine congrArg Value.bool (Eq.symm ?_)
    refine decide_eq_false fun e => ?_
    subst e
    omega
  ·
    have h5p : (↑xs.length : Int) = (↑ys.length : Int) := by simpa using h5
    refine W.skip ?_
    refine W.seq' ?_
    refine W.seq' ?_
    refine W.region rfl ?_
    refine WL.step (v := v) rfl (Step.move rfl) ?_
    refine WL.step (v := (Value.int .i64 ↑xs.length)) rfl (Step.lenSl Try.un26 rfl (M.rep 0 rfl)) ?_
    refine WL.step (v := (Value.int .i64 0)) rfl (Step.move rfl) ?_
    refine WL.nil ?_
    refine W.block ?_
    refine W.loop (fun kk ρ w' => ∃ (i : Nat), ((i ≤ xs.length) ∧ (∀ j, j < i → xs[j]? = ys[j]?) ∧ kk = xs.length - i) ∧ ρ.has [(0, v), (1, u), (12, (Value.int .i64 ↑xs.length)), (13, (Value.int .i64 ↑i))] ∧ Mem G (fun _ => False) w [] [SlAt 2 v xs.length (xs.flatMap handleE), SlAt 2 u ys.length (ys.flatMap handleE)]  w') _ ⟨0, ⟨(Nat.zero_le _), (fun _ h => absurd h (Nat.not_lt_zero _)), rfl⟩, ⟨rfl, rfl, rfl, rfl, trivial⟩, M⟩ ?_
    rintro _ ρ7 w6 ⟨i, ⟨hi8, hi9, rfl⟩, hρ, M⟩
    obtain ⟨ρ7, rfl⟩ := hρ.know
    clear hρ
    refine W.seq' ?_
    refine W.region rfl ?_
    refine WL.step (v := (Value.bool (decide ((↑i : Int) < (↑xs.length : Int))))) rfl (Step.pure (by kernel_rfl)) ?_
    refine WL.nil ?_
    refine W.seq' ?_
    refine W.cond (t := decide ((↑i : Int) < (↑xs.length : Int))) rfl (fun h10 => ?_) (fun h10 => ?_)
    ·
      have h10p := of_decide_eq_true h10
      refine W.skip ?_
      refine W.seq' ?_
      refine W.block ?_
      refine W.seq' ?_
      refine W.region rfl ?_
      refine WL.step (v := (Value.int .i64 ↑i)) rfl (Step.move rfl) ?_
      refine WL.step (v := (Value.int .i64 ↑i)) rfl (Step.assign rfl) ?_
      refine WL.nil ?_
      refine W.seq' ?_
      obtain ⟨cap12, hb11⟩ := SlAt.base (M.rep 0 rfl) (by omega)
      obtain ⟨x13, hx13⟩ := elem_of_lt (xs := xs) (i := i) (by omega)
      obtain ⟨cap15, hb14⟩ := SlAt.base (M.rep 1 rfl) (by omega)
      obtain ⟨x16, hx16⟩ := elem_of_lt (xs := ys) (i := i) (by omega)
      refine W.drawn M [0, 1, 2, 3, 4, 5, 6, 7, 8] [] [] [] [SlAt 2 v xs.length (xs.flatMap handleE), SlAt 2 u ys.length (ys.flatMap handleE)] List.Sublist.slnil (fun _ h => h) Try.mixed (by kernel_rfl) ?_
      refine TW.pure (v := v) rfl (by decide) (by decide) rfl (fun w => (Step.move rfl)) ?_
      refine TW.pure (v := (Value.int .i64 ↑i)) rfl (by decide) (by decide) rfl (fun w => (Step.move rfl)) ?_
      refine TW.pure (v := (Value.pointer (some ⟨(sBlk v), sOff v + i * 2, none⟩))) rfl (by decide) (by decide) rfl (fun w => (Step.indexAddr (i := i) (Try.un26).run Try.el29.sized rfl rfl (by omega) hb11 (by omega))) ?_
      refine TW.read (v := (Value.agg #[(Value.int .i64 x13.at_), (Value.int .i64 x13.turn)])) rfl (by decide) (by decide) rfl (fun A w M => (Step.loadEN (k := 0) (cs' := [(Value.int .i64 x13.at_), (Value.int .i64 x13.turn)]) Try.ag29 (flat_ec (M.rep 0 rfl) hx13 handleE_len) (by decide) rfl rfl rfl)) ?_
      refine TW.pure (v := u) rfl (by decide) (by decide) rfl (fun w => (Step.move rfl)) ?_
      refine TW.pure (v := (Value.int .i64 ↑i)) rfl (by decide) (by decide) rfl (fun w => (Step.move rfl)) ?_
      refine TW.pure (v := (Value.pointer (some ⟨(sBlk u), sOff u + i * 2, none⟩))) rfl (by decide) (by decide) rfl (fun w => (Step.indexAddr (i := i) (Try.un26).run Try.el29.sized rfl rfl (by omega) hb14 (by omega))) ?_
      refine TW.read (v := (Value.agg #[(Value.int .i64 x16.at_), (Value.int .i64 x16.turn)])) rfl (by decide) (by decide) rfl (fun A w M => (Step.loadEN (k := 0) (cs' := [(Value.int .i64 x16.at_), (Value.int .i64 x16.turn)]) Try.ag29 (flat_ec (M.rep 1 rfl) hx16 handleE_len) (by decide) rfl rfl rfl)) ?_
      refine TW.pure (v := (Value.bool (!(((x13.at_ : Int) == (x16.at_ : Int)) && (((x13.turn : Int) == (x16.turn : Int)) && true))))) rfl (by decide) (by decide) rfl (fun w => (Step.neqAgg Try.eg29 rfl rfl rfl (Try.eq29 9998 (x13.at_ : Int) (x13.turn : Int) (x16.at_ : Int) (x16.turn : Int)))) ?_
      refine TW.done (fun w17 M => ?_)
      refine W.cond (t := !(((x13.at_ : Int) == (x16.at_ : Int)) && (((x13.turn : Int) == (x16.turn : Int)) && true))) rfl (fun h18 => ?_) (fun h18 => ?_)
      ·
        refine W.seq' ?_
        refine W.region rfl ?_
        refine WL.step (v := (Value.bool false)) rfl (Step.assign rfl) ?_
        refine WL.nil ?_
        refine W.ret ?_
        refine ⟨.inl rfl, (Value.bool false), ?_, ?_⟩
        · exact (Res.r1 (show RV _ _ _ (.tmp 4) (Value.bool false) from by exact rfl))
        refine ⟨?_, M.close [] rfl (by decide) trivial⟩
        refine congrArg Value.bool (Eq.symm ?_)
        exact decide_eq_false (list_ne_of hx13 hx16 (handle_ne h18))
      ·
        refine W.skip ?_
        refine W.region rfl ?_
        refine WL.step (v := (Value.int .i64 (↑i + 1))) rfl (Step.add rfl rfl (wrap_i64 (by omega))) ?_
        refine WL.step (v := (Value.int .i64 (↑i + 1))) rfl (Step.move rfl) ?_
        refine WL.nil ?_
        have hs := list_step hx13 hx16 (handle_eq h18) hi9
        exact ⟨_, (by omega), i + 1, ⟨(by omega), hs, rfl⟩, ⟨rfl, rfl, rfl, rfl, trivial⟩, M⟩
    ·
      have h10p := of_decide_eq_false h10
      refine W.exit ?_
      refine thn_exit ?_
      refine thn_exit ?_
      refine inBlk_hit ?_
      refine W.seq' ?_
      refine W.region rfl ?_
      refine WL.step (v := (Value.bool true)) rfl (Step.assign rfl) ?_
      refine WL.nil ?_
      refine W.ret ?_
      refine ⟨.inl rfl, (Value.bool true), ?_, ?_⟩
      · exact (Res.r1 (show RV _ _ _ (.tmp 4) (Value.bool true) from by exact rfl))
      refine ⟨?_, M.close [] rfl (by decide) trivial⟩
      refine congrArg Value.bool (Eq.symm ?_)
      exact decide_eq_true (list_eq_of (by omega) hi9 (by omega))

theorem clone_int {G : Nat → Prop} {w : World} (v : Value) (xs : List Int) (hb : xs.length * 8 ≤ 140737488355328) (M : Mem G (fun _ => False) w [] [SlAt 1 v xs.length (xs.flatMap intE)] w) : Rets Try.prog 45 #[v] w fun r w' => ∃ (v' : Value), r = v' ∧ Mem G (fun _ => False) w [own 3 1 v' xs.length (xs.flatMap intE)] [] w' := by
  refine Rets.enter 8 _ Try.func45 rfl Try.ntmps45 Try.results45 (by simp) ?_
  have hle1 := SlAt.le' (M.rep 0 rfl)
  have sl2 : IsSl v := SlAt.isSl (Mem.rep M 0 rfl)
  refine W.seq' ?_
  refine W.region rfl ?_
  refine WL.step (v := (Value.slice none 0 0)) rfl (Step.assign rfl) ?_
  refine WL.nil ?_
  refine W.seq' ?_
  refine W.seq' ?_
  refine W.region rfl ?_
  refine WL.step (v := v) rfl (Step.move rfl) ?_
  rcases SlAt.cases (M.rep 0 rfl) with ⟨hn3, hn3z⟩ | ⟨_, _, hn3⟩
  ·
    refine WL.step (v := (Value.bool true)) rfl (Step.eqNil Try.un22 rfl hn3 rfl) ?_
    refine WL.nil ?_
    refine W.cond (t := true) rfl (fun _ => ?_) (fun h => by cases h)
    refine W.seq' ?_
    refine W.region rfl ?_
    refine WL.step (v := (Value.slice none 0 0)) rfl (Step.assign rfl) ?_
    refine WL.nil ?_
    refine W.ret ?_
    refine ⟨.inl rfl, (Value.slice none 0 0), ?_, ?_⟩
    · exact (Res.r1 (show RV _ _ _ (.tmp 2) (Value.slice none 0 0) from by exact rfl))
    replace M := M.ownNil 3 1
    have e4 : xs = [] := by
      exact List.eq_nil_of_length_eq_zero hn3z
    replace M : Mem _ _ _ [own 3 1 (Value.slice none 0 0) (([] : List Int).length) (([] : List Int).flatMap intE)] [SlAt 1 v xs.length (xs.flatMap intE)] _ := M
    replace M := M.rechunk 0 (c' := own 3 1 (Value.slice none 0 0) xs.length (xs.flatMap intE)) rfl (by rw [e4])
    replace M : Mem _ _ _ [own 3 1 (Value.slice none 0 0) xs.length (xs.flatMap intE)] [SlAt 1 v xs.length (xs.flatMap intE)] _ := M
    refine ⟨(Value.slice none 0 0), ?_, M.close [0] rfl (by decide) trivial⟩
    rfl
  ·
    refine WL.step (v := (Value.bool false)) rfl (Step.eqSome Try.un22 rfl hn3 rfl) ?_
    refine WL.nil ?_
    refine W.cond (t := false) rfl (fun h => by cases h) (fun _ => ?_)
    refine W.skip ?_
    refine W.seq' ?_
    refine W.region rfl ?_
    refine WL.new (obj := .cells #[] 3) (fun b => .slice (some ⟨b, 0, none⟩) 0 0) M rfl (fun w => Step.make (by kernel_rfl)) (fun b5 w6 hb5 M => ?_)
    refine WL.step (v := v) rfl (Step.move rfl) ?_
    replace M := M.ownBlk 0 (n := 0) (size := 1) rfl rfl (by decide)
    replace M : Mem _ _ _ [own 3 1 (Value.slice (some ⟨b5, 0, none⟩) 0 0) (([] : List Int).length) (([] : List Int).flatMap intE)] [SlAt 1 v xs.length (xs.flatMap intE)] _ := M
    refine WL.does rfl (M.appendF ([] : List Int) xs (sv := v) 0 Try.un22 Try.el3 rfl (by decide) rfl rfl rfl (M.rep 0 rfl) intE_cel (by have := trivial; simp only [maxLen, List.length_nil, List.length_cons, List.length_append]; omega) (by have := trivial; (try simp only [List.length_nil, List.length_cons, List.length_append]); omega)) ?_
    rintro v7 w8 M
    replace M : Mem _ _ _ [own 3 1 v7 xs.length (xs.flatMap intE)] [SlAt 1 v xs.length (xs.flatMap intE)] _ := M
    have sl9 : IsSl v7 := SlAt.isSl (own_slAt (M.chunk 0 rfl).inv)
    refine WL.step (v := v7) rfl (Step.assign rfl) ?_
    refine WL.nil ?_
    refine W.ret ?_
    refine ⟨.inl rfl, v7, ?_, ?_⟩
    · exact (Res.r1 (show RV _ _ _ (.tmp 2) v7 from by exact rfl))
    refine ⟨v7, ?_, M.close [0] rfl (by decide) trivial⟩
    rfl

theorem clone_str {G : Nat → Prop} {w : World} (v : Value) (xs : List ByteArray) (hb : xs.length * 16 ≤ 140737488355328) (M : Mem G (fun _ => False) w [] [SlAt 1 v xs.length (xs.flatMap strE)] w) : Rets Try.prog 43 #[v] w fun r w' => ∃ (v' : Value), r = v' ∧ Mem G (fun _ => False) w [own 9 1 v' xs.length (xs.flatMap strE)] [] w' := by
  refine Rets.enter 8 _ Try.func43 rfl Try.ntmps43 Try.results43 (by simp) ?_
  have hle1 := SlAt.le' (M.rep 0 rfl)
  have sl2 : IsSl v := SlAt.isSl (Mem.rep M 0 rfl)
  refine W.seq' ?_
  refine W.region rfl ?_
  refine WL.step (v := (Value.slice none 0 0)) rfl (Step.assign rfl) ?_
  refine WL.nil ?_
  refine W.seq' ?_
  refine W.seq' ?_
  refine W.region rfl ?_
  refine WL.step (v := v) rfl (Step.move rfl) ?_
  rcases SlAt.cases (M.rep 0 rfl) with ⟨hn3, hn3z⟩ | ⟨_, _, hn3⟩
  ·
    refine WL.step (v := (Value.bool true)) rfl (Step.eqNil Try.un34 rfl hn3 rfl) ?_
    refine WL.nil ?_
    refine W.cond (t := true) rfl (fun _ => ?_) (fun h => by cases h)
    refine W.seq' ?_
    refine W.region rfl ?_
    refine WL.step (v := (Value.slice none 0 0)) rfl (Step.assign rfl) ?_
    refine WL.nil ?_
    refine W.ret ?_
    refine ⟨.inl rfl, (Value.slice none 0 0), ?_, ?_⟩
    · exact (Res.r1 (show RV _ _ _ (.tmp 2) (Value.slice none 0 0) from by exact rfl))
    replace M := M.ownNil 9 1
    have e4 : xs = [] := by
      exact List.eq_nil_of_length_eq_zero hn3z
    replace M : Mem _ _ _ [own 9 1 (Value.slice none 0 0) (([] : List ByteArray).length) (([] : List ByteArray).flatMap strE)] [SlAt 1 v xs.length (xs.flatMap strE)] _ := M
    replace M := M.rechunk 0 (c' := own 9 1 (Value.slice none 0 0) xs.length (xs.flatMap strE)) rfl (by rw [e4])
    replace M : Mem _ _ _ [own 9 1 (Value.slice none 0 0) xs.length (xs.flatMap strE)] [SlAt 1 v xs.length (xs.flatMap strE)] _ := M
    refine ⟨(Value.slice none 0 0), ?_, M.close [0] rfl (by decide) trivial⟩
    rfl
  ·
    refine WL.step (v := (Value.bool false)) rfl (Step.eqSome Try.un34 rfl hn3 rfl) ?_
    refine WL.nil ?_
    refine W.cond (t := false) rfl (fun h => by cases h) (fun _ => ?_)
    refine W.skip ?_
    refine W.seq' ?_
    refine W.region rfl ?_
    refine WL.new (obj := .cells #[] 9) (fun b => .slice (some ⟨b, 0, none⟩) 0 0) M rfl (fun w => Step.make (by kernel_rfl)) (fun b5 w6 hb5 M => ?_)
    refine WL.step (v := v) rfl (Step.move rfl) ?_
    replace M := M.ownBlk 0 (n := 0) (size := 1) rfl rfl (by decide)
    replace M : Mem _ _ _ [own 9 1 (Value.slice (some ⟨b5, 0, none⟩) 0 0) (([] : List ByteArray).length) (([] : List ByteArray).flatMap strE)] [SlAt 1 v xs.length (xs.flatMap strE)] _ := M
    refine WL.does rfl (M.appendF ([] : List ByteArray) xs (sv := v) 0 Try.un34 Try.el9 rfl (by decide) rfl rfl rfl (M.rep 0 rfl) strE_cel (by have := trivial; simp only [maxLen, List.length_nil, List.length_cons, List.length_append]; omega) (by have := trivial; (try simp only [List.length_nil, List.length_cons, List.length_append]); omega)) ?_
    rintro v7 w8 M
    replace M : Mem _ _ _ [own 9 1 v7 xs.length (xs.flatMap strE)] [SlAt 1 v xs.length (xs.flatMap strE)] _ := M
    have sl9 : IsSl v7 := SlAt.isSl (own_slAt (M.chunk 0 rfl).inv)
    refine WL.step (v := v7) rfl (Step.assign rfl) ?_
    refine WL.nil ?_
    refine W.ret ?_
    refine ⟨.inl rfl, v7, ?_, ?_⟩
    · exact (Res.r1 (show RV _ _ _ (.tmp 2) v7 from by exact rfl))
    refine ⟨v7, ?_, M.close [0] rfl (by decide) trivial⟩
    rfl

theorem clone_handle {G : Nat → Prop} {w : World} (v : Value) (xs : List Handle) (hb : xs.length * 16 ≤ 140737488355328) (M : Mem G (fun _ => False) w [] [SlAt 2 v xs.length (xs.flatMap handleE)] w) : Rets Try.prog 44 #[v] w fun r w' => ∃ (v' : Value), r = v' ∧ Mem G (fun _ => False) w [own 29 2 v' xs.length (xs.flatMap handleE)] [] w' := by
  refine Rets.enter 8 _ Try.func44 rfl Try.ntmps44 Try.results44 (by simp) ?_
  have hle1 := SlAt.le' (M.rep 0 rfl)
  have sl2 : IsSl v := SlAt.isSl (Mem.rep M 0 rfl)
  refine W.seq' ?_
  refine W.region rfl ?_
  refine WL.step (v := (Value.slice none 0 0)) rfl (Step.assign rfl) ?_
  refine WL.nil ?_
  refine W.seq' ?_
  refine W.seq' ?_
  refine W.region rfl ?_
  refine WL.step (v := v) rfl (Step.move rfl) ?_
  rcases SlAt.cases (M.rep 0 rfl) with ⟨hn3, hn3z⟩ | ⟨_, _, hn3⟩
  ·
    refine WL.step (v := (Value.bool true)) rfl (Step.eqNil Try.un26 rfl hn3 rfl) ?_
    refine WL.nil ?_
    refine W.cond (t := true) rfl (fun _ => ?_) (fun h => by cases h)
    refine W.seq' ?_
    refine W.region rfl ?_
    refine WL.step (v := (Value.slice none 0 0)) rfl (Step.assign rfl) ?_
    refine WL.nil ?_
    refine W.ret ?_
    refine ⟨.inl rfl, (Value.slice none 0 0), ?_, ?_⟩
    · exact (Res.r1 (show RV _ _ _ (.tmp 2) (Value.slice none 0 0) from by exact rfl))
    replace M := M.ownNil 29 2
    have e4 : xs = [] := by
      exact List.eq_nil_of_length_eq_zero hn3z
    replace M : Mem _ _ _ [own 29 2 (Value.slice none 0 0) (([] : List Handle).length) (([] : List Handle).flatMap handleE)] [SlAt 2 v xs.length (xs.flatMap handleE)] _ := M
    replace M := M.rechunk 0 (c' := own 29 2 (Value.slice none 0 0) xs.length (xs.flatMap handleE)) rfl (by rw [e4])
    replace M : Mem _ _ _ [own 29 2 (Value.slice none 0 0) xs.length (xs.flatMap handleE)] [SlAt 2 v xs.length (xs.flatMap handleE)] _ := M
    refine ⟨(Value.slice none 0 0), ?_, M.close [0] rfl (by decide) trivial⟩
    rfl
  ·
    refine WL.step (v := (Value.bool false)) rfl (Step.eqSome Try.un26 rfl hn3 rfl) ?_
    refine WL.nil ?_
    refine W.cond (t := false) rfl (fun h => by cases h) (fun _ => ?_)
    refine W.skip ?_
    refine W.seq' ?_
    refine W.region rfl ?_
    refine WL.new (obj := .cells #[] 29) (fun b => .slice (some ⟨b, 0, none⟩) 0 0) M rfl (fun w => Step.make (by kernel_rfl)) (fun b5 w6 hb5 M => ?_)
    refine WL.step (v := v) rfl (Step.move rfl) ?_
    replace M := M.ownBlk 0 (n := 0) (size := 2) rfl rfl (by decide)
    replace M : Mem _ _ _ [own 29 2 (Value.slice (some ⟨b5, 0, none⟩) 0 0) (([] : List Handle).length) (([] : List Handle).flatMap handleE)] [SlAt 2 v xs.length (xs.flatMap handleE)] _ := M
    refine WL.does rfl (M.appendF ([] : List Handle) xs (sv := v) 0 Try.un26 Try.el29 rfl (by decide) rfl rfl rfl (M.rep 0 rfl) handleE_cel (by have := trivial; simp only [maxLen, List.length_nil, List.length_cons, List.length_append]; omega) (by have := trivial; (try simp only [List.length_nil, List.length_cons, List.length_append]); omega)) ?_
    rintro v7 w8 M
    replace M : Mem _ _ _ [own 29 2 v7 xs.length (xs.flatMap handleE)] [SlAt 2 v xs.length (xs.flatMap handleE)] _ := M
    have sl9 : IsSl v7 := SlAt.isSl (own_slAt (M.chunk 0 rfl).inv)
    refine WL.step (v := v7) rfl (Step.assign rfl) ?_
    refine WL.nil ?_
    refine W.ret ?_
    refine ⟨.inl rfl, v7, ?_, ?_⟩
    · exact (Res.r1 (show RV _ _ _ (.tmp 2) v7 from by exact rfl))
    refine ⟨v7, ?_, M.close [0] rfl (by decide) trivial⟩
    rfl

theorem index_handle {G : Nat → Prop} {w : World} (v : Value) (xs : List Handle) (h : Handle)  (M : Mem G (fun _ => False) w [] [SlAt 2 v xs.length (xs.flatMap handleE)] w) : Rets Try.prog 42 #[v, (Value.agg #[(Value.int .i64 h.at_), (Value.int .i64 h.turn)])] w fun r w' => r = (Value.int .i64 (findIx xs h)) ∧ Mem G (fun _ => False) w [] [] w' := by
  refine Rets.enter 19 _ Try.func42 rfl Try.ntmps42 Try.results42 (by simp) ?_
  have hle1 := SlAt.le' (M.rep 0 rfl)
  have sl2 : IsSl v := SlAt.isSl (Mem.rep M 0 rfl)
  refine W.seq' ?_
  refine W.region rfl ?_
  refine WL.box (v := (Value.agg #[(Value.int .i64 h.at_), (Value.int .i64 h.turn)])) (c := #[(Value.int .i64 h.at_), (Value.int .i64 h.turn)]) M rfl rfl rfl (fun b3 w4 hb3 M => ?_)
  refine WL.step (v := (Value.int .i64 0)) rfl (Step.assign rfl) ?_
  refine WL.nil ?_
  refine W.seq' ?_
  refine W.seq' ?_
  refine W.region rfl ?_
  refine WL.step (v := v) rfl (Step.move rfl) ?_
  refine WL.step (v := (Value.int .i64 ↑xs.length)) rfl (Step.lenSl Try.un26 rfl (M.rep 0 rfl)) ?_
  refine WL.step (v := (Value.int .i64 0)) rfl (Step.move rfl) ?_
  refine WL.nil ?_
  refine W.block ?_
  refine W.loop (fun kk ρ w' => ∃ (i : Nat), ((i ≤ xs.length) ∧ (∀ j, j < i → xs[j]? ≠ some h) ∧ kk = xs.length - i) ∧ ρ.has [(0, v), (3, (Value.pointer (some ⟨b3, 0, none⟩))), (7, (Value.int .i64 ↑xs.length)), (8, (Value.int .i64 ↑i))] ∧ Mem G (fun _ => False) w [blk b3 (.cells #[(Value.int .i64 h.at_), (Value.int .i64 h.turn)] 29)] [SlAt 2 v xs.length (xs.flatMap handleE)]  w') _ ⟨0, ⟨(Nat.zero_le _), (fun _ h => absurd h (Nat.not_lt_zero _)), rfl⟩, ⟨rfl, rfl, rfl, rfl, trivial⟩, M⟩ ?_
  rintro _ ρ6 w5 ⟨i, ⟨hi7, hi8, rfl⟩, hρ, M⟩
  obtain ⟨ρ6, rfl⟩ := hρ.know
  clear hρ
  refine W.seq' ?_
  refine W.region rfl ?_
  refine WL.step (v := (Value.bool (decide ((↑i : Int) < (↑xs.length : Int))))) rfl (Step.pure (by kernel_rfl)) ?_
  refine WL.nil ?_
  refine W.seq' ?_
  refine W.cond (t := decide ((↑i : Int) < (↑xs.length : Int))) rfl (fun h9 => ?_) (fun h9 => ?_)
  ·
    have h9p := of_decide_eq_true h9
    refine W.skip ?_
    refine W.seq' ?_
    refine W.block ?_
    refine W.seq' ?_
    refine W.region rfl ?_
    refine WL.step (v := (Value.int .i64 ↑i)) rfl (Step.move rfl) ?_
    refine WL.step (v := (Value.int .i64 ↑i)) rfl (Step.assign rfl) ?_
    refine WL.nil ?_
    refine W.seq' ?_
    obtain ⟨cap11, hb10⟩ := SlAt.base (M.rep 0 rfl) (by omega)
    obtain ⟨x12, hx12⟩ := elem_of_lt (xs := xs) (i := i) (by omega)
    refine W.drawn M [0, 1, 2, 3, 4, 5] [] [] [blk b3 (.cells #[(Value.int .i64 h.at_), (Value.int .i64 h.turn)] 29)] [SlAt 2 v xs.length (xs.flatMap handleE)] (List.Sublist.cons_cons _ List.Sublist.slnil) (fun _ h => h) Try.mixed (by kernel_rfl) ?_
    refine TW.read (v := (Value.agg #[(Value.int .i64 h.at_), (Value.int .i64 h.turn)])) rfl (by decide) (by decide) rfl (fun A w M => (Step.loadN Try.ag29 rfl (M.blk 1 rfl) (Nat.le_of_ble_eq_true rfl) rfl)) ?_
    refine TW.pure (v := v) rfl (by decide) (by decide) rfl (fun w => (Step.move rfl)) ?_
    refine TW.pure (v := (Value.int .i64 ↑i)) rfl (by decide) (by decide) rfl (fun w => (Step.move rfl)) ?_
    refine TW.pure (v := (Value.pointer (some ⟨(sBlk v), sOff v + i * 2, none⟩))) rfl (by decide) (by decide) rfl (fun w => (Step.indexAddr (i := i) (Try.un26).run Try.el29.sized rfl rfl (by omega) hb10 (by omega))) ?_
    refine TW.read (v := (Value.agg #[(Value.int .i64 x12.at_), (Value.int .i64 x12.turn)])) rfl (by decide) (by decide) rfl (fun A w M => (Step.loadEN (k := 0) (cs' := [(Value.int .i64 x12.at_), (Value.int .i64 x12.turn)]) Try.ag29 (flat_ec (M.rep 0 rfl) hx12 handleE_len) (by decide) rfl rfl rfl)) ?_
    refine TW.pure (v := (Value.bool (((h.at_ : Int) == (x12.at_ : Int)) && (((h.turn : Int) == (x12.turn : Int)) && true)))) rfl (by decide) (by decide) rfl (fun w => (Step.eqAgg Try.eg29 rfl rfl rfl (Try.eq29 9998 (h.at_ : Int) (h.turn : Int) (x12.at_ : Int) (x12.turn : Int)))) ?_
    refine TW.done (fun w13 M => ?_)
    refine W.cond (t := ((h.at_ : Int) == (x12.at_ : Int)) && (((h.turn : Int) == (x12.turn : Int)) && true)) rfl (fun h14 => ?_) (fun h14 => ?_)
    ·
      refine W.seq' ?_
      refine W.region rfl ?_
      refine WL.step (v := (Value.int .i64 ↑i)) rfl (Step.move rfl) ?_
      refine WL.step (v := (Value.int .i64 ↑i)) rfl (Step.assign rfl) ?_
      refine WL.nil ?_
      refine W.ret ?_
      refine ⟨.inl rfl, (Value.int .i64 ↑i), ?_, ?_⟩
      · exact (Res.r1 (show RV _ _ _ (.tmp 4) (Value.int .i64 ↑i) from by exact rfl))
      refine ⟨?_, M.close [] rfl (by decide) trivial⟩
      refine congrArg (Value.int .i64) ?_
      exact findIx_hit hx12 (handle_eq2 h14).symm hi8
    ·
      refine W.skip ?_
      refine W.region rfl ?_
      refine WL.step (v := (Value.int .i64 (↑i + 1))) rfl (Step.add rfl rfl (wrap_i64 (by omega))) ?_
      refine WL.step (v := (Value.int .i64 (↑i + 1))) rfl (Step.move rfl) ?_
      refine WL.nil ?_
      have hs := findIx_step hx12 (handle_ne2 h14).symm hi8
      exact ⟨_, (by omega), i + 1, ⟨(by omega), hs, rfl⟩, ⟨rfl, rfl, rfl, rfl, trivial⟩, M⟩
  ·
    have h9p := of_decide_eq_false h9
    refine W.exit ?_
    refine thn_exit ?_
    refine thn_exit ?_
    refine inBlk_hit ?_
    refine W.seq' ?_
    refine W.region rfl ?_
    refine WL.step (v := (Value.int .i64 (-1))) rfl (Step.assign rfl) ?_
    refine WL.nil ?_
    refine W.ret ?_
    refine ⟨.inl rfl, (Value.int .i64 (-1)), ?_, ?_⟩
    · exact (Res.r1 (show RV _ _ _ (.tmp 4) (Value.int .i64 (-1)) from by exact rfl))
    refine ⟨?_, M.close [] rfl (by decide) trivial⟩
    refine congrArg (Value.int .i64) ?_
    exact findIx_none hi8 (by omega)

theorem contains_handle {G : Nat → Prop} {w : World} (v : Value) (xs : List Handle) (h : Handle)  (M : Mem G (fun _ => False) w [] [SlAt 2 v xs.length (xs.flatMap handleE)] w) : Rets Try.prog 27 #[v, (Value.agg #[(Value.int .i64 h.at_), (Value.int .i64 h.turn)])] w fun r w' => r = (Value.bool (decide (h ∈ xs))) ∧ Mem G (fun _ => False) w [] [] w' := by
  refine Rets.enter 9 _ Try.func27 rfl Try.ntmps27 Try.results27 (by simp) ?_
  have hle1 := SlAt.le' (M.rep 0 rfl)
  have sl2 : IsSl v := SlAt.isSl (Mem.rep M 0 rfl)
  refine W.seq' ?_
  refine W.region rfl ?_
  refine WL.box (v := (Value.agg #[(Value.int .i64 h.at_), (Value.int .i64 h.turn)])) (c := #[(Value.int .i64 h.at_), (Value.int .i64 h.turn)]) M rfl rfl rfl (fun b3 w4 hb3 M => ?_)
  refine WL.step (v := (Value.bool false)) rfl (Step.assign rfl) ?_
  refine WL.nil ?_
  refine W.seq' ?_
  refine W.region rfl ?_
  refine WL.step (v := v) rfl (Step.move rfl) ?_
  refine WL.step (v := (Value.agg #[(Value.int .i64 h.at_), (Value.int .i64 h.turn)])) rfl (Step.loadN Try.ag29 rfl (M.blk 0 rfl) (Nat.le_of_ble_eq_true rfl) rfl) ?_
  refine WL.callX rfl (index_handle v xs h (M.enterW0 ⟨(M.wideR0 0 rfl), trivial⟩)) (CallsF.func Try.en42 rfl) ?_
  rintro _ w5 ⟨rfl, m⟩
  replace M := M.leaveW0 m
  clear m
  replace M : Mem _ _ _ [blk b3 (.cells #[(Value.int .i64 h.at_), (Value.int .i64 h.turn)] 29)] [SlAt 2 v xs.length (xs.flatMap handleE)] _ := M
  refine WL.step (v := (Value.bool (decide ((findIx xs h : Int) ≥ (0 : Int))))) rfl (Step.pure (by kernel_rfl)) ?_
  refine WL.step (v := (Value.bool (decide ((findIx xs h : Int) ≥ (0 : Int))))) rfl (Step.assign rfl) ?_
  refine WL.nil ?_
  refine W.ret ?_
  refine ⟨.inl rfl, (Value.bool (decide ((findIx xs h : Int) ≥ (0 : Int)))), ?_, ?_⟩
  · exact (Res.r1 (show RV _ _ _ (.tmp 4) (Value.bool (decide ((findIx xs h : Int) ≥ (0 : Int)))) from by exact rfl))
  refine ⟨?_, M.close [] rfl (by decide) trivial⟩
  exact congrArg Value.bool (findIx_mem xs h)

theorem copied {G : Nat → Prop} {w : World} (kv : Value) (dv : Value) (vv : Value) (n : Nd) (hkn : n.keys.length ≤ 1000000) (hdn : n.kids.length ≤ 1000000) (hvn : n.vals.length ≤ 1000000) (M : Mem G (fun _ => False) w [] [SlAt 1 kv n.keys.length (n.keys.flatMap strE), SlAt 2 dv n.kids.length (n.kids.flatMap handleE), SlAt 1 vv n.vals.length (n.vals.flatMap intE)] w) : Rets Try.prog 29 #[(Value.agg #[(Value.bool n.leaf), kv, dv, vv])] w fun r w' => ∃ (kv' : Value) (dv' : Value) (vv' : Value), r = (Value.agg #[(Value.bool n.leaf), kv', dv', vv']) ∧ Mem G (fun _ => False) w [own 9 1 kv' n.keys.length (n.keys.flatMap strE), own 29 2 dv' n.kids.length (n.kids.flatMap handleE), own 3 1 vv' n.vals.length (n.vals.flatMap intE)] [] w' := by
  refine Rets.enter 15 _ Try.func29 rfl Try.ntmps29 Try.results29 (by simp) ?_
  have hle1 := SlAt.le' (M.rep 0 rfl)
  have hle2 := SlAt.le' (M.rep 1 rfl)
  have hle3 := SlAt.le' (M.rep 2 rfl)
  have sl4 : IsSl kv := SlAt.isSl (Mem.rep M 0 rfl)
  have sl5 : IsSl dv := SlAt.isSl (Mem.rep M 1 rfl)
  have sl6 : IsSl vv := SlAt.isSl (Mem.rep M 2 rfl)
  refine W.seq' ?_
  refine W.region rfl ?_
  refine WL.box (v := (Value.agg #[(Value.bool n.leaf), kv, dv, vv])) (c := #[(Value.bool n.leaf), kv, dv, vv]) M rfl rfl rfl (fun b7 w8 hb7 M => ?_)
  refine WL.alloc (c := #[(Value.bool false), (Value.slice none 0 0), (Value.slice none 0 0), (Value.slice none 0 0)]) M rfl Try.el36.zero rfl (fun b9 w10 hb9 M => ?_)
  refine WL.nil ?_
  refine W.seq' ?_
  refine W.drawn M [0, 1, 2, 3, 4, 5, 6, 7, 8, 9, 10, 11, 12] [4, 7, 10, 12] [] [blk b7 (.cells #[(Value.bool n.leaf), kv, dv, vv] 36)] [SlAt 1 kv n.keys.length (n.keys.flatMap strE), SlAt 2 dv n.kids.length (n.kids.flatMap handleE), SlAt 1 vv n.vals.length (n.vals.flatMap intE)] (List.Sublist.cons _ (List.Sublist.cons_cons _ List.Sublist.slnil)) (fun _ h => h) Try.mixed (by kernel_rfl) ?_
  refine TW.pure (v := (Value.pointer (some ⟨b7, 0, none⟩))) rfl (by decide) (by decide) rfl (fun w => (Step.pure (by kernel_rfl))) ?_
  refine TW.read (v := (Value.bool n.leaf)) rfl (by decide) (by decide) rfl (fun A w M => (Step.load1 Try.sc4 rfl ((M.cell 1 rfl 0).trans rfl))) ?_
  refine TW.pure (v := (Value.pointer (some ⟨b7, 1, none⟩))) rfl (by decide) (by decide) rfl (fun w => (Step.pure (by kernel_rfl))) ?_
  refine TW.read (v := kv) rfl (by decide) (by decide) rfl (fun A w M => (Step.load1 Try.sc34 rfl ((M.cell 1 rfl 1).trans rfl))) ?_
  refine TW.callX (ι := Value) (fun jx v_ => v_ = jx) (fun jx => [own 9 1 jx n.keys.length (n.keys.flatMap strE), blk b9 (.cells #[(Value.bool false), (Value.slice none 0 0), (Value.slice none 0 0), (Value.slice none 0 0)] 36), blk b7 (.cells #[(Value.bool n.leaf), kv, dv, vv] 36)]) (fun jx => [SlAt 1 kv n.keys.length (n.keys.flatMap strE), SlAt 2 dv n.kids.length (n.kids.flatMap handleE), SlAt 1 vv n.vals.length (n.vals.flatMap intE)]) rfl (by decide) rfl (fun jx => (List.Sublist.cons _ (List.Sublist.cons _ (List.Sublist.cons_cons _ List.Sublist.slnil)))) (fun jx r h => h) (fun A w M => Rets.mono (clone_str kv n.keys (by omega) (M.enterW0 ⟨(M.wideR0 0 rfl), trivial⟩)) (fun v_ w_ ⟨v19, e_, m⟩ => ⟨v19, e_, (M.leaveW0 m).sel (L' := [fl A, own 9 1 v19 n.keys.length (n.keys.flatMap strE), blk b9 (.cells #[(Value.bool false), (Value.slice none 0 0), (Value.slice none 0 0), (Value.slice none 0 0)] 36), blk b7 (.cells #[(Value.bool n.leaf), kv, dv, vv] 36)]) [1, 0, 2, 3] rfl (by decide), fun b hb => M.keptW0 m (fl A) (List.mem_cons_self ..) b hb⟩)) (fun w => CallsF.func Try.en43 rfl) (fun v19 v hp hin => ?_)
  replace hp := hp.symm; subst hp
  obtain ⟨_, _, hin⟩ := hin
  have sl20 : IsSl v19 := SlAt.isSl (own_slAt (Mem.chunk hin 1 rfl).inv)
  have hle21 := SlAt.le' (own_slAt (Mem.chunk hin 1 rfl).inv)
  clear hin
  change TW _ _ _ _ _ _ _ _ (MemA _ _ _ [own 9 1 v19 n.keys.length (n.keys.flatMap strE), blk b9 (.cells #[(Value.bool false), (Value.slice none 0 0), (Value.slice none 0 0), (Value.slice none 0 0)] 36), blk b7 (.cells #[(Value.bool n.leaf), kv, dv, vv] 36)] [SlAt 1 kv n.keys.length (n.keys.flatMap strE), SlAt 2 dv n.kids.length (n.kids.flatMap handleE), SlAt 1 vv n.vals.length (n.vals.flatMap intE)])
  refine TW.pure (v := (Value.pointer (some ⟨b7, 2, none⟩))) rfl (by decide) (by decide) rfl (fun w => (Step.pure (by kernel_rfl))) ?_
  refine TW.read (v := dv) rfl (by decide) (by decide) rfl (fun A w M => (Step.load1 Try.sc26 rfl ((M.cell 1 rfl 2).trans rfl))) ?_
  refine TW.callX (ι := Value) (fun jx v_ => v_ = jx) (fun jx => [own 29 2 jx n.kids.length (n.kids.flatMap handleE), own 9 1 v19 n.keys.length (n.keys.flatMap strE), blk b9 (.cells #[(Value.bool false), (Value.slice none 0 0), (Value.slice none 0 0), (Value.slice none 0 0)] 36), blk b7 (.cells #[(Value.bool n.leaf), kv, dv, vv] 36)]) (fun jx => [SlAt 1 kv n.keys.length (n.keys.flatMap strE), SlAt 2 dv n.kids.length (n.kids.flatMap handleE), SlAt 1 vv n.vals.length (n.vals.flatMap intE)]) rfl (by decide) rfl (fun jx => (List.Sublist.cons _ (List.Sublist.cons _ (List.Sublist.cons _ (List.Sublist.cons_cons _ List.Sublist.slnil))))) (fun jx r h => h) (fun A w M => Rets.mono (clone_handle dv n.kids (by omega) (M.enterW0 ⟨(M.wideR0 1 rfl), trivial⟩)) (fun v_ w_ ⟨v22, e_, m⟩ => ⟨v22, e_, (M.leaveW0 m).sel (L' := [fl A, own 29 2 v22 n.kids.length (n.kids.flatMap handleE), own 9 1 v19 n.keys.length (n.keys.flatMap strE), blk b9 (.cells #[(Value.bool false), (Value.slice none 0 0), (Value.slice none 0 0), (Value.slice none 0 0)] 36), blk b7 (.cells #[(Value.bool n.leaf), kv, dv, vv] 36)]) [1, 0, 2, 3, 4] rfl (by decide), fun b hb => M.keptW0 m (fl A) (List.mem_cons_self ..) b hb⟩)) (fun w => CallsF.func Try.en44 rfl) (fun v22 v hp hin => ?_)
  replace hp := hp.symm; subst hp
  obtain ⟨_, _, hin⟩ := hin
  have sl23 : IsSl v22 := SlAt.isSl (own_slAt (Mem.chunk hin 1 rfl).inv)
  have hle24 := SlAt.le' (own_slAt (Mem.chunk hin 1 rfl).inv)
  clear hin
  change TW _ _ _ _ _ _ _ _ (MemA _ _ _ [own 29 2 v22 n.kids.length (n.kids.flatMap handleE), own 9 1 v19 n.keys.length (n.keys.flatMap strE), blk b9 (.cells #[(Value.bool false), (Value.slice none 0 0), (Value.slice none 0 0), (Value.slice none 0 0)] 36), blk b7 (.cells #[(Value.bool n.leaf), kv, dv, vv] 36)] [SlAt 1 kv n.keys.length (n.keys.flatMap strE), SlAt 2 dv n.kids.length (n.kids.flatMap handleE), SlAt 1 vv n.vals.length (n.vals.flatMap intE)])
  refine TW.pure (v := (Value.pointer (some ⟨b7, 3, none⟩))) rfl (by decide) (by decide) rfl (fun w => (Step.pure (by kernel_rfl))) ?_
  refine TW.read (v := vv) rfl (by decide) (by decide) rfl (fun A w M => (Step.load1 Try.sc22 rfl ((M.cell 1 rfl 3).trans rfl))) ?_
  refine TW.callX (ι := Value) (fun jx v_ => v_ = jx) (fun jx => [own 3 1 jx n.vals.length (n.vals.flatMap intE), own 29 2 v22 n.kids.length (n.kids.flatMap handleE), own 9 1 v19 n.keys.length (n.keys.flatMap strE), blk b9 (.cells #[(Value.bool false), (Value.slice none 0 0), (Value.slice none 0 0), (Value.slice none 0 0)] 36), blk b7 (.cells #[(Value.bool n.leaf), kv, dv, vv] 36)]) (fun jx => [SlAt 1 kv n.keys.length (n.keys.flatMap strE), SlAt 2 dv n.kids.length (n.kids.flatMap handleE), SlAt 1 vv n.vals.length (n.vals.flatMap intE)]) rfl (by decide) rfl (fun jx => (List.Sublist.cons _ (List.Sublist.cons _ (List.Sublist.cons _ (List.Sublist.cons _ (List.Sublist.cons_cons _ List.Sublist.slnil)))))) (fun jx r h => h) (fun A w M => Rets.mono (clone_int vv n.vals (by omega) (M.enterW0 ⟨(M.wideR0 2 rfl), trivial⟩)) (fun v_ w_ ⟨v25, e_, m⟩ => ⟨v25, e_, (M.leaveW0 m).sel (L' := [fl A, own 3 1 v25 n.vals.length (n.vals.flatMap intE), own 29 2 v22 n.kids.length (n.kids.flatMap handleE), own 9 1 v19 n.keys.length (n.keys.flatMap strE), blk b9 (.cells #[(Value.bool false), (Value.slice none 0 0), (Value.slice none 0 0), (Value.slice none 0 0)] 36), blk b7 (.cells #[(Value.bool n.leaf), kv, dv, vv] 36)]) [1, 0, 2, 3, 4, 5] rfl (by decide), fun b hb => M.keptW0 m (fl A) (List.mem_cons_self ..) b hb⟩)) (fun w => CallsF.func Try.en45 rfl) (fun v25 v hp hin => ?_)
  replace hp := hp.symm; subst hp
  obtain ⟨_, _, hin⟩ := hin
  have sl26 : IsSl v25 := SlAt.isSl (own_slAt (Mem.chunk hin 1 rfl).inv)
  have hle27 := SlAt.le' (own_slAt (Mem.chunk hin 1 rfl).inv)
  clear hin
  change TW _ _ _ _ _ _ _ _ (MemA _ _ _ [own 3 1 v25 n.vals.length (n.vals.flatMap intE), own 29 2 v22 n.kids.length (n.kids.flatMap handleE), own 9 1 v19 n.keys.length (n.keys.flatMap strE), blk b9 (.cells #[(Value.bool false), (Value.slice none 0 0), (Value.slice none 0 0), (Value.slice none 0 0)] 36), blk b7 (.cells #[(Value.bool n.leaf), kv, dv, vv] 36)] [SlAt 1 kv n.keys.length (n.keys.flatMap strE), SlAt 2 dv n.kids.length (n.kids.flatMap handleE), SlAt 1 vv n.vals.length (n.vals.flatMap intE)])
  refine TW.pure (v := (Value.agg #[(Value.bool n.leaf), v19, v22, v25])) rfl (by decide) (by decide) rfl (fun w => (by obtain ⟨_, _, _, e⟩ := sl20; subst e; obtain ⟨_, _, _, e⟩ := sl23; subst e; obtain ⟨_, _, _, e⟩ := sl26; subst e; exact (Step.pure (by kernel_rfl)))) ?_
  refine TW.store (v := (Value.agg #[(Value.bool n.leaf), v19, v22, v25])) (cs := [(Value.bool n.leaf), v19, v22, v25]) (c' := #[(Value.bool n.leaf), v19, v22, v25]) 3 rfl rfl (by decide) rfl Try.el36.sized rfl rfl rfl rfl (Nat.le_of_ble_eq_true rfl) (cel_cons rfl (cel_cons (IsSl.cel sl20) (cel_cons (IsSl.cel sl23) (cel_cons (IsSl.cel sl26) cel_nil)))) rfl rfl (List.Sublist.cons _ (List.Sublist.cons _ (List.Sublist.cons _ (List.Sublist.cons _ (List.Sublist.cons_cons _ List.Sublist.slnil))))) (fun r h => h) ?_
  refine TW.done (fun w28 M => ?_)
  refine W.ret ?_
  refine ⟨.inl rfl, (Value.agg #[(Value.bool n.leaf), v19, v22, v25]), ?_, ?_⟩
  · exact (Res.r1 (RV.cellN Try.ag36 rfl (M.blk 3 rfl) rfl))
  refine ⟨v19, v22, v25, ?_, M.close [2, 1, 0] rfl (by decide) trivial⟩
  rfl

theorem arena_Same {G : Nat → Prop} {w : World} (kv : Value) (dv : Value) (vv : Value) (a : Nd) (kv2 : Value) (dv2 : Value) (vv2 : Value) (b : Nd)  (M : Mem G (fun _ => False) w [] [SlAt 1 kv a.keys.length (a.keys.flatMap strE), SlAt 2 dv a.kids.length (a.kids.flatMap handleE), SlAt 1 vv a.vals.length (a.vals.flatMap intE), SlAt 1 kv2 b.keys.length (b.keys.flatMap strE), SlAt 2 dv2 b.kids.length (b.kids.flatMap handleE), SlAt 1 vv2 b.vals.length (b.vals.flatMap intE)] w) : Rets Try.prog 26 #[(Value.agg #[(Value.bool a.leaf), kv, dv, vv]), (Value.agg #[(Value.bool b.leaf), kv2, dv2, vv2])] w fun r w' => r = (Value.bool (nodeEq a b)) ∧ Mem G (fun _ => False) w [] [] w' := by
  refine Rets.enter 31 _ Try.func26 rfl Try.ntmps26 Try.results26 (by simp) ?_
  have hle1 := SlAt.le' (M.rep 0 rfl)
  have hle2 := SlAt.le' (M.rep 1 rfl)
  have hle3 := SlAt.le' (M.rep 2 rfl)
  have hle4 := SlAt.le' (M.rep 3 rfl)
  have hle5 := SlAt.le' (M.rep 4 rfl)
  have hle6 := SlAt.le' (M.rep 5 rfl)
  have sl7 : IsSl kv := SlAt.isSl (Mem.rep M 0 rfl)
  have sl8 : IsSl dv := SlAt.isSl (Mem.rep M 1 rfl)
  have sl9 : IsSl vv := SlAt.isSl (Mem.rep M 2 rfl)
  have sl10 : IsSl kv2 := SlAt.isSl (Mem.rep M 3 rfl)
  have sl11 : IsSl dv2 := SlAt.isSl (Mem.rep M 4 rfl)
  have sl12 : IsSl vv2 := SlAt.isSl (Mem.rep M 5 rfl)
  refine W.seq' ?_
  refine W.region rfl ?_
  refine WL.box (v := (Value.agg #[(Value.bool a.leaf), kv, dv, vv])) (c := #[(Value.bool a.leaf), kv, dv, vv]) M rfl rfl rfl (fun b13 w14 hb13 M => ?_)
  refine WL.box (v := (Value.agg #[(Value.bool b.leaf), kv2, dv2, vv2])) (c := #[(Value.bool b.leaf), kv2, dv2, vv2]) M rfl rfl rfl (fun b15 w16 hb15 M => ?_)
  refine WL.step (v := (Value.bool false)) rfl (Step.assign rfl) ?_
  refine WL.nil ?_
  refine W.seq' ?_
  refine W.region rfl ?_
  refine WL.step (v := (Value.pointer (some ⟨b13, 0, none⟩))) rfl (Step.pure (by kernel_rfl)) ?_
  refine WL.step (v := (Value.bool a.leaf)) rfl (Step.load1 Try.sc4 rfl ((M.cell 1 rfl 0).trans rfl)) ?_
  refine WL.step (v := (Value.pointer (some ⟨b15, 0, none⟩))) rfl (Step.pure (by kernel_rfl)) ?_
  refine WL.step (v := (Value.bool b.leaf)) rfl (Step.load1 Try.sc4 rfl ((M.cell 0 rfl 0).trans rfl)) ?_
  refine WL.step (v := (Value.bool (a.leaf == b.leaf))) rfl (Step.pure (by kernel_rfl)) ?_
  refine WL.step (v := (Value.bool (a.leaf == b.leaf))) rfl (Step.move rfl) ?_
  rcases Bool.eq_false_or_eq_true (a.leaf == b.leaf) with h17 | h17
  ·
    rw [h17]
    refine WL.step (v := (Value.pointer (some ⟨b13, 1, none⟩))) rfl (Step.pure (by kernel_rfl)) ?_
    refine WL.step (v := kv) rfl (Step.load1 Try.sc34 rfl ((M.cell 1 rfl 1).trans rfl)) ?_
    refine WL.step (v := (Value.pointer (some ⟨b15, 1, none⟩))) rfl (Step.pure (by kernel_rfl)) ?_
    refine WL.step (v := kv2) rfl (Step.load1 Try.sc34 rfl ((M.cell 0 rfl 1).trans rfl)) ?_
    refine WL.callX rfl (equal_str kv a.keys kv2 b.keys (M.enterW0 ⟨(M.wideR0 0 rfl), (M.wideR0 3 rfl), trivial⟩)) (CallsF.func Try.en39 rfl) ?_
    rintro _ w18 ⟨rfl, m⟩
    replace M := M.leaveW0 m
    clear m
    replace M : Mem _ _ _ [blk b15 (.cells #[(Value.bool b.leaf), kv2, dv2, vv2] 36), blk b13 (.cells #[(Value.bool a.leaf), kv, dv, vv] 36)] [SlAt 1 kv a.keys.length (a.keys.flatMap strE), SlAt 2 dv a.kids.length (a.kids.flatMap handleE), SlAt 1 vv a.vals.length (a.vals.flatMap intE), SlAt 1 kv2 b.keys.length (b.keys.flatMap strE), SlAt 2 dv2 b.kids.length (b.kids.flatMap handleE), SlAt 1 vv2 b.vals.length (b.vals.flatMap intE)] _ := M
    refine WL.step (v := (Value.bool (decide (a.keys = b.keys)))) rfl (Step.pick (t := true) rfl rfl) ?_
    refine WL.step (v := (Value.bool (decide (a.keys = b.keys)))) rfl (Step.move rfl) ?_
    rcases Bool.eq_false_or_eq_true (decide (a.keys = b.keys)) with h19 | h19
    ·
      have h19p := of_decide_eq_true h19
      rw [h19]
      refine WL.step (v := (Value.pointer (some ⟨b13, 2, none⟩))) rfl (Step.pure (by kernel_rfl)) ?_
      refine WL.step (v := dv) rfl (Step.load1 Try.sc26 rfl ((M.cell 1 rfl 2).trans rfl)) ?_
      refine WL.step (v := (Value.pointer (some ⟨b15, 2, none⟩))) rfl (Step.pure (by kernel_rfl)) ?_
      refine WL.step (v := dv2) rfl (Step.load1 Try.sc26 rfl ((M.cell 0 rfl 2).trans rfl)) ?_
      refine WL.callX rfl (equal_handle dv a.kids dv2 b.kids (M.enterW0 ⟨(M.wideR0 1 rfl), (M.wideR0 4 rfl), trivial⟩)) (CallsF.func Try.en40 rfl) ?_
      rintro _ w20 ⟨rfl, m⟩
      replace M := M.leaveW0 m
      clear m
      replace M : Mem _ _ _ [blk b15 (.cells #[(Value.bool b.leaf), kv2, dv2, vv2] 36), blk b13 (.cells #[(Value.bool a.leaf), kv, dv, vv] 36)] [SlAt 1 kv a.keys.length (a.keys.flatMap strE), SlAt 2 dv a.kids.length (a.kids.flatMap handleE), SlAt 1 vv a.vals.length (a.vals.flatMap intE), SlAt 1 kv2 b.keys.length (b.keys.flatMap strE), SlAt 2 dv2 b.kids.length (b.kids.flatMap handleE), SlAt 1 vv2 b.vals.length (b.vals.flatMap intE)] _ := M
      refine WL.step (v := (Value.bool (decide (a.kids = b.kids)))) rfl (Step.pick (t := true) rfl rfl) ?_
      refine WL.step (v := (Value.bool (decide (a.kids = b.kids)))) rfl (Step.move rfl) ?_
      rcases Bool.eq_false_or_eq_true (decide (a.kids = b.kids)) with h21 | h21
      ·
        have h21p := of_decide_eq_true h21
        rw [h21]
        refine WL.step (v := (Value.pointer (some ⟨b13, 3, none⟩))) rfl (Step.pure (by kernel_rfl)) ?_
        refine WL.step (v := vv) rfl (Step.load1 Try.sc22 rfl ((M.cell 1 rfl 3).trans rfl)) ?_
        refine WL.step (v := (Value.pointer (some ⟨b15, 3, none⟩))) rfl (Step.pure (by kernel_rfl)) ?_
        refine WL.step (v := vv2) rfl (Step.load1 Try.sc22 rfl ((M.cell 0 rfl 3).trans rfl)) ?_
        refine WL.callX rfl (equal_int vv a.vals vv2 b.vals (M.enterW0 ⟨(M.wideR0 2 rfl), (M.wideR0 5 rfl), trivial⟩)) (CallsF.func Try.en41 rfl) ?_
        rintro _ w22 ⟨rfl, m⟩
        replace M := M.leaveW0 m
        clear m
        replace M : Mem _ _ _ [blk b15 (.cells #[(Value.bool b.leaf), kv2, dv2, vv2] 36), blk b13 (.cells #[(Value.bool a.leaf), kv, dv, vv] 36)] [SlAt 1 kv a.keys.length (a.keys.flatMap strE), SlAt 2 dv a.kids.length (a.kids.flatMap handleE), SlAt 1 vv a.vals.length (a.vals.flatMap intE), SlAt 1 kv2 b.keys.length (b.keys.flatMap strE), SlAt 2 dv2 b.kids.length (b.kids.flatMap handleE), SlAt 1 vv2 b.vals.length (b.vals.flatMap intE)] _ := M
        refine WL.step (v := (Value.bool (decide (a.vals = b.vals)))) rfl (Step.pick (t := true) rfl rfl) ?_
        refine WL.step (v := (Value.bool (decide (a.vals = b.vals)))) rfl (Step.assign rfl) ?_
        refine WL.nil ?_
        refine W.ret ?_
        refine ⟨.inl rfl, (Value.bool (decide (a.vals = b.vals))), ?_, ?_⟩
        · exact (Res.r1 (show RV _ _ _ (.tmp 4) (Value.bool (decide (a.vals = b.vals))) from by exact rfl))
        refine ⟨?_, M.close [] rfl (by decide) trivial⟩
        simp only [nodeEq]
        try simp [h17, h19p, h21p]
        try omega
      ·
        have h21p := of_decide_eq_false h21
        rw [h21]
        refine WL.pass rfl ?_
        refine WL.pass rfl ?_
        refine WL.pass rfl ?_
        refine WL.pass rfl ?_
        refine WL.pass rfl ?_
        refine WL.step (v := (Value.bool false)) rfl (Step.pick (t := false) rfl rfl) ?_
        refine WL.step (v := (Value.bool false)) rfl (Step.assign rfl) ?_
        refine WL.nil ?_
        refine W.ret ?_
        refine ⟨.inl rfl, (Value.bool false), ?_, ?_⟩
        · exact (Res.r1 (show RV _ _ _ (.tmp 4) (Value.bool false) from by exact rfl))
        refine ⟨?_, M.close [] rfl (by decide) trivial⟩
        simp only [nodeEq]
        try simp [h17, h19p, h21p]
        try omega
    ·
      have h19p := of_decide_eq_false h19
      rw [h19]
      refine WL.pass rfl ?_
      refine WL.pass rfl ?_
      refine WL.pass rfl ?_
      refine WL.pass rfl ?_
      refine WL.pass rfl ?_
      refine WL.step (v := (Value.bool false)) rfl (Step.pick (t := false) rfl rfl) ?_
      refine WL.step (v := (Value.bool false)) rfl (Step.move rfl) ?_
      refine WL.pass rfl ?_
      refine WL.pass rfl ?_
      refine WL.pass rfl ?_
      refine WL.pass rfl ?_
      refine WL.pass rfl ?_
      refine WL.step (v := (Value.bool false)) rfl (Step.pick (t := false) rfl rfl) ?_
      refine WL.step (v := (Value.bool false)) rfl (Step.assign rfl) ?_
      refine WL.nil ?_
      refine W.ret ?_
      refine ⟨.inl rfl, (Value.bool false), ?_, ?_⟩
      · exact (Res.r1 (show RV _ _ _ (.tmp 4) (Value.bool false) from by exact rfl))
      refine ⟨?_, M.close [] rfl (by decide) trivial⟩
      simp only [nodeEq]
      try simp [h17, h19p]
      try omega
  ·
    rw [h17]
    refine WL.pass rfl ?_
    refine WL.pass rfl ?_
    refine WL.pass rfl ?_
    refine WL.pass rfl ?_
    refine WL.pass rfl ?_
    refine WL.step (v := (Value.bool false)) rfl (Step.pick (t := false) rfl rfl) ?_
    refine WL.step (v := (Value.bool false)) rfl (Step.move rfl) ?_
    refine WL.pass rfl ?_
    refine WL.pass rfl ?_
    refine WL.pass rfl ?_
    refine WL.pass rfl ?_
    refine WL.pass rfl ?_
    refine WL.step (v := (Value.bool false)) rfl (Step.pick (t := false) rfl rfl) ?_
    refine WL.step (v := (Value.bool false)) rfl (Step.move rfl) ?_
    refine WL.pass rfl ?_
    refine WL.pass rfl ?_
    refine WL.pass rfl ?_
    refine WL.pass rfl ?_
    refine WL.pass rfl ?_
    refine WL.step (v := (Value.bool false)) rfl (Step.pick (t := false) rfl rfl) ?_
    refine WL.step (v := (Value.bool false)) rfl (Step.assign rfl) ?_
    refine WL.nil ?_
    refine W.ret ?_
    refine ⟨.inl rfl, (Value.bool false), ?_, ?_⟩
    · exact (Res.r1 (show RV _ _ _ (.tmp 4) (Value.bool false) from by exact rfl))
    refine ⟨?_, M.close [] rfl (by decide) trivial⟩
    simp only [nodeEq]
    try simp [h17]
    try omega

theorem law_handle {G : Nat → Prop} {w : World} (h : Handle)  (M : Mem G (fun _ => False) w [] [] w) : Rets Try.prog 22 #[(Value.agg #[(Value.int .i64 h.at_), (Value.int .i64 h.turn)])] w fun r w' => r = (Value.agg #[(Value.int .i64 h.at_), (Value.int .i64 h.turn)]) ∧ Mem G (fun _ => False) w [] [] w' := by
  refine Rets.enter 8 _ Try.func22 rfl Try.ntmps22 Try.results22 (by simp) ?_
  refine W.seq' ?_
  refine W.region rfl ?_
  refine WL.box (v := (Value.agg #[(Value.int .i64 h.at_), (Value.int .i64 h.turn)])) (c := #[(Value.int .i64 h.at_), (Value.int .i64 h.turn)]) M rfl rfl rfl (fun b1 w2 hb1 M => ?_)
  refine WL.alloc (c := #[(Value.int .i64 0), (Value.int .i64 0)]) M rfl Try.el61.zero rfl (fun b3 w4 hb3 M => ?_)
  refine WL.nil ?_
  refine W.seq' ?_
  refine W.region rfl ?_
  refine WL.step (v := (Value.pointer (some ⟨b1, 0, none⟩))) rfl (Step.pure (by kernel_rfl)) ?_
  refine WL.step (v := (Value.int .i64 h.at_)) rfl (Step.load1 Try.sc3 rfl ((M.cell 1 rfl 0).trans rfl)) ?_
  refine WL.step (v := (Value.pointer (some ⟨b1, 1, none⟩))) rfl (Step.pure (by kernel_rfl)) ?_
  refine WL.step (v := (Value.int .i64 h.turn)) rfl (Step.load1 Try.sc3 rfl ((M.cell 1 rfl 1).trans rfl)) ?_
  refine WL.step (v := (Value.agg #[(Value.int .i64 h.at_), (Value.int .i64 h.turn)])) rfl (Step.pure (by kernel_rfl)) ?_
  refine WL.store (v := (Value.agg #[(Value.int .i64 h.at_), (Value.int .i64 h.turn)])) (cs := [(Value.int .i64 h.at_), (Value.int .i64 h.turn)]) (c' := #[(Value.int .i64 h.at_), (Value.int .i64 h.turn)]) M 0 rfl rfl Try.el61.sized rfl rfl rfl rfl (Nat.le_of_ble_eq_true rfl) (cel_cons rfl (cel_cons rfl cel_nil)) rfl rfl (fun w5 M => ?_)
  refine WL.nil ?_
  refine W.ret ?_
  refine ⟨.inl rfl, (Value.agg #[(Value.int .i64 h.at_), (Value.int .i64 h.turn)]), ?_, ?_⟩
  · exact (Res.r1 (RV.cellN Try.ag61 rfl (M.blk 0 rfl) rfl))
  refine ⟨?_, M.close [] rfl (by decide) trivial⟩
  rfl

theorem law_first {G : Nat → Prop} {w : World} (v : Value) (l : List Handle)  (M : Mem G (fun _ => False) w [] [SlAt 2 v l.length (l.flatMap handleE)] w) : Rets Try.prog 32 #[v] w fun r w' => r = (Value.agg #[(Value.int .i64 ((firstH l).at_)), (Value.int .i64 ((firstH l).turn))]) ∧ Mem G (fun _ => False) w [] [] w' := by
  refine Rets.enter 10 _ Try.func32 rfl Try.ntmps32 Try.results32 (by simp) ?_
  have hle1 := SlAt.le' (M.rep 0 rfl)
  have sl2 : IsSl v := SlAt.isSl (Mem.rep M 0 rfl)
  refine W.seq' ?_
  refine W.region rfl ?_
  refine WL.alloc (c := #[(Value.int .i64 0), (Value.int .i64 0)]) M rfl Try.el29.zero rfl (fun b3 w4 hb3 M => ?_)
  refine WL.nil ?_
  refine W.seq' ?_
  refine W.seq' ?_
  refine W.region rfl ?_
  refine WL.step (v := v) rfl (Step.move rfl) ?_
  refine WL.step (v := (Value.int .i64 ↑l.length)) rfl (Step.lenSl Try.un26 rfl (M.rep 0 rfl)) ?_
  refine WL.step (v := (Value.bool ((↑l.length : Int) == (0 : Int)))) rfl (Step.pure (by kernel_rfl)) ?_
  refine WL.nil ?_
  refine W.cond (t := (↑l.length : Int) == (0 : Int)) rfl (fun h5 => ?_) (fun h5 => ?_)
  ·
    have h5p : (↑l.length : Int) = (0 : Int) := by simpa using h5
    refine W.seq' ?_
    refine W.region rfl ?_
    refine WL.step (v := (Value.agg #[(Value.int .i64 0), (Value.int .i64 0)])) rfl (Step.pure (by kernel_rfl)) ?_
    refine WL.store (v := (Value.agg #[(Value.int .i64 0), (Value.int .i64 0)])) (cs := [(Value.int .i64 0), (Value.int .i64 0)]) (c' := #[(Value.int .i64 0), (Value.int .i64 0)]) M 0 rfl rfl Try.el29.sized rfl rfl rfl rfl (Nat.le_of_ble_eq_true rfl) (cel_cons rfl (cel_cons rfl cel_nil)) rfl rfl (fun w6 M => ?_)
    refine WL.nil ?_
    refine W.ret ?_
    refine ⟨.inl rfl, (Value.agg #[(Value.int .i64 0), (Value.int .i64 0)]), ?_, ?_⟩
    · exact (Res.r1 (RV.cellN Try.ag29 rfl (M.blk 0 rfl) rfl))
    refine ⟨?_, M.close [] rfl (by decide) trivial⟩
    rw [firstH_nil (by omega)]
  ·
    have h5p : ¬ (↑l.length : Int) = (0 : Int) := by simpa using h5
    refine W.skip ?_
    refine W.seq' ?_
    refine W.region rfl ?_
    refine WL.step (v := v) rfl (Step.move rfl) ?_
    obtain ⟨cap8, hb7⟩ := SlAt.base (M.rep 0 rfl) (by omega)
    obtain ⟨x9, hx9⟩ := elem_of_lt (xs := l) (i := 0) (by omega)
    refine WL.step (v := (Value.pointer (some ⟨(sBlk v), sOff v + 0 * 2, none⟩))) rfl (Step.indexAddr (i := 0) (Try.un26).run Try.el29.sized rfl rfl rfl hb7 (by omega)) ?_
    refine WL.step (v := (Value.agg #[(Value.int .i64 x9.at_), (Value.int .i64 x9.turn)])) rfl (Step.loadEN (k := 0) (cs' := [(Value.int .i64 x9.at_), (Value.int .i64 x9.turn)]) Try.ag29 (flat_ec (M.rep 0 rfl) hx9 handleE_len) (by decide) rfl rfl rfl) ?_
    refine WL.store (v := (Value.agg #[(Value.int .i64 x9.at_), (Value.int .i64 x9.turn)])) (cs := [(Value.int .i64 x9.at_), (Value.int .i64 x9.turn)]) (c' := #[(Value.int .i64 x9.at_), (Value.int .i64 x9.turn)]) M 0 rfl rfl Try.el29.sized rfl rfl rfl rfl (Nat.le_of_ble_eq_true rfl) (cel_cons rfl (cel_cons rfl cel_nil)) rfl rfl (fun w10 M => ?_)
    refine WL.nil ?_
    refine W.ret ?_
    refine ⟨.inl rfl, (Value.agg #[(Value.int .i64 x9.at_), (Value.int .i64 x9.turn)]), ?_, ?_⟩
    · exact (Res.r1 (RV.cellN Try.ag29 rfl (M.blk 0 rfl) rfl))
    refine ⟨?_, M.close [] rfl (by decide) trivial⟩
    rw [firstH_cons hx9]

theorem ar_has {G X : Nat → Prop} {w : World} (ab : Nat) (l : List RPlace) (i : ArI) (h : Handle) (hK : FreeOk i.ks l) (M : Mem G X w [blk ab (.cells #[i.pv, (Value.map (some i.fb))] 71), own 73 5 i.pv l.length i.cs, setC i.fb i.ks, nodesC i.N i.cs l] [] w) : Rets Try.prog 16 #[(Value.pointer (some ⟨ab, 0, none⟩)), (Value.agg #[(Value.int .i64 h.at_), (Value.int .i64 h.turn)])] w fun r w' => r = (Value.bool (rhas l h)) ∧ Mem G X w [blk ab (.cells #[i.pv, (Value.map (some i.fb))] 71), own 73 5 i.pv l.length i.cs, setC i.fb i.ks, nodesC i.N i.cs l] [] w' := by
  refine Rets.enter 50 _ Try.func16 rfl Try.ntmps16 Try.results16 (by simp) ?_
  have sl1 : IsSl i.pv := SlAt.isSl (own_slAt (Mem.chunk M 1 rfl).inv)
  have hle2 := SlAt.le' (own_slAt (Mem.chunk M 1 rfl).inv)
  refine W.seq' ?_
  refine W.region rfl ?_
  refine WL.box (v := (Value.agg #[(Value.int .i64 h.at_), (Value.int .i64 h.turn)])) (c := #[(Value.int .i64 h.at_), (Value.int .i64 h.turn)]) M rfl rfl rfl (fun b3 w4 hb3 M => ?_)
  refine WL.step (v := (Value.bool false)) rfl (Step.assign rfl) ?_
  refine WL.nil ?_
  refine W.seq' ?_
  refine W.seq' ?_
  rcases Bool.eq_false_or_eq_true (decide ((h.at_ : Int) < (0 : Int))) with h5 | h5
  ·
    have h5p := of_decide_eq_true h5
    refine W.drawn M [0, 1, 2, 3, 4, 5, 6, 7, 8, 9, 10, 11, 12, 13, 14, 15, 16] [] [] [blk b3 (.cells #[(Value.int .i64 h.at_), (Value.int .i64 h.turn)] 29), blk ab (.cells #[i.pv, (Value.map (some i.fb))] 71), own 73 5 i.pv l.length i.cs, setC i.fb i.ks, nodesC i.N i.cs l] [] (List.Sublist.cons_cons _ (List.Sublist.cons_cons _ (List.Sublist.cons_cons _ (List.Sublist.cons_cons _ (List.Sublist.cons_cons _ List.Sublist.slnil))))) (fun _ h => h) Try.mixed (by kernel_rfl) ?_
    refine TW.pure (v := (Value.pointer (some ⟨ab, 0, none⟩))) rfl (by decide) (by decide) rfl (fun w => (Step.move rfl)) ?_
    refine TW.pure (v := (Value.bool false)) rfl (by decide) (by decide) rfl (fun w => (Step.pure (by kernel_rfl))) ?_
    refine TW.pure (v := (Value.bool false)) rfl (by decide) (by decide) rfl (fun w => (Step.move rfl)) ?_
    refine TW.pure (v := (Value.pointer (some ⟨b3, 0, none⟩))) rfl (by decide) (by decide) rfl (fun w => (Step.pure (by kernel_rfl))) ?_
    refine TW.read (v := (Value.int .i64 h.at_)) rfl (by decide) (by decide) rfl (fun A w M => (Step.load1 Try.sc3 rfl ((M.cell 1 rfl 0).trans rfl))) ?_
    refine TW.pure (v := (Value.bool true)) rfl (by decide) (by decide) rfl (fun w => (Step.cast (congrArg Value.bool h5) (Step.pure (by kernel_rfl)))) ?_
    refine TW.pure (v := (Value.bool true)) rfl (by decide) (by decide) rfl (fun w => (Step.pick (t := false) rfl rfl)) ?_
    refine TW.pure (v := (Value.bool true)) rfl (by decide) (by decide) rfl (fun w => (Step.move rfl)) ?_
    refine TW.skip rfl rfl ?_
    refine TW.skip rfl rfl ?_
    refine TW.skip rfl rfl ?_
    refine TW.skip rfl rfl ?_
    refine TW.skip rfl rfl ?_
    refine TW.skip rfl rfl ?_
    refine TW.skip rfl rfl ?_
    refine TW.skip rfl rfl ?_
    refine TW.pure (v := (Value.bool true)) rfl (by decide) (by decide) rfl (fun w => (Step.pick (t := true) rfl rfl)) ?_
    refine TW.done (fun w6 M => ?_)
    refine W.cond (t := true) rfl (fun _ => ?_) (fun h => by cases h)
    refine W.seq' ?_
    refine W.region rfl ?_
    refine WL.step (v := (Value.bool false)) rfl (Step.assign rfl) ?_
    refine WL.nil ?_
    refine W.ret ?_
    refine ⟨.inl rfl, (Value.bool false), ?_, ?_⟩
    · exact (Res.r1 (show RV _ _ _ (.tmp 4) (Value.bool false) from by exact rfl))
    refine ⟨?_, M.close [1, 2, 3, 4] rfl (by decide) trivial⟩
    refine congrArg Value.bool ?_
    first | exact Eq.symm (rhas_low (by omega)) | exact Eq.symm (rhas_high (by omega)) | exact Eq.symm (rhas_free (by first | assumption | (simp only [Bool.not_eq_false'] at *; assumption))) | exact Eq.symm (rhas_turn (by omega) (by assumption) (by first | assumption | (simp only [Bool.not_eq_true'] at *; assumption)))
  ·
    have h5p := of_decide_eq_false h5
    refine W.drawn M [0, 1, 2, 3, 4, 5, 6, 7, 8, 9, 10, 11, 12, 13, 14, 15, 16] [] [] [blk b3 (.cells #[(Value.int .i64 h.at_), (Value.int .i64 h.turn)] 29), blk ab (.cells #[i.pv, (Value.map (some i.fb))] 71), own 73 5 i.pv l.length i.cs, setC i.fb i.ks, nodesC i.N i.cs l] [] (List.Sublist.cons_cons _ (List.Sublist.cons_cons _ (List.Sublist.cons_cons _ (List.Sublist.cons_cons _ (List.Sublist.cons_cons _ List.Sublist.slnil))))) (fun _ h => h) Try.mixed (by kernel_rfl) ?_
    refine TW.pure (v := (Value.pointer (some ⟨ab, 0, none⟩))) rfl (by decide) (by decide) rfl (fun w => (Step.move rfl)) ?_
    refine TW.pure (v := (Value.bool false)) rfl (by decide) (by decide) rfl (fun w => (Step.pure (by kernel_rfl))) ?_
    refine TW.pure (v := (Value.bool false)) rfl (by decide) (by decide) rfl (fun w => (Step.move rfl)) ?_
    refine TW.pure (v := (Value.pointer (some ⟨b3, 0, none⟩))) rfl (by decide) (by decide) rfl (fun w => (Step.pure (by kernel_rfl))) ?_
    refine TW.read (v := (Value.int .i64 h.at_)) rfl (by decide) (by decide) rfl (fun A w M => (Step.load1 Try.sc3 rfl ((M.cell 1 rfl 0).trans rfl))) ?_
    refine TW.pure (v := (Value.bool false)) rfl (by decide) (by decide) rfl (fun w => (Step.cast (congrArg Value.bool h5) (Step.pure (by kernel_rfl)))) ?_
    refine TW.pure (v := (Value.bool false)) rfl (by decide) (by decide) rfl (fun w => (Step.pick (t := false) rfl rfl)) ?_
    refine TW.pure (v := (Value.bool false)) rfl (by decide) (by decide) rfl (fun w => (Step.move rfl)) ?_
    refine TW.pure (v := (Value.pointer (some ⟨b3, 0, none⟩))) rfl (by decide) (by decide) rfl (fun w => (Step.pure (by kernel_rfl))) ?_
    refine TW.read (v := (Value.int .i64 h.at_)) rfl (by decide) (by decide) rfl (fun A w M => (Step.load1 Try.sc3 rfl ((M.cell 1 rfl 0).trans rfl))) ?_
    refine TW.pure (v := (Value.pointer (some ⟨ab, 0, none⟩))) rfl (by decide) (by decide) rfl (fun w => (Step.move rfl)) ?_
    refine TW.pure (v := (Value.pointer (some ⟨ab, 0, none⟩))) rfl (by decide) (by decide) rfl (fun w => (Step.pure (by kernel_rfl))) ?_
    refine TW.pure (v := (Value.pointer (some ⟨ab, 0, none⟩))) rfl (by decide) (by decide) rfl (fun w => (Step.pure (by kernel_rfl))) ?_
    refine TW.read (v := i.pv) rfl (by decide) (by decide) rfl (fun A w M => (Step.load1 Try.sc69 rfl ((M.cell 2 rfl 0).trans rfl))) ?_
    refine TW.read (v := (Value.int .i64 ↑l.length)) rfl (by decide) (by decide) rfl (fun A w M => (Step.lenSl Try.un69 rfl (own_slAt (M.chunk 3 rfl).inv))) ?_
    refine TW.pure (v := (Value.bool (decide ((h.at_ : Int) ≥ (↑l.length : Int))))) rfl (by decide) (by decide) rfl (fun w => (Step.pure (by kernel_rfl))) ?_
    refine TW.pure (v := (Value.bool (decide ((h.at_ : Int) ≥ (↑l.length : Int))))) rfl (by decide) (by decide) rfl (fun w => (Step.pick (t := false) rfl rfl)) ?_
    refine TW.done (fun w7 M => ?_)
    refine W.cond (t := decide ((h.at_ : Int) ≥ (↑l.length : Int))) rfl (fun h8 => ?_) (fun h8 => ?_)
    ·
      have h8p := of_decide_eq_true h8
      refine W.seq' ?_
      refine W.region rfl ?_
      refine WL.step (v := (Value.bool false)) rfl (Step.assign rfl) ?_
      refine WL.nil ?_
      refine W.ret ?_
      refine ⟨.inl rfl, (Value.bool false), ?_, ?_⟩
      · exact (Res.r1 (show RV _ _ _ (.tmp 4) (Value.bool false) from by exact rfl))
      refine ⟨?_, M.close [1, 2, 3, 4] rfl (by decide) trivial⟩
      refine congrArg Value.bool ?_
      first | exact Eq.symm (rhas_low (by omega)) | exact Eq.symm (rhas_high (by omega)) | exact Eq.symm (rhas_free (by first | assumption | (simp only [Bool.not_eq_false'] at *; assumption))) | exact Eq.symm (rhas_turn (by omega) (by assumption) (by first | assumption | (simp only [Bool.not_eq_true'] at *; assumption)))
    ·
      have h8p := of_decide_eq_false h8
      refine W.skip ?_
      refine W.seq' ?_
      refine W.drawn M [0, 1, 2, 3, 4, 5, 6, 7, 8, 9, 10, 11, 12] [11] [10] [blk b3 (.cells #[(Value.int .i64 h.at_), (Value.int .i64 h.turn)] 29), blk ab (.cells #[i.pv, (Value.map (some i.fb))] 71), own 73 5 i.pv l.length i.cs, setC i.fb i.ks, nodesC i.N i.cs l] [] (List.Sublist.cons_cons _ (List.Sublist.cons_cons _ (List.Sublist.cons_cons _ (List.Sublist.cons_cons _ (List.Sublist.cons_cons _ List.Sublist.slnil))))) (fun _ h => h) Try.mixed (by kernel_rfl) ?_
      refine TW.pure (v := (Value.pointer (some ⟨ab, 0, none⟩))) rfl (by decide) (by decide) rfl (fun w => (Step.move rfl)) ?_
      refine TW.pure (v := (Value.pointer (some ⟨ab, 0, none⟩))) rfl (by decide) (by decide) rfl (fun w => (Step.pure (by kernel_rfl))) ?_
      refine TW.pure (v := (Value.pointer (some ⟨ab, 1, none⟩))) rfl (by decide) (by decide) rfl (fun w => (Step.pure (by kernel_rfl))) ?_
      refine TW.read (v := (Value.map (some i.fb))) rfl (by decide) (by decide) rfl (fun A w M => (Step.load1 Try.sc68 rfl ((M.cell 2 rfl 1).trans rfl))) ?_
      refine TW.pure (v := (Value.pointer (some ⟨b3, 0, none⟩))) rfl (by decide) (by decide) rfl (fun w => (Step.pure (by kernel_rfl))) ?_
      refine TW.read (v := (Value.int .i64 h.at_)) rfl (by decide) (by decide) rfl (fun A w M => (Step.load1 Try.sc3 rfl ((M.cell 1 rfl 0).trans rfl))) ?_
      refine TW.read (v := (Value.tuple #[(Value.agg #[]), (Value.bool (isFree l h.at_))])) rfl (by decide) (by decide) rfl (fun A w M => (Mem.setLook M 4 rfl hK Try.mt68 rfl rfl)) ?_
      refine TW.pure (v := (Value.tuple #[(Value.agg #[]), (Value.bool (isFree l h.at_))])) rfl (by decide) (by decide) rfl (fun w => (Step.move rfl)) ?_
      refine TW.pure (v := (Value.agg #[])) rfl (by decide) (by decide) rfl (fun w => (Step.pure (by kernel_rfl))) ?_
      refine TW.pure (v := (Value.bool (isFree l h.at_))) rfl (by decide) (by decide) rfl (fun w => (Step.pure (by kernel_rfl))) ?_
      refine TW.new (obj := .cells #[] 75) (fun b => .pointer (some ⟨b, 0, none⟩)) rfl (by decide) (by decide) rfl (fun w => Step.alloc Try.el75.zero) (fun b15 => ?_)
      refine TW.store (v := (Value.agg #[])) (cs := []) (c' := #[]) 0 rfl rfl (by decide) rfl Try.el75.sized rfl rfl rfl rfl (Nat.le_of_ble_eq_true rfl) cel_nil rfl rfl (List.Sublist.cons _ (List.Sublist.cons_cons _ (List.Sublist.cons_cons _ (List.Sublist.cons_cons _ (List.Sublist.cons_cons _ (List.Sublist.cons_cons _ List.Sublist.slnil)))))) (fun r h => h) ?_
      refine TW.pure (v := (Value.bool (isFree l h.at_))) rfl (by decide) (by decide) rfl (fun w => (Step.assign rfl)) ?_
      refine TW.done (fun w16 M => ?_)
      refine W.seq' ?_
      rcases Bool.eq_false_or_eq_true (!(isFree l h.at_)) with h17 | h17
      ·
        obtain ⟨cap19, hb18⟩ := SlAt.base (own_slAt (M.chunk 3 rfl).inv) (by omega)
        obtain ⟨p20, hp20⟩ := elem_of_lt (xs := l) (i := h.at_.toNat) (by omega)
        obtain ⟨kv21, dv22, vv23, sl24, sl25, sl26, hc27⟩ := place_cells (M.chunk 5 rfl).inv hp20
        refine W.drawn M [0, 1, 2, 3, 4, 5, 6, 7, 8, 9, 10, 11, 12, 13, 14, 15, 16] [] [] [blk b15 (.cells #[] 75), blk b3 (.cells #[(Value.int .i64 h.at_), (Value.int .i64 h.turn)] 29), blk ab (.cells #[i.pv, (Value.map (some i.fb))] 71), own 73 5 i.pv l.length i.cs, setC i.fb i.ks, nodesC i.N i.cs l] [] (List.Sublist.cons_cons _ (List.Sublist.cons_cons _ (List.Sublist.cons_cons _ (List.Sublist.cons_cons _ (List.Sublist.cons_cons _ (List.Sublist.cons_cons _ List.Sublist.slnil)))))) (fun _ h => h) Try.mixed (by kernel_rfl) ?_
        refine TW.pure (v := (Value.bool (isFree l h.at_))) rfl (by decide) (by decide) rfl (fun w => (Step.move rfl)) ?_
        refine TW.pure (v := (Value.bool true)) rfl (by decide) (by decide) rfl (fun w => (Step.cast (congrArg Value.bool h17) (Step.pure (by kernel_rfl)))) ?_
        refine TW.pure (v := (Value.bool true)) rfl (by decide) (by decide) rfl (fun w => (Step.move rfl)) ?_
        refine TW.pure (v := (Value.pointer (some ⟨ab, 0, none⟩))) rfl (by decide) (by decide) rfl (fun w => (Step.move rfl)) ?_
        refine TW.pure (v := (Value.pointer (some ⟨ab, 0, none⟩))) rfl (by decide) (by decide) rfl (fun w => (Step.pure (by kernel_rfl))) ?_
        refine TW.pure (v := (Value.pointer (some ⟨ab, 0, none⟩))) rfl (by decide) (by decide) rfl (fun w => (Step.pure (by kernel_rfl))) ?_
        refine TW.read (v := i.pv) rfl (by decide) (by decide) rfl (fun A w M => (Step.load1 Try.sc69 rfl ((M.cell 3 rfl 0).trans rfl))) ?_
        refine TW.pure (v := (Value.pointer (some ⟨b3, 0, none⟩))) rfl (by decide) (by decide) rfl (fun w => (Step.pure (by kernel_rfl))) ?_
        refine TW.read (v := (Value.int .i64 h.at_)) rfl (by decide) (by decide) rfl (fun A w M => (Step.load1 Try.sc3 rfl ((M.cell 2 rfl 0).trans rfl))) ?_
        refine TW.pure (v := (Value.pointer (some ⟨(sBlk i.pv), sOff i.pv + h.at_.toNat * 5, none⟩))) rfl (by decide) (by decide) rfl (fun w => (Step.indexAddr (i := h.at_.toNat) (Try.un69).run Try.el73.sized rfl rfl (by omega) hb18 (by omega))) ?_
        refine TW.pure (v := (Value.pointer (some ⟨(sBlk i.pv), sOff i.pv + h.at_.toNat * 5 + 4, none⟩))) rfl (by decide) (by decide) rfl (fun w => (Step.pure (by kernel_rfl))) ?_
        refine TW.read (v := (Value.int .i64 p20.turn)) rfl (by decide) (by decide) rfl (fun A w M => (Step.loadE (k := 4) Try.sc3 (ec_row (own_slAt (M.chunk 4 rfl).inv) hc27 (by omega)) (by decide) rfl rfl)) ?_
        refine TW.pure (v := (Value.pointer (some ⟨b3, 1, none⟩))) rfl (by decide) (by decide) rfl (fun w => (Step.pure (by kernel_rfl))) ?_
        refine TW.read (v := (Value.int .i64 h.turn)) rfl (by decide) (by decide) rfl (fun A w M => (Step.load1 Try.sc3 rfl ((M.cell 2 rfl 1).trans rfl))) ?_
        refine TW.pure (v := (Value.bool ((p20.turn : Int) == (h.turn : Int)))) rfl (by decide) (by decide) rfl (fun w => (Step.pure (by kernel_rfl))) ?_
        refine TW.pure (v := (Value.bool ((p20.turn : Int) == (h.turn : Int)))) rfl (by decide) (by decide) rfl (fun w => (Step.pick (t := true) rfl rfl)) ?_
        refine TW.pure (v := (Value.bool ((p20.turn : Int) == (h.turn : Int)))) rfl (by decide) (by decide) rfl (fun w => (Step.assign rfl)) ?_
        refine TW.done (fun w28 M => ?_)
        refine W.ret ?_
        refine ⟨.inl rfl, (Value.bool ((p20.turn : Int) == (h.turn : Int))), ?_, ?_⟩
        · exact (Res.r1 (show RV _ _ _ (.tmp 4) (Value.bool ((p20.turn : Int) == (h.turn : Int))) from by exact rfl))
        refine ⟨?_, M.close [2, 3, 4, 5] rfl (by decide) trivial⟩
        refine congrArg Value.bool ?_
        first | exact Eq.symm (rhas_low (by omega)) | exact Eq.symm (rhas_high (by omega)) | exact Eq.symm (rhas_free (by first | assumption | (simp only [Bool.not_eq_false'] at *; assumption))) | exact Eq.symm (rhas_turn (by omega) (by assumption) (by first | assumption | (simp only [Bool.not_eq_true'] at *; assumption)))
      ·
        refine W.drawn M [0, 1, 2, 3, 4, 5, 6, 7, 8, 9, 10, 11, 12, 13, 14, 15, 16] [] [] [blk b15 (.cells #[] 75), blk b3 (.cells #[(Value.int .i64 h.at_), (Value.int .i64 h.turn)] 29), blk ab (.cells #[i.pv, (Value.map (some i.fb))] 71), own 73 5 i.pv l.length i.cs, setC i.fb i.ks, nodesC i.N i.cs l] [] (List.Sublist.cons_cons _ (List.Sublist.cons_cons _ (List.Sublist.cons_cons _ (List.Sublist.cons_cons _ (List.Sublist.cons_cons _ (List.Sublist.cons_cons _ List.Sublist.slnil)))))) (fun _ h => h) Try.mixed (by kernel_rfl) ?_
        refine TW.pure (v := (Value.bool (isFree l h.at_))) rfl (by decide) (by decide) rfl (fun w => (Step.move rfl)) ?_
        refine TW.pure (v := (Value.bool false)) rfl (by decide) (by decide) rfl (fun w => (Step.cast (congrArg Value.bool h17) (Step.pure (by kernel_rfl)))) ?_
        refine TW.pure (v := (Value.bool false)) rfl (by decide) (by decide) rfl (fun w => (Step.move rfl)) ?_
        refine TW.skip rfl rfl ?_
        refine TW.skip rfl rfl ?_
        refine TW.skip rfl rfl ?_
        refine TW.skip rfl rfl ?_
        refine TW.skip rfl rfl ?_
        refine TW.skip rfl rfl ?_
        refine TW.skip rfl rfl ?_
        refine TW.skip rfl rfl ?_
        refine TW.skip rfl rfl ?_
        refine TW.skip rfl rfl ?_
        refine TW.skip rfl rfl ?_
        refine TW.skip rfl rfl ?_
        refine TW.pure (v := (Value.bool false)) rfl (by decide) (by decide) rfl (fun w => (Step.pick (t := false) rfl rfl)) ?_
        refine TW.pure (v := (Value.bool false)) rfl (by decide) (by decide) rfl (fun w => (Step.assign rfl)) ?_
        refine TW.done (fun w29 M => ?_)
        refine W.ret ?_
        refine ⟨.inl rfl, (Value.bool false), ?_, ?_⟩
        · exact (Res.r1 (show RV _ _ _ (.tmp 4) (Value.bool false) from by exact rfl))
        refine ⟨?_, M.close [2, 3, 4, 5] rfl (by decide) trivial⟩
        refine congrArg Value.bool ?_
        first | exact Eq.symm (rhas_low (by omega)) | exact Eq.symm (rhas_high (by omega)) | exact Eq.symm (rhas_free (by first | assumption | (simp only [Bool.not_eq_false'] at *; assumption))) | exact Eq.symm (rhas_turn (by omega) (by assumption) (by first | assumption | (simp only [Bool.not_eq_true'] at *; assumption)))

theorem at_hit {G X : Nat → Prop} {w : World} (ab : Nat) (l : List RPlace) (i : ArI) (h : Handle) (hK : FreeOk i.ks l) (hh : rhas l h = true) (M : Mem G X w [blk ab (.cells #[i.pv, (Value.map (some i.fb))] 71), own 73 5 i.pv l.length i.cs, setC i.fb i.ks, nodesC i.N i.cs l] [] w) : Rets Try.prog 30 #[(Value.pointer (some ⟨ab, 0, none⟩)), (Value.agg #[(Value.int .i64 h.at_), (Value.int .i64 h.turn)])] w fun r w' => r = (Value.tuple #[(Value.pointer (some ⟨(sBlk i.pv), sOff i.pv + h.at_.toNat * 5, none⟩)), (Value.int .i64 0)]) ∧ Mem G X w [blk ab (.cells #[i.pv, (Value.map (some i.fb))] 71), own 73 5 i.pv l.length i.cs, setC i.fb i.ks, nodesC i.N i.cs l] [] w' := by
  refine Rets.enter 21 _ Try.func30 rfl Try.ntmps30 Try.results30 (by simp) ?_
  have sl1 : IsSl i.pv := SlAt.isSl (own_slAt (Mem.chunk M 1 rfl).inv)
  have hle2 := SlAt.le' (own_slAt (Mem.chunk M 1 rfl).inv)
  obtain ⟨p, hp, hu, ht, h0, hlt⟩ := rhas_place hh
  refine W.seq' ?_
  refine W.region rfl ?_
  refine WL.box (v := (Value.agg #[(Value.int .i64 h.at_), (Value.int .i64 h.turn)])) (c := #[(Value.int .i64 h.at_), (Value.int .i64 h.turn)]) M rfl rfl rfl (fun b3 w4 hb3 M => ?_)
  refine WL.step (v := (Value.pointer none)) rfl (Step.assign rfl) ?_
  refine WL.step (v := (Value.int .i64 0)) rfl (Step.assign rfl) ?_
  refine WL.nil ?_
  refine W.seq' ?_
  refine W.block ?_
  refine W.seq' ?_
  refine W.region rfl ?_
  refine WL.step (v := (Value.pointer (some ⟨ab, 0, none⟩))) rfl (Step.move rfl) ?_
  refine WL.step (v := (Value.bool false)) rfl (Step.pure (by kernel_rfl)) ?_
  refine WL.step (v := (Value.bool false)) rfl (Step.assign rfl) ?_
  refine WL.nil ?_
  refine W.cond (t := false) rfl (fun h => by cases h) (fun _ => ?_)
  refine W.seq' ?_
  refine W.region rfl ?_
  refine WL.step (v := (Value.pointer (some ⟨ab, 0, none⟩))) rfl (Step.move rfl) ?_
  refine WL.step (v := (Value.agg #[(Value.int .i64 h.at_), (Value.int .i64 h.turn)])) rfl (Step.loadN Try.ag29 rfl (M.blk 0 rfl) (Nat.le_of_ble_eq_true rfl) rfl) ?_
  refine WL.callX rfl (ar_has ab l i h hK (M.enterW (C := [blk ab (.cells #[i.pv, (Value.map (some i.fb))] 71), own 73 5 i.pv l.length i.cs, setC i.fb i.ks, nodesC i.N i.cs l]) (D := [blk b3 (.cells #[(Value.int .i64 h.at_), (Value.int .i64 h.turn)] 29)]) [1, 2, 3, 4, 0] rfl (by decide) trivial)) (CallsF.func Try.en16 rfl) ?_
  rintro _ w5 ⟨rfl, m⟩
  replace M := M.leaveW (C := [blk ab (.cells #[i.pv, (Value.map (some i.fb))] 71), own 73 5 i.pv l.length i.cs, setC i.fb i.ks, nodesC i.N i.cs l]) (D := [blk b3 (.cells #[(Value.int .i64 h.at_), (Value.int .i64 h.turn)] 29)]) [1, 2, 3, 4, 0] rfl (by decide) m
  replace M := M.sel (L' := [blk b3 (.cells #[(Value.int .i64 h.at_), (Value.int .i64 h.turn)] 29), blk ab (.cells #[i.pv, (Value.map (some i.fb))] 71), own 73 5 i.pv l.length i.cs, setC i.fb i.ks, nodesC i.N i.cs l]) [4, 0, 1, 2, 3] rfl (by decide)
  clear m
  replace M : Mem _ _ _ [blk b3 (.cells #[(Value.int .i64 h.at_), (Value.int .i64 h.turn)] 29), blk ab (.cells #[i.pv, (Value.map (some i.fb))] 71), own 73 5 i.pv l.length i.cs, setC i.fb i.ks, nodesC i.N i.cs l] [] _ := M
  rw [hh]
  refine WL.step (v := (Value.bool false)) rfl (Step.pure (by kernel_rfl)) ?_
  refine WL.step (v := (Value.bool false)) rfl (Step.assign rfl) ?_
  refine WL.nil ?_
  refine W.cond (t := false) rfl (fun h => by cases h) (fun _ => ?_)
  refine W.skip ?_
  refine W.seq' ?_
  obtain ⟨cap7, hb6⟩ := SlAt.base (own_slAt (M.chunk 2 rfl).inv) (by omega)
  obtain ⟨kv9, dv10, vv11, sl12, sl13, sl14, hc15⟩ := place_cells (M.chunk 4 rfl).inv hp
  refine W.drawn M [0, 1, 2, 3, 4, 5, 6, 7, 8] [] [] [blk b3 (.cells #[(Value.int .i64 h.at_), (Value.int .i64 h.turn)] 29), blk ab (.cells #[i.pv, (Value.map (some i.fb))] 71), own 73 5 i.pv l.length i.cs, setC i.fb i.ks, nodesC i.N i.cs l] [] (List.Sublist.cons_cons _ (List.Sublist.cons_cons _ (List.Sublist.cons_cons _ (List.Sublist.cons_cons _ (List.Sublist.cons_cons _ List.Sublist.slnil))))) (fun _ h => h) Try.mixed (by kernel_rfl) ?_
  refine TW.pure (v := (Value.pointer (some ⟨ab, 0, none⟩))) rfl (by decide) (by decide) rfl (fun w => (Step.move rfl)) ?_
  refine TW.pure (v := (Value.pointer (some ⟨ab, 0, none⟩))) rfl (by decide) (by decide) rfl (fun w => (Step.pure (by kernel_rfl))) ?_
  refine TW.pure (v := (Value.pointer (some ⟨ab, 0, none⟩))) rfl (by decide) (by decide) rfl (fun w => (Step.pure (by kernel_rfl))) ?_
  refine TW.read (v := i.pv) rfl (by decide) (by decide) rfl (fun A w M => (Step.load1 Try.sc69 rfl ((M.cell 2 rfl 0).trans rfl))) ?_
  refine TW.pure (v := (Value.pointer (some ⟨b3, 0, none⟩))) rfl (by decide) (by decide) rfl (fun w => (Step.pure (by kernel_rfl))) ?_
  refine TW.read (v := (Value.int .i64 h.at_)) rfl (by decide) (by decide) rfl (fun A w M => (Step.load1 Try.sc3 rfl ((M.cell 1 rfl 0).trans rfl))) ?_
  refine TW.pure (v := (Value.pointer (some ⟨(sBlk i.pv), sOff i.pv + h.at_.toNat * 5, none⟩))) rfl (by decide) (by decide) rfl (fun w => (Step.indexAddr (i := h.at_.toNat) (Try.un69).run Try.el73.sized rfl rfl (by omega) hb6 (by omega))) ?_
  refine TW.pure (v := (Value.pointer (some ⟨(sBlk i.pv), sOff i.pv + h.at_.toNat * 5, none⟩))) rfl (by decide) (by decide) rfl (fun w => (Step.assign rfl)) ?_
  refine TW.pure (v := (Value.int .i64 0)) rfl (by decide) (by decide) rfl (fun w => (Step.assign rfl)) ?_
  refine TW.done (fun w16 M => ?_)
  refine W.ret ?_
  refine ⟨.inl rfl, (Value.tuple #[(Value.pointer (some ⟨(sBlk i.pv), sOff i.pv + h.at_.toNat * 5, none⟩)), (Value.int .i64 0)]), ?_, ?_⟩
  · exact (Res.r2 (show RV _ _ _ (.tmp 4) (Value.pointer (some ⟨(sBlk i.pv), sOff i.pv + h.at_.toNat * 5, none⟩)) from by exact rfl) (show RV _ _ _ (.tmp 5) (Value.int .i64 0) from by exact rfl))
  refine ⟨?_, M.close [1, 2, 3, 4] rfl (by decide) trivial⟩
  rfl

theorem at_miss {G X : Nat → Prop} {w : World} (ab : Nat) (l : List RPlace) (i : ArI) (h : Handle) (hK : FreeOk i.ks l) (hh : rhas l h = false) (M : Mem G X w [blk ab (.cells #[i.pv, (Value.map (some i.fb))] 71), own 73 5 i.pv l.length i.cs, setC i.fb i.ks, nodesC i.N i.cs l] [] w) : Rets Try.prog 30 #[(Value.pointer (some ⟨ab, 0, none⟩)), (Value.agg #[(Value.int .i64 h.at_), (Value.int .i64 h.turn)])] w fun r w' => r = (Value.tuple #[(Value.pointer none), (Value.int .i64 110)]) ∧ Mem G X w [blk ab (.cells #[i.pv, (Value.map (some i.fb))] 71), own 73 5 i.pv l.length i.cs, setC i.fb i.ks, nodesC i.N i.cs l] [] w' := by
  refine Rets.enter 21 _ Try.func30 rfl Try.ntmps30 Try.results30 (by simp) ?_
  have sl1 : IsSl i.pv := SlAt.isSl (own_slAt (Mem.chunk M 1 rfl).inv)
  have hle2 := SlAt.le' (own_slAt (Mem.chunk M 1 rfl).inv)
  refine W.seq' ?_
  refine W.region rfl ?_
  refine WL.box (v := (Value.agg #[(Value.int .i64 h.at_), (Value.int .i64 h.turn)])) (c := #[(Value.int .i64 h.at_), (Value.int .i64 h.turn)]) M rfl rfl rfl (fun b3 w4 hb3 M => ?_)
  refine WL.step (v := (Value.pointer none)) rfl (Step.assign rfl) ?_
  refine WL.step (v := (Value.int .i64 0)) rfl (Step.assign rfl) ?_
  refine WL.nil ?_
  refine W.seq' ?_
  refine W.block ?_
  refine W.seq' ?_
  refine W.region rfl ?_
  refine WL.step (v := (Value.pointer (some ⟨ab, 0, none⟩))) rfl (Step.move rfl) ?_
  refine WL.step (v := (Value.bool false)) rfl (Step.pure (by kernel_rfl)) ?_
  refine WL.step (v := (Value.bool false)) rfl (Step.assign rfl) ?_
  refine WL.nil ?_
  refine W.cond (t := false) rfl (fun h => by cases h) (fun _ => ?_)
  refine W.seq' ?_
  refine W.region rfl ?_
  refine WL.step (v := (Value.pointer (some ⟨ab, 0, none⟩))) rfl (Step.move rfl) ?_
  refine WL.step (v := (Value.agg #[(Value.int .i64 h.at_), (Value.int .i64 h.turn)])) rfl (Step.loadN Try.ag29 rfl (M.blk 0 rfl) (Nat.le_of_ble_eq_true rfl) rfl) ?_
  refine WL.callX rfl (ar_has ab l i h hK (M.enterW (C := [blk ab (.cells #[i.pv, (Value.map (some i.fb))] 71), own 73 5 i.pv l.length i.cs, setC i.fb i.ks, nodesC i.N i.cs l]) (D := [blk b3 (.cells #[(Value.int .i64 h.at_), (Value.int .i64 h.turn)] 29)]) [1, 2, 3, 4, 0] rfl (by decide) trivial)) (CallsF.func Try.en16 rfl) ?_
  rintro _ w5 ⟨rfl, m⟩
  replace M := M.leaveW (C := [blk ab (.cells #[i.pv, (Value.map (some i.fb))] 71), own 73 5 i.pv l.length i.cs, setC i.fb i.ks, nodesC i.N i.cs l]) (D := [blk b3 (.cells #[(Value.int .i64 h.at_), (Value.int .i64 h.turn)] 29)]) [1, 2, 3, 4, 0] rfl (by decide) m
  replace M := M.sel (L' := [blk b3 (.cells #[(Value.int .i64 h.at_), (Value.int .i64 h.turn)] 29), blk ab (.cells #[i.pv, (Value.map (some i.fb))] 71), own 73 5 i.pv l.length i.cs, setC i.fb i.ks, nodesC i.N i.cs l]) [4, 0, 1, 2, 3] rfl (by decide)
  clear m
  replace M : Mem _ _ _ [blk b3 (.cells #[(Value.int .i64 h.at_), (Value.int .i64 h.turn)] 29), blk ab (.cells #[i.pv, (Value.map (some i.fb))] 71), own 73 5 i.pv l.length i.cs, setC i.fb i.ks, nodesC i.N i.cs l] [] _ := M
  rw [hh]
  refine WL.step (v := (Value.bool true)) rfl (Step.pure (by kernel_rfl)) ?_
  refine WL.step (v := (Value.bool true)) rfl (Step.assign rfl) ?_
  refine WL.nil ?_
  refine W.cond (t := true) rfl (fun _ => ?_) (fun h => by cases h)
  refine W.seq' ?_
  refine W.region rfl ?_
  refine WL.step (v := (Value.pointer none)) rfl (Step.assign rfl) ?_
  refine WL.step (v := (Value.int .i64 110)) rfl (Step.assign rfl) ?_
  refine WL.nil ?_
  refine W.ret ?_
  refine ⟨.inl rfl, (Value.tuple #[(Value.pointer none), (Value.int .i64 110)]), ?_, ?_⟩
  · exact (Res.r2 (show RV _ _ _ (.tmp 4) (Value.pointer none) from by exact rfl) (show RV _ _ _ (.tmp 5) (Value.int .i64 110) from by exact rfl))
  refine ⟨?_, M.close [1, 2, 3, 4] rfl (by decide) trivial⟩
  rfl

theorem at_nil {G : Nat → Prop} {w : World} (h : Handle)  (M : Mem G (fun _ => False) w [] [] w) : Rets Try.prog 30 #[(Value.pointer none), (Value.agg #[(Value.int .i64 h.at_), (Value.int .i64 h.turn)])] w fun r w' => r = (Value.tuple #[(Value.pointer none), (Value.int .i64 1)]) ∧ Mem G (fun _ => False) w [] [] w' := by
  refine Rets.enter 21 _ Try.func30 rfl Try.ntmps30 Try.results30 (by simp) ?_
  refine W.seq' ?_
  refine W.region rfl ?_
  refine WL.box (v := (Value.agg #[(Value.int .i64 h.at_), (Value.int .i64 h.turn)])) (c := #[(Value.int .i64 h.at_), (Value.int .i64 h.turn)]) M rfl rfl rfl (fun b1 w2 hb1 M => ?_)
  refine WL.step (v := (Value.pointer none)) rfl (Step.assign rfl) ?_
  refine WL.step (v := (Value.int .i64 0)) rfl (Step.assign rfl) ?_
  refine WL.nil ?_
  refine W.seq' ?_
  refine W.block ?_
  refine W.seq' ?_
  refine W.region rfl ?_
  refine WL.step (v := (Value.pointer none)) rfl (Step.move rfl) ?_
  refine WL.step (v := (Value.bool true)) rfl (Step.pure (by kernel_rfl)) ?_
  refine WL.step (v := (Value.bool true)) rfl (Step.assign rfl) ?_
  refine WL.nil ?_
  refine W.cond (t := true) rfl (fun _ => ?_) (fun h => by cases h)
  refine W.seq' ?_
  refine W.region rfl ?_
  refine WL.step (v := (Value.pointer none)) rfl (Step.assign rfl) ?_
  refine WL.step (v := (Value.int .i64 1)) rfl (Step.assign rfl) ?_
  refine WL.nil ?_
  refine W.ret ?_
  refine ⟨.inl rfl, (Value.tuple #[(Value.pointer none), (Value.int .i64 1)]), ?_, ?_⟩
  · exact (Res.r2 (show RV _ _ _ (.tmp 4) (Value.pointer none) from by exact rfl) (show RV _ _ _ (.tmp 5) (Value.int .i64 1) from by exact rfl))
  refine ⟨?_, M.close [] rfl (by decide) trivial⟩
  rfl

theorem has_nil {G : Nat → Prop} {w : World} (h : Handle)  (M : Mem G (fun _ => False) w [] [] w) : Rets Try.prog 16 #[(Value.pointer none), (Value.agg #[(Value.int .i64 h.at_), (Value.int .i64 h.turn)])] w fun r w' => r = (Value.bool false) ∧ Mem G (fun _ => False) w [] [] w' := by
  refine Rets.enter 50 _ Try.func16 rfl Try.ntmps16 Try.results16 (by simp) ?_
  refine W.seq' ?_
  refine W.region rfl ?_
  refine WL.box (v := (Value.agg #[(Value.int .i64 h.at_), (Value.int .i64 h.turn)])) (c := #[(Value.int .i64 h.at_), (Value.int .i64 h.turn)]) M rfl rfl rfl (fun b1 w2 hb1 M => ?_)
  refine WL.step (v := (Value.bool false)) rfl (Step.assign rfl) ?_
  refine WL.nil ?_
  refine W.seq' ?_
  refine W.seq' ?_
  refine W.drawn M [0, 1, 2, 3, 4, 5, 6, 7, 8, 9, 10, 11, 12, 13, 14, 15, 16] [] [] [blk b1 (.cells #[(Value.int .i64 h.at_), (Value.int .i64 h.turn)] 29)] [] (List.Sublist.cons_cons _ List.Sublist.slnil) (fun _ h => h) Try.mixed (by kernel_rfl) ?_
  refine TW.pure (v := (Value.pointer none)) rfl (by decide) (by decide) rfl (fun w => (Step.move rfl)) ?_
  refine TW.pure (v := (Value.bool true)) rfl (by decide) (by decide) rfl (fun w => (Step.pure (by kernel_rfl))) ?_
  refine TW.pure (v := (Value.bool true)) rfl (by decide) (by decide) rfl (fun w => (Step.move rfl)) ?_
  refine TW.skip rfl rfl ?_
  refine TW.skip rfl rfl ?_
  refine TW.skip rfl rfl ?_
  refine TW.pure (v := (Value.bool true)) rfl (by decide) (by decide) rfl (fun w => (Step.pick (t := true) rfl rfl)) ?_
  refine TW.pure (v := (Value.bool true)) rfl (by decide) (by decide) rfl (fun w => (Step.move rfl)) ?_
  refine TW.skip rfl rfl ?_
  refine TW.skip rfl rfl ?_
  refine TW.skip rfl rfl ?_
  refine TW.skip rfl rfl ?_
  refine TW.skip rfl rfl ?_
  refine TW.skip rfl rfl ?_
  refine TW.skip rfl rfl ?_
  refine TW.skip rfl rfl ?_
  refine TW.pure (v := (Value.bool true)) rfl (by decide) (by decide) rfl (fun w => (Step.pick (t := true) rfl rfl)) ?_
  refine TW.done (fun w3 M => ?_)
  refine W.cond (t := true) rfl (fun _ => ?_) (fun h => by cases h)
  refine W.seq' ?_
  refine W.region rfl ?_
  refine WL.step (v := (Value.bool false)) rfl (Step.assign rfl) ?_
  refine WL.nil ?_
  refine W.ret ?_
  refine ⟨.inl rfl, (Value.bool false), ?_, ?_⟩
  · exact (Res.r1 (show RV _ _ _ (.tmp 4) (Value.bool false) from by exact rfl))
  refine ⟨?_, M.close [] rfl (by decide) trivial⟩
  rfl

theorem ar_least {G X : Nat → Prop} {w : World} (ab : Nat) (l : List RPlace) (i : ArI) (hK : FreeOk i.ks l) (M : Mem G X w [blk ab (.cells #[i.pv, (Value.map (some i.fb))] 71), own 73 5 i.pv l.length i.cs, setC i.fb i.ks, nodesC i.N i.cs l] [] w) : Rets Try.prog 28 #[(Value.pointer (some ⟨ab, 0, none⟩))] w fun r w' => r = (Value.int .i64 (↑(leastF l))) ∧ Mem G X w [blk ab (.cells #[i.pv, (Value.map (some i.fb))] 71), own 73 5 i.pv l.length i.cs, setC i.fb i.ks, nodesC i.N i.cs l] [] w' := by
  refine Rets.enter 31 _ Try.func28 rfl Try.ntmps28 Try.results28 (by simp) ?_
  have sl1 : IsSl i.pv := SlAt.isSl (own_slAt (Mem.chunk M 1 rfl).inv)
  have hle2 := SlAt.le' (own_slAt (Mem.chunk M 1 rfl).inv)
  refine W.seq' ?_
  refine W.region rfl ?_
  refine WL.step (v := (Value.int .i64 0)) rfl (Step.assign rfl) ?_
  refine WL.nil ?_
  refine W.seq' ?_
  refine W.seq' ?_
  refine W.region rfl ?_
  refine WL.step (v := (Value.pointer (some ⟨ab, 0, none⟩))) rfl (Step.move rfl) ?_
  refine WL.step (v := (Value.pointer (some ⟨ab, 0, none⟩))) rfl (Step.pure (by kernel_rfl)) ?_
  refine WL.step (v := (Value.pointer (some ⟨ab, 0, none⟩))) rfl (Step.pure (by kernel_rfl)) ?_
  refine WL.step (v := i.pv) rfl (Step.load1 Try.sc69 rfl ((M.cell 0 rfl 0).trans rfl)) ?_
  refine WL.step (v := (Value.int .i64 ↑l.length)) rfl (Step.lenSl Try.un69 rfl (own_slAt (M.chunk 1 rfl).inv)) ?_
  refine WL.step (v := (Value.int .i64 0)) rfl (Step.move rfl) ?_
  refine WL.nil ?_
  refine W.block ?_
  refine W.loop (fun kk ρ w' => ∃ (i_ : Nat), ((i_ ≤ l.length) ∧ (∀ j : Nat, j < i_ → isFree l (j : Int) = false) ∧ kk = l.length - i_) ∧ ρ.has [(0, (Value.pointer (some ⟨ab, 0, none⟩))), (10, (Value.int .i64 ↑l.length)), (11, (Value.int .i64 ↑i_))] ∧ Mem G X w [blk ab (.cells #[i.pv, (Value.map (some i.fb))] 71), own 73 5 i.pv l.length i.cs, setC i.fb i.ks, nodesC i.N i.cs l] []  w') _ ⟨0, ⟨(Nat.zero_le _), (fun _ h => absurd h (Nat.not_lt_zero _)), rfl⟩, ⟨rfl, rfl, rfl, trivial⟩, M⟩ ?_
  rintro _ ρ4 w3 ⟨i_, ⟨hi5, hi6, rfl⟩, hρ, M⟩
  obtain ⟨ρ4, rfl⟩ := hρ.know
  clear hρ
  refine W.seq' ?_
  refine W.region rfl ?_
  refine WL.step (v := (Value.bool (decide ((↑i_ : Int) < (↑l.length : Int))))) rfl (Step.pure (by kernel_rfl)) ?_
  refine WL.nil ?_
  refine W.seq' ?_
  refine W.cond (t := decide ((↑i_ : Int) < (↑l.length : Int))) rfl (fun h7 => ?_) (fun h7 => ?_)
  ·
    have h7p := of_decide_eq_true h7
    refine W.skip ?_
    refine W.seq' ?_
    refine W.block ?_
    refine W.seq' ?_
    refine W.region rfl ?_
    refine WL.step (v := (Value.int .i64 ↑i_)) rfl (Step.move rfl) ?_
    refine WL.step (v := (Value.int .i64 ↑i_)) rfl (Step.assign rfl) ?_
    refine WL.nil ?_
    refine W.seq' ?_
    refine W.region rfl ?_
    refine WL.step (v := (Value.pointer (some ⟨ab, 0, none⟩))) rfl (Step.move rfl) ?_
    refine WL.step (v := (Value.pointer (some ⟨ab, 0, none⟩))) rfl (Step.pure (by kernel_rfl)) ?_
    refine WL.step (v := (Value.pointer (some ⟨ab, 1, none⟩))) rfl (Step.pure (by kernel_rfl)) ?_
    refine WL.step (v := (Value.map (some i.fb))) rfl (Step.load1 Try.sc68 rfl ((M.cell 0 rfl 1).trans rfl)) ?_
    refine WL.step (v := (Value.int .i64 ↑i_)) rfl (Step.move rfl) ?_
    refine WL.step (v := (Value.tuple #[(Value.agg #[]), (Value.bool (isFree l ↑i_))])) rfl (Mem.setLook M 2 rfl hK Try.mt68 rfl rfl) ?_
    refine WL.step (v := (Value.tuple #[(Value.agg #[]), (Value.bool (isFree l ↑i_))])) rfl (Step.move rfl) ?_
    refine WL.step (v := (Value.agg #[])) rfl (Step.pure (by kernel_rfl)) ?_
    refine WL.step (v := (Value.bool (isFree l ↑i_))) rfl (Step.pure (by kernel_rfl)) ?_
    refine WL.alloc (c := #[]) M rfl Try.el75.zero rfl (fun b8 w9 hb8 M => ?_)
    refine WL.store (v := (Value.agg #[])) (cs := []) (c' := #[]) M 0 rfl rfl Try.el75.sized rfl rfl rfl rfl (Nat.le_of_ble_eq_true rfl) cel_nil rfl rfl (fun w10 M => ?_)
    refine WL.step (v := (Value.bool (isFree l ↑i_))) rfl (Step.assign rfl) ?_
    refine WL.nil ?_
    refine W.seq' ?_
    refine W.region rfl ?_
    refine WL.step (v := (Value.bool (isFree l ↑i_))) rfl (Step.move rfl) ?_
    refine WL.nil ?_
    refine W.cond (t := isFree l ↑i_) rfl (fun h11 => ?_) (fun h11 => ?_)
    ·
      refine W.seq' ?_
      refine W.region rfl ?_
      refine WL.step (v := (Value.int .i64 ↑i_)) rfl (Step.move rfl) ?_
      refine WL.step (v := (Value.int .i64 ↑i_)) rfl (Step.assign rfl) ?_
      refine WL.nil ?_
      refine W.ret ?_
      refine ⟨.inl rfl, (Value.int .i64 ↑i_), ?_, ?_⟩
      · exact (Res.r1 (show RV _ _ _ (.tmp 2) (Value.int .i64 ↑i_) from by exact rfl))
      refine ⟨?_, M.close [1, 2, 3, 4] rfl (by decide) trivial⟩
      refine congrArg (Value.int .i64) ?_
      rw [leastF_hit (by omega) (by assumption) hi6]
    ·
      refine W.skip ?_
      refine W.region rfl ?_
      refine WL.step (v := (Value.int .i64 (↑i_ + 1))) rfl (Step.add rfl rfl (wrap_i64 (by omega))) ?_
      refine WL.step (v := (Value.int .i64 (↑i_ + 1))) rfl (Step.move rfl) ?_
      refine WL.nil ?_
      have hs : ∀ j : Nat, j < i_ + 1 → isFree l (j : Int) = false := fun j hj => (Nat.lt_succ_iff_lt_or_eq.1 hj).elim (hi6 j) fun e => by subst e; assumption
      replace M := M.sel (L' := [blk ab (.cells #[i.pv, (Value.map (some i.fb))] 71), own 73 5 i.pv l.length i.cs, setC i.fb i.ks, nodesC i.N i.cs l]) [1, 2, 3, 4] rfl (by decide)
      exact ⟨_, (by omega), i_ + 1, ⟨(by omega), hs, rfl⟩, ⟨rfl, rfl, rfl, trivial⟩, M⟩
  ·
    have h7p := of_decide_eq_false h7
    refine W.exit ?_
    refine thn_exit ?_
    refine thn_exit ?_
    refine inBlk_hit ?_
    refine W.seq' ?_
    refine W.region rfl ?_
    refine WL.step (v := (Value.pointer (some ⟨ab, 0, none⟩))) rfl (Step.move rfl) ?_
    refine WL.step (v := (Value.pointer (some ⟨ab, 0, none⟩))) rfl (Step.pure (by kernel_rfl)) ?_
    refine WL.step (v := (Value.pointer (some ⟨ab, 0, none⟩))) rfl (Step.pure (by kernel_rfl)) ?_
    refine WL.step (v := i.pv) rfl (Step.load1 Try.sc69 rfl ((M.cell 0 rfl 0).trans rfl)) ?_
    refine WL.step (v := (Value.int .i64 ↑l.length)) rfl (Step.lenSl Try.un69 rfl (own_slAt (M.chunk 1 rfl).inv)) ?_
    refine WL.step (v := (Value.int .i64 ↑l.length)) rfl (Step.assign rfl) ?_
    refine WL.nil ?_
    refine W.ret ?_
    refine ⟨.inl rfl, (Value.int .i64 ↑l.length), ?_, ?_⟩
    · exact (Res.r1 (show RV _ _ _ (.tmp 2) (Value.int .i64 ↑l.length) from by exact rfl))
    refine ⟨?_, M.close [0, 1, 2, 3] rfl (by decide) trivial⟩
    refine congrArg (Value.int .i64) ?_
    rw [leastF_all hi6 (by omega)]

theorem ar_get {G X : Nat → Prop} {w : World} (ab : Nat) (l : List RPlace) (S : Nat → Prop) (h : Handle) (hA : SmallA l) (M : Mem G X w [arenaC 71 73 S ab l] [] w) : Rets Try.prog 14 #[(Value.pointer (some ⟨ab, 0, none⟩)), (Value.agg #[(Value.int .i64 h.at_), (Value.int .i64 h.turn)])] w fun r w' => ∃ (kv' : Value) (dv' : Value) (vv' : Value), r = (Value.tuple #[(Value.agg #[(Value.bool (((rget l h).1).leaf)), kv', dv', vv']), (Value.int .i64 ((rget l h).2))]) ∧ Mem G X w [arenaC 71 73 S ab l, own 9 1 kv' ((((rget l h).1).keys).length) ((((rget l h).1).keys).flatMap strE), own 29 2 dv' ((((rget l h).1).kids).length) ((((rget l h).1).kids).flatMap handleE), own 3 1 vv' ((((rget l h).1).vals).length) ((((rget l h).1).vals).flatMap intE)] [] w' := by
  refine Rets.enter 23 _ Try.func14 rfl Try.ntmps14 Try.results14 (by simp) ?_
  obtain ⟨⟨pv, fb, cs, ks, N⟩, hK, hS, M⟩ := M.unpack
  replace hK : FreeOk ks l := hK
  have hcl := (M.chunk 1 rfl).inv.1
  simp only at hcl
  replace M : Mem _ _ _ [blk ab (.cells #[pv, (Value.map (some fb))] 71), own 73 5 pv l.length cs, setC fb ks, nodesC N cs l] [] _ := M
  have sl1 : IsSl pv := SlAt.isSl (own_slAt (Mem.chunk M 1 rfl).inv)
  have hle2 := SlAt.le' (own_slAt (Mem.chunk M 1 rfl).inv)
  rcases Bool.eq_false_or_eq_true (rhas l h) with hh | hh
  ·
    obtain ⟨p, hp, hu, ht, h0, hlt⟩ := rhas_place hh
    obtain ⟨_, _, hs1, hs2, hs3⟩ := hA.2 _ _ hp
    refine W.seq' ?_
    refine W.region rfl ?_
    refine WL.box (v := (Value.agg #[(Value.int .i64 h.at_), (Value.int .i64 h.turn)])) (c := #[(Value.int .i64 h.at_), (Value.int .i64 h.turn)]) M rfl rfl rfl (fun b3 w4 hb3 M => ?_)
    refine WL.alloc (c := #[(Value.bool false), (Value.slice none 0 0), (Value.slice none 0 0), (Value.slice none 0 0)]) M rfl Try.el36.zero rfl (fun b5 w6 hb5 M => ?_)
    refine WL.step (v := (Value.int .i64 0)) rfl (Step.assign rfl) ?_
    refine WL.nil ?_
    refine W.seq' ?_
    refine W.region rfl ?_
    refine WL.step (v := (Value.pointer (some ⟨ab, 0, none⟩))) rfl (Step.move rfl) ?_
    refine WL.step (v := (Value.agg #[(Value.int .i64 h.at_), (Value.int .i64 h.turn)])) rfl (Step.loadN Try.ag29 rfl (M.blk 1 rfl) (Nat.le_of_ble_eq_true rfl) rfl) ?_
    refine WL.callX rfl (at_hit ab l (⟨pv, fb, cs, ks, N⟩ : ArI) h hK hh (M.enterW (C := [blk ab (.cells #[pv, (Value.map (some fb))] 71), own 73 5 pv l.length cs, setC fb ks, nodesC N cs l]) (D := [blk b5 (.cells #[(Value.bool false), (Value.slice none 0 0), (Value.slice none 0 0), (Value.slice none 0 0)] 36), blk b3 (.cells #[(Value.int .i64 h.at_), (Value.int .i64 h.turn)] 29)]) [2, 3, 4, 5, 0, 1] rfl (by decide) trivial)) (CallsF.func Try.en30 rfl) ?_
    rintro _ w7 ⟨rfl, m⟩
    replace M := M.leaveW (C := [blk ab (.cells #[pv, (Value.map (some fb))] 71), own 73 5 pv l.length cs, setC fb ks, nodesC N cs l]) (D := [blk b5 (.cells #[(Value.bool false), (Value.slice none 0 0), (Value.slice none 0 0), (Value.slice none 0 0)] 36), blk b3 (.cells #[(Value.int .i64 h.at_), (Value.int .i64 h.turn)] 29)]) [2, 3, 4, 5, 0, 1] rfl (by decide) m
    replace M := M.sel (L' := [blk b5 (.cells #[(Value.bool false), (Value.slice none 0 0), (Value.slice none 0 0), (Value.slice none 0 0)] 36), blk b3 (.cells #[(Value.int .i64 h.at_), (Value.int .i64 h.turn)] 29), blk ab (.cells #[pv, (Value.map (some fb))] 71), own 73 5 pv l.length cs, setC fb ks, nodesC N cs l]) [4, 5, 0, 1, 2, 3] rfl (by decide)
    clear m
    replace M : Mem _ _ _ [blk b5 (.cells #[(Value.bool false), (Value.slice none 0 0), (Value.slice none 0 0), (Value.slice none 0 0)] 36), blk b3 (.cells #[(Value.int .i64 h.at_), (Value.int .i64 h.turn)] 29), blk ab (.cells #[pv, (Value.map (some fb))] 71), own 73 5 pv l.length cs, setC fb ks, nodesC N cs l] [] _ := M
    refine WL.step (v := (Value.tuple #[(Value.pointer (some ⟨(sBlk pv), sOff pv + h.at_.toNat * 5, none⟩)), (Value.int .i64 0)])) rfl (Step.move rfl) ?_
    refine WL.step (v := (Value.pointer (some ⟨(sBlk pv), sOff pv + h.at_.toNat * 5, none⟩))) rfl (Step.pure (by kernel_rfl)) ?_
    refine WL.step (v := (Value.int .i64 0)) rfl (Step.pure (by kernel_rfl)) ?_
    refine WL.step (v := (Value.pointer (some ⟨(sBlk pv), sOff pv + h.at_.toNat * 5, none⟩))) rfl (Step.assign rfl) ?_
    refine WL.step (v := (Value.int .i64 0)) rfl (Step.assign rfl) ?_
    refine WL.nil ?_
    refine W.seq' ?_
    refine W.seq' ?_
    refine W.region rfl ?_
    refine WL.step (v := (Value.int .i64 0)) rfl (Step.move rfl) ?_
    refine WL.step (v := (Value.bool false)) rfl (Step.pure (by kernel_rfl)) ?_
    refine WL.nil ?_
    refine W.cond (t := false) rfl (fun h => by cases h) (fun _ => ?_)
    refine W.skip ?_
    refine W.seq' ?_
    refine W.region rfl ?_
    refine WL.step (v := (Value.pointer (some ⟨(sBlk pv), sOff pv + h.at_.toNat * 5, none⟩))) rfl (Step.move rfl) ?_
    refine WL.step (v := (Value.pointer (some ⟨(sBlk pv), sOff pv + h.at_.toNat * 5, none⟩))) rfl (Step.pure (by kernel_rfl)) ?_
    refine WL.step (v := (Value.pointer (some ⟨(sBlk pv), sOff pv + h.at_.toNat * 5, none⟩))) rfl (Step.pure (by kernel_rfl)) ?_
    obtain ⟨kv9, dv10, vv11, sl12, sl13, sl14, hc15⟩ := place_cells (M.chunk 5 rfl).inv hp
    refine WL.step (v := (Value.agg #[(Value.bool p.node.leaf), kv9, dv10, vv11])) rfl (Step.loadEN (k := 0) (cs' := [(Value.bool p.node.leaf), kv9, dv10, vv11]) Try.ag36 (ec_row (own_slAt (M.chunk 3 rfl).inv) hc15 (by omega)) (by decide) rfl rfl rfl) ?_
    refine WL.callX rfl (copied kv9 dv10 vv11 p.node (by first | omega | (simp only [List.length_nil, List.length_cons]; omega) | decide) (by first | omega | (simp only [List.length_nil, List.length_cons]; omega) | decide) (by first | omega | (simp only [List.length_nil, List.length_cons]; omega) | decide) (M.enterW0 ⟨((M.wideC0 5 rfl).imp fun _ h => (place_node h hp hc15).1), ((M.wideC0 5 rfl).imp fun _ h => (place_node h hp hc15).2.1), ((M.wideC0 5 rfl).imp fun _ h => (place_node h hp hc15).2.2), trivial⟩)) (CallsF.func Try.en29 rfl) ?_
    rintro _ w19 ⟨kv16, dv17, vv18, rfl, m⟩
    replace M := M.leaveW0 m
    clear m
    replace M : Mem _ _ _ [own 9 1 kv16 p.node.keys.length (p.node.keys.flatMap strE), own 29 2 dv17 p.node.kids.length (p.node.kids.flatMap handleE), own 3 1 vv18 p.node.vals.length (p.node.vals.flatMap intE), blk b5 (.cells #[(Value.bool false), (Value.slice none 0 0), (Value.slice none 0 0), (Value.slice none 0 0)] 36), blk b3 (.cells #[(Value.int .i64 h.at_), (Value.int .i64 h.turn)] 29), blk ab (.cells #[pv, (Value.map (some fb))] 71), own 73 5 pv l.length cs, setC fb ks, nodesC N cs l] [] _ := M
    have sl20 : IsSl kv16 := SlAt.isSl (own_slAt (Mem.chunk M 0 rfl).inv)
    have hle21 := SlAt.le' (own_slAt (Mem.chunk M 0 rfl).inv)
    have sl22 : IsSl dv17 := SlAt.isSl (own_slAt (Mem.chunk M 1 rfl).inv)
    have hle23 := SlAt.le' (own_slAt (Mem.chunk M 1 rfl).inv)
    have sl24 : IsSl vv18 := SlAt.isSl (own_slAt (Mem.chunk M 2 rfl).inv)
    have hle25 := SlAt.le' (own_slAt (Mem.chunk M 2 rfl).inv)
    refine WL.store (v := (Value.agg #[(Value.bool p.node.leaf), kv16, dv17, vv18])) (cs := [(Value.bool p.node.leaf), kv16, dv17, vv18]) (c' := #[(Value.bool p.node.leaf), kv16, dv17, vv18]) M 3 rfl rfl Try.el36.sized rfl rfl rfl rfl (Nat.le_of_ble_eq_true rfl) (cel_cons rfl (cel_cons (IsSl.cel sl20) (cel_cons (IsSl.cel sl22) (cel_cons (IsSl.cel sl24) cel_nil)))) rfl rfl (fun w26 M => ?_)
    refine WL.step (v := (Value.int .i64 0)) rfl (Step.assign rfl) ?_
    refine WL.nil ?_
    refine W.ret ?_
    refine ⟨.inl rfl, (Value.tuple #[(Value.agg #[(Value.bool p.node.leaf), kv16, dv17, vv18]), (Value.int .i64 0)]), ?_, ?_⟩
    · exact (Res.r2 (RV.cellN Try.ag36 rfl (M.blk 3 rfl) rfl) (show RV _ _ _ (.tmp 5) (Value.int .i64 0) from by exact rfl))
    replace M := M.sel (L' := [blk ab (.cells #[pv, (Value.map (some fb))] 71), own 73 5 pv l.length cs, setC fb ks, nodesC N cs l, own 9 1 kv16 p.node.keys.length (p.node.keys.flatMap strE), own 29 2 dv17 p.node.kids.length (p.node.kids.flatMap handleE), own 3 1 vv18 p.node.vals.length (p.node.vals.flatMap intE), blk b5 (.cells #[(Value.bool p.node.leaf), kv16, dv17, vv18] 36), blk b3 (.cells #[(Value.int .i64 h.at_), (Value.int .i64 h.turn)] 29)]) [5, 6, 7, 8, 0, 1, 2, 3, 4] rfl (by decide)
    replace M := Mem.pack (Ls := arenaL 71 73 ab l) (p := fun i => FreeOk i.ks l) (⟨pv, fb, cs, ks, N⟩ : ArI) M hK
    rw [← hS] at M
    replace M : Mem _ _ _ [arenaC 71 73 S ab l, own 9 1 kv16 p.node.keys.length (p.node.keys.flatMap strE), own 29 2 dv17 p.node.kids.length (p.node.kids.flatMap handleE), own 3 1 vv18 p.node.vals.length (p.node.vals.flatMap intE), blk b5 (.cells #[(Value.bool p.node.leaf), kv16, dv17, vv18] 36), blk b3 (.cells #[(Value.int .i64 h.at_), (Value.int .i64 h.turn)] 29)] [] _ := M
    have e27 : ((rget l h).1).keys = p.node.keys := by
      first | (rw [rget_hit hh hp]) | (rw [rget_miss hh]) | (simp [rget_miss hh, ndZero])
      try rfl
    replace M := M.rechunk 1 (c' := own 9 1 kv16 ((((rget l h).1).keys).length) ((((rget l h).1).keys).flatMap strE)) rfl (congrArg (fun z => own 9 1 kv16 z.length (z.flatMap strE)) e27.symm)
    replace M : Mem _ _ _ [arenaC 71 73 S ab l, own 9 1 kv16 ((((rget l h).1).keys).length) ((((rget l h).1).keys).flatMap strE), own 29 2 dv17 p.node.kids.length (p.node.kids.flatMap handleE), own 3 1 vv18 p.node.vals.length (p.node.vals.flatMap intE), blk b5 (.cells #[(Value.bool p.node.leaf), kv16, dv17, vv18] 36), blk b3 (.cells #[(Value.int .i64 h.at_), (Value.int .i64 h.turn)] 29)] [] _ := M
    have e28 : ((rget l h).1).kids = p.node.kids := by
      first | (rw [rget_hit hh hp]) | (rw [rget_miss hh]) | (simp [rget_miss hh, ndZero])
      try rfl
    replace M := M.rechunk 2 (c' := own 29 2 dv17 ((((rget l h).1).kids).length) ((((rget l h).1).kids).flatMap handleE)) rfl (congrArg (fun z => own 29 2 dv17 z.length (z.flatMap handleE)) e28.symm)
    replace M : Mem _ _ _ [arenaC 71 73 S ab l, own 9 1 kv16 ((((rget l h).1).keys).length) ((((rget l h).1).keys).flatMap strE), own 29 2 dv17 ((((rget l h).1).kids).length) ((((rget l h).1).kids).flatMap handleE), own 3 1 vv18 p.node.vals.length (p.node.vals.flatMap intE), blk b5 (.cells #[(Value.bool p.node.leaf), kv16, dv17, vv18] 36), blk b3 (.cells #[(Value.int .i64 h.at_), (Value.int .i64 h.turn)] 29)] [] _ := M
    have e29 : ((rget l h).1).vals = p.node.vals := by
      first | (rw [rget_hit hh hp]) | (rw [rget_miss hh]) | (simp [rget_miss hh, ndZero])
      try rfl
    replace M := M.rechunk 3 (c' := own 3 1 vv18 ((((rget l h).1).vals).length) ((((rget l h).1).vals).flatMap intE)) rfl (congrArg (fun z => own 3 1 vv18 z.length (z.flatMap intE)) e29.symm)
    replace M : Mem _ _ _ [arenaC 71 73 S ab l, own 9 1 kv16 ((((rget l h).1).keys).length) ((((rget l h).1).keys).flatMap strE), own 29 2 dv17 ((((rget l h).1).kids).length) ((((rget l h).1).kids).flatMap handleE), own 3 1 vv18 ((((rget l h).1).vals).length) ((((rget l h).1).vals).flatMap intE), blk b5 (.cells #[(Value.bool p.node.leaf), kv16, dv17, vv18] 36), blk b3 (.cells #[(Value.int .i64 h.at_), (Value.int .i64 h.turn)] 29)] [] _ := M
    refine ⟨kv16, dv17, vv18, ?_, M.close [0, 1, 2, 3] rfl (by decide) trivial⟩
    first | (rw [rget_hit hh hp]) | (rw [rget_miss hh]) | (simp [rget_miss hh, ndZero])
    try rfl
  ·
    refine W.seq' ?_
    refine W.region rfl ?_
    refine WL.box (v := (Value.agg #[(Value.int .i64 h.at_), (Value.int .i64 h.turn)])) (c := #[(Value.int .i64 h.at_), (Value.int .i64 h.turn)]) M rfl rfl rfl (fun b30 w31 hb30 M => ?_)
    refine WL.alloc (c := #[(Value.bool false), (Value.slice none 0 0), (Value.slice none 0 0), (Value.slice none 0 0)]) M rfl Try.el36.zero rfl (fun b32 w33 hb32 M => ?_)
    refine WL.step (v := (Value.int .i64 0)) rfl (Step.assign rfl) ?_
    refine WL.nil ?_
    refine W.seq' ?_
    refine W.region rfl ?_
    refine WL.step (v := (Value.pointer (some ⟨ab, 0, none⟩))) rfl (Step.move rfl) ?_
    refine WL.step (v := (Value.agg #[(Value.int .i64 h.at_), (Value.int .i64 h.turn)])) rfl (Step.loadN Try.ag29 rfl (M.blk 1 rfl) (Nat.le_of_ble_eq_true rfl) rfl) ?_
    refine WL.callX rfl (at_miss ab l (⟨pv, fb, cs, ks, N⟩ : ArI) h hK hh (M.enterW (C := [blk ab (.cells #[pv, (Value.map (some fb))] 71), own 73 5 pv l.length cs, setC fb ks, nodesC N cs l]) (D := [blk b32 (.cells #[(Value.bool false), (Value.slice none 0 0), (Value.slice none 0 0), (Value.slice none 0 0)] 36), blk b30 (.cells #[(Value.int .i64 h.at_), (Value.int .i64 h.turn)] 29)]) [2, 3, 4, 5, 0, 1] rfl (by decide) trivial)) (CallsF.func Try.en30 rfl) ?_
    rintro _ w34 ⟨rfl, m⟩
    replace M := M.leaveW (C := [blk ab (.cells #[pv, (Value.map (some fb))] 71), own 73 5 pv l.length cs, setC fb ks, nodesC N cs l]) (D := [blk b32 (.cells #[(Value.bool false), (Value.slice none 0 0), (Value.slice none 0 0), (Value.slice none 0 0)] 36), blk b30 (.cells #[(Value.int .i64 h.at_), (Value.int .i64 h.turn)] 29)]) [2, 3, 4, 5, 0, 1] rfl (by decide) m
    replace M := M.sel (L' := [blk b32 (.cells #[(Value.bool false), (Value.slice none 0 0), (Value.slice none 0 0), (Value.slice none 0 0)] 36), blk b30 (.cells #[(Value.int .i64 h.at_), (Value.int .i64 h.turn)] 29), blk ab (.cells #[pv, (Value.map (some fb))] 71), own 73 5 pv l.length cs, setC fb ks, nodesC N cs l]) [4, 5, 0, 1, 2, 3] rfl (by decide)
    clear m
    replace M : Mem _ _ _ [blk b32 (.cells #[(Value.bool false), (Value.slice none 0 0), (Value.slice none 0 0), (Value.slice none 0 0)] 36), blk b30 (.cells #[(Value.int .i64 h.at_), (Value.int .i64 h.turn)] 29), blk ab (.cells #[pv, (Value.map (some fb))] 71), own 73 5 pv l.length cs, setC fb ks, nodesC N cs l] [] _ := M
    refine WL.step (v := (Value.tuple #[(Value.pointer none), (Value.int .i64 110)])) rfl (Step.move rfl) ?_
    refine WL.step (v := (Value.pointer none)) rfl (Step.pure (by kernel_rfl)) ?_
    refine WL.step (v := (Value.int .i64 110)) rfl (Step.pure (by kernel_rfl)) ?_
    refine WL.step (v := (Value.pointer none)) rfl (Step.assign rfl) ?_
    refine WL.step (v := (Value.int .i64 110)) rfl (Step.assign rfl) ?_
    refine WL.nil ?_
    refine W.seq' ?_
    refine W.seq' ?_
    refine W.region rfl ?_
    refine WL.step (v := (Value.int .i64 110)) rfl (Step.move rfl) ?_
    refine WL.step (v := (Value.bool true)) rfl (Step.pure (by kernel_rfl)) ?_
    refine WL.nil ?_
    refine W.cond (t := true) rfl (fun _ => ?_) (fun h => by cases h)
    refine W.seq' ?_
    refine W.region rfl ?_
    refine WL.step (v := (Value.agg #[(Value.bool false), (Value.slice none 0 0), (Value.slice none 0 0), (Value.slice none 0 0)])) rfl (Step.pure (by kernel_rfl)) ?_
    refine WL.step (v := (Value.int .i64 110)) rfl (Step.move rfl) ?_
    refine WL.store (v := (Value.agg #[(Value.bool false), (Value.slice none 0 0), (Value.slice none 0 0), (Value.slice none 0 0)])) (cs := [(Value.bool false), (Value.slice none 0 0), (Value.slice none 0 0), (Value.slice none 0 0)]) (c' := #[(Value.bool false), (Value.slice none 0 0), (Value.slice none 0 0), (Value.slice none 0 0)]) M 0 rfl rfl Try.el36.sized rfl rfl rfl rfl (Nat.le_of_ble_eq_true rfl) (cel_cons rfl (cel_cons rfl (cel_cons rfl (cel_cons rfl cel_nil)))) rfl rfl (fun w35 M => ?_)
    refine WL.step (v := (Value.int .i64 110)) rfl (Step.assign rfl) ?_
    refine WL.nil ?_
    refine W.ret ?_
    refine ⟨.inl rfl, (Value.tuple #[(Value.agg #[(Value.bool false), (Value.slice none 0 0), (Value.slice none 0 0), (Value.slice none 0 0)]), (Value.int .i64 110)]), ?_, ?_⟩
    · exact (Res.r2 (RV.cellN Try.ag36 rfl (M.blk 0 rfl) rfl) (show RV _ _ _ (.tmp 5) (Value.int .i64 110) from by exact rfl))
    replace M := M.sel (L' := [blk ab (.cells #[pv, (Value.map (some fb))] 71), own 73 5 pv l.length cs, setC fb ks, nodesC N cs l, blk b32 (.cells #[(Value.bool false), (Value.slice none 0 0), (Value.slice none 0 0), (Value.slice none 0 0)] 36), blk b30 (.cells #[(Value.int .i64 h.at_), (Value.int .i64 h.turn)] 29)]) [2, 3, 4, 5, 0, 1] rfl (by decide)
    replace M := Mem.pack (Ls := arenaL 71 73 ab l) (p := fun i => FreeOk i.ks l) (⟨pv, fb, cs, ks, N⟩ : ArI) M hK
    rw [← hS] at M
    replace M : Mem _ _ _ [arenaC 71 73 S ab l, blk b32 (.cells #[(Value.bool false), (Value.slice none 0 0), (Value.slice none 0 0), (Value.slice none 0 0)] 36), blk b30 (.cells #[(Value.int .i64 h.at_), (Value.int .i64 h.turn)] 29)] [] _ := M
    replace M := M.ownNil 9 1
    have e36 : ((rget l h).1).keys = [] := by
      first | (rw [rget_hit hh hp]) | (rw [rget_miss hh]) | (simp [rget_miss hh, ndZero])
      try rfl
    replace M : Mem _ _ _ [own 9 1 (Value.slice none 0 0) (([] : List ByteArray).length) (([] : List ByteArray).flatMap strE), arenaC 71 73 S ab l, blk b32 (.cells #[(Value.bool false), (Value.slice none 0 0), (Value.slice none 0 0), (Value.slice none 0 0)] 36), blk b30 (.cells #[(Value.int .i64 h.at_), (Value.int .i64 h.turn)] 29)] [] _ := M
    replace M := M.rechunk 0 (c' := own 9 1 (Value.slice none 0 0) ((((rget l h).1).keys).length) ((((rget l h).1).keys).flatMap strE)) rfl (by rw [e36])
    replace M : Mem _ _ _ [own 9 1 (Value.slice none 0 0) ((((rget l h).1).keys).length) ((((rget l h).1).keys).flatMap strE), arenaC 71 73 S ab l, blk b32 (.cells #[(Value.bool false), (Value.slice none 0 0), (Value.slice none 0 0), (Value.slice none 0 0)] 36), blk b30 (.cells #[(Value.int .i64 h.at_), (Value.int .i64 h.turn)] 29)] [] _ := M
    replace M := M.ownNil 29 2
    have e37 : ((rget l h).1).kids = [] := by
      first | (rw [rget_hit hh hp]) | (rw [rget_miss hh]) | (simp [rget_miss hh, ndZero])
      try rfl
    replace M : Mem _ _ _ [own 29 2 (Value.slice none 0 0) (([] : List Handle).length) (([] : List Handle).flatMap handleE), own 9 1 (Value.slice none 0 0) ((((rget l h).1).keys).length) ((((rget l h).1).keys).flatMap strE), arenaC 71 73 S ab l, blk b32 (.cells #[(Value.bool false), (Value.slice none 0 0), (Value.slice none 0 0), (Value.slice none 0 0)] 36), blk b30 (.cells #[(Value.int .i64 h.at_), (Value.int .i64 h.turn)] 29)] [] _ := M
    replace M := M.rechunk 0 (c' := own 29 2 (Value.slice none 0 0) ((((rget l h).1).kids).length) ((((rget l h).1).kids).flatMap handleE)) rfl (by rw [e37])
    replace M : Mem _ _ _ [own 29 2 (Value.slice none 0 0) ((((rget l h).1).kids).length) ((((rget l h).1).kids).flatMap handleE), own 9 1 (Value.slice none 0 0) ((((rget l h).1).keys).length) ((((rget l h).1).keys).flatMap strE), arenaC 71 73 S ab l, blk b32 (.cells #[(Value.bool false), (Value.slice none 0 0), (Value.slice none 0 0), (Value.slice none 0 0)] 36), blk b30 (.cells #[(Value.int .i64 h.at_), (Value.int .i64 h.turn)] 29)] [] _ := M
    replace M := M.ownNil 3 1
    have e38 : ((rget l h).1).vals = [] := by
      first | (rw [rget_hit hh hp]) | (rw [rget_miss hh]) | (simp [rget_miss hh, ndZero])
      try rfl
    replace M : Mem _ _ _ [own 3 1 (Value.slice none 0 0) (([] : List Int).length) (([] : List Int).flatMap intE), own 29 2 (Value.slice none 0 0) ((((rget l h).1).kids).length) ((((rget l h).1).kids).flatMap handleE), own 9 1 (Value.slice none 0 0) ((((rget l h).1).keys).length) ((((rget l h).1).keys).flatMap strE), arenaC 71 73 S ab l, blk b32 (.cells #[(Value.bool false), (Value.slice none 0 0), (Value.slice none 0 0), (Value.slice none 0 0)] 36), blk b30 (.cells #[(Value.int .i64 h.at_), (Value.int .i64 h.turn)] 29)] [] _ := M
    replace M := M.rechunk 0 (c' := own 3 1 (Value.slice none 0 0) ((((rget l h).1).vals).length) ((((rget l h).1).vals).flatMap intE)) rfl (by rw [e38])
    replace M : Mem _ _ _ [own 3 1 (Value.slice none 0 0) ((((rget l h).1).vals).length) ((((rget l h).1).vals).flatMap intE), own 29 2 (Value.slice none 0 0) ((((rget l h).1).kids).length) ((((rget l h).1).kids).flatMap handleE), own 9 1 (Value.slice none 0 0) ((((rget l h).1).keys).length) ((((rget l h).1).keys).flatMap strE), arenaC 71 73 S ab l, blk b32 (.cells #[(Value.bool false), (Value.slice none 0 0), (Value.slice none 0 0), (Value.slice none 0 0)] 36), blk b30 (.cells #[(Value.int .i64 h.at_), (Value.int .i64 h.turn)] 29)] [] _ := M
    refine ⟨(Value.slice none 0 0), (Value.slice none 0 0), (Value.slice none 0 0), ?_, M.close [3, 2, 1, 0] rfl (by decide) trivial⟩
    first | (rw [rget_hit hh hp]) | (rw [rget_miss hh]) | (simp [rget_miss hh, ndZero])
    try rfl

theorem get_nil {G : Nat → Prop} {w : World} (h : Handle)  (M : Mem G (fun _ => False) w [] [] w) : Rets Try.prog 14 #[(Value.pointer none), (Value.agg #[(Value.int .i64 h.at_), (Value.int .i64 h.turn)])] w fun r w' => r = (Value.tuple #[(Value.agg #[(Value.bool false), (Value.slice none 0 0), (Value.slice none 0 0), (Value.slice none 0 0)]), (Value.int .i64 1)]) ∧ Mem G (fun _ => False) w [] [] w' := by
  refine Rets.enter 23 _ Try.func14 rfl Try.ntmps14 Try.results14 (by simp) ?_
  refine W.seq' ?_
  refine W.region rfl ?_
  refine WL.box (v := (Value.agg #[(Value.int .i64 h.at_), (Value.int .i64 h.turn)])) (c := #[(Value.int .i64 h.at_), (Value.int .i64 h.turn)]) M rfl rfl rfl (fun b1 w2 hb1 M => ?_)
  refine WL.alloc (c := #[(Value.bool false), (Value.slice none 0 0), (Value.slice none 0 0), (Value.slice none 0 0)]) M rfl Try.el36.zero rfl (fun b3 w4 hb3 M => ?_)
  refine WL.step (v := (Value.int .i64 0)) rfl (Step.assign rfl) ?_
  refine WL.nil ?_
  refine W.seq' ?_
  refine W.region rfl ?_
  refine WL.step (v := (Value.pointer none)) rfl (Step.move rfl) ?_
  refine WL.step (v := (Value.agg #[(Value.int .i64 h.at_), (Value.int .i64 h.turn)])) rfl (Step.loadN Try.ag29 rfl (M.blk 1 rfl) (Nat.le_of_ble_eq_true rfl) rfl) ?_
  refine WL.callX rfl (at_nil h (M.enterW0 trivial)) (CallsF.func Try.en30 rfl) ?_
  rintro _ w5 ⟨rfl, m⟩
  replace M := M.leaveW0 m
  clear m
  replace M : Mem _ _ _ [blk b3 (.cells #[(Value.bool false), (Value.slice none 0 0), (Value.slice none 0 0), (Value.slice none 0 0)] 36), blk b1 (.cells #[(Value.int .i64 h.at_), (Value.int .i64 h.turn)] 29)] [] _ := M
  refine WL.step (v := (Value.tuple #[(Value.pointer none), (Value.int .i64 1)])) rfl (Step.move rfl) ?_
  refine WL.step (v := (Value.pointer none)) rfl (Step.pure (by kernel_rfl)) ?_
  refine WL.step (v := (Value.int .i64 1)) rfl (Step.pure (by kernel_rfl)) ?_
  refine WL.step (v := (Value.pointer none)) rfl (Step.assign rfl) ?_
  refine WL.step (v := (Value.int .i64 1)) rfl (Step.assign rfl) ?_
  refine WL.nil ?_
  refine W.seq' ?_
  refine W.seq' ?_
  refine W.region rfl ?_
  refine WL.step (v := (Value.int .i64 1)) rfl (Step.move rfl) ?_
  refine WL.step (v := (Value.bool true)) rfl (Step.pure (by kernel_rfl)) ?_
  refine WL.nil ?_
  refine W.cond (t := true) rfl (fun _ => ?_) (fun h => by cases h)
  refine W.seq' ?_
  refine W.region rfl ?_
  refine WL.step (v := (Value.agg #[(Value.bool false), (Value.slice none 0 0), (Value.slice none 0 0), (Value.slice none 0 0)])) rfl (Step.pure (by kernel_rfl)) ?_
  refine WL.step (v := (Value.int .i64 1)) rfl (Step.move rfl) ?_
  refine WL.store (v := (Value.agg #[(Value.bool false), (Value.slice none 0 0), (Value.slice none 0 0), (Value.slice none 0 0)])) (cs := [(Value.bool false), (Value.slice none 0 0), (Value.slice none 0 0), (Value.slice none 0 0)]) (c' := #[(Value.bool false), (Value.slice none 0 0), (Value.slice none 0 0), (Value.slice none 0 0)]) M 0 rfl rfl Try.el36.sized rfl rfl rfl rfl (Nat.le_of_ble_eq_true rfl) (cel_cons rfl (cel_cons rfl (cel_cons rfl (cel_cons rfl cel_nil)))) rfl rfl (fun w6 M => ?_)
  refine WL.step (v := (Value.int .i64 1)) rfl (Step.assign rfl) ?_
  refine WL.nil ?_
  refine W.ret ?_
  refine ⟨.inl rfl, (Value.tuple #[(Value.agg #[(Value.bool false), (Value.slice none 0 0), (Value.slice none 0 0), (Value.slice none 0 0)]), (Value.int .i64 1)]), ?_, ?_⟩
  · exact (Res.r2 (RV.cellN Try.ag36 rfl (M.blk 0 rfl) rfl) (show RV _ _ _ (.tmp 5) (Value.int .i64 1) from by exact rfl))
  refine ⟨?_, M.close [] rfl (by decide) trivial⟩
  rfl

theorem ar_make {G X : Nat → Prop} {w : World} (ab : Nat) (l : List RPlace) (S : Nat → Prop) (kv : Value) (dv : Value) (vv : Value) (n : Nd) (hA : SmallA l) (hkn : n.keys.length ≤ 1000000) (hdn : n.kids.length ≤ 1000000) (hvn : n.vals.length ≤ 1000000) (M : Mem G X w [arenaC 71 73 S ab l] [SlAt 1 kv n.keys.length (n.keys.flatMap strE), SlAt 2 dv n.kids.length (n.kids.flatMap handleE), SlAt 1 vv n.vals.length (n.vals.flatMap intE)] w) : Rets Try.prog 13 #[(Value.pointer (some ⟨ab, 0, none⟩)), (Value.agg #[(Value.bool n.leaf), kv, dv, vv])] w fun r w' => ∃ (S' : Nat → Prop), r = (Value.agg #[(Value.int .i64 (((rmake l n).2).at_)), (Value.int .i64 (((rmake l n).2).turn))]) ∧ Mem G X w [arenaC 71 73 S' ab ((rmake l n).1)] [] w' := by
  refine Rets.enter 58 _ Try.func13 rfl Try.ntmps13 Try.results13 (by simp) ?_
  have hle1 := SlAt.le' (M.rep 0 rfl)
  have hle2 := SlAt.le' (M.rep 1 rfl)
  have hle3 := SlAt.le' (M.rep 2 rfl)
  have sl4 : IsSl kv := SlAt.isSl (Mem.rep M 0 rfl)
  have sl5 : IsSl dv := SlAt.isSl (Mem.rep M 1 rfl)
  have sl6 : IsSl vv := SlAt.isSl (Mem.rep M 2 rfl)
  have hA1 := hA.1; have hle0 := leastF_le (l := l)
  obtain ⟨⟨pv, fb, cs, ks, N⟩, hK, hS, M⟩ := M.unpack
  replace hK : FreeOk ks l := hK
  have hcl := (M.chunk 1 rfl).inv.1
  simp only at hcl
  replace M : Mem _ _ _ [blk ab (.cells #[pv, (Value.map (some fb))] 71), own 73 5 pv l.length cs, setC fb ks, nodesC N cs l] [SlAt 1 kv n.keys.length (n.keys.flatMap strE), SlAt 2 dv n.kids.length (n.kids.flatMap handleE), SlAt 1 vv n.vals.length (n.vals.flatMap intE)] _ := M
  have sl7 : IsSl pv := SlAt.isSl (own_slAt (Mem.chunk M 1 rfl).inv)
  have hle8 := SlAt.le' (own_slAt (Mem.chunk M 1 rfl).inv)
  refine W.seq' ?_
  refine W.region rfl ?_
  refine WL.box (v := (Value.agg #[(Value.bool n.leaf), kv, dv, vv])) (c := #[(Value.bool n.leaf), kv, dv, vv]) M rfl rfl rfl (fun b9 w10 hb9 M => ?_)
  refine WL.alloc (c := #[(Value.int .i64 0), (Value.int .i64 0)]) M rfl Try.el29.zero rfl (fun b11 w12 hb11 M => ?_)
  refine WL.nil ?_
  refine W.seq' ?_
  refine W.seq' ?_
  refine W.region rfl ?_
  refine WL.step (v := (Value.pointer (some ⟨ab, 0, none⟩))) rfl (Step.move rfl) ?_
  refine WL.step (v := (Value.bool false)) rfl (Step.pure (by kernel_rfl)) ?_
  refine WL.nil ?_
  refine W.cond (t := false) rfl (fun h => by cases h) (fun _ => ?_)
  refine W.skip ?_
  refine W.seq' ?_
  refine W.region rfl ?_
  refine WL.step (v := (Value.pointer (some ⟨ab, 0, none⟩))) rfl (Step.move rfl) ?_
  refine WL.callX rfl (ar_least ab l (⟨pv, fb, cs, ks, N⟩ : ArI) hK (M.enterW (C := [blk ab (.cells #[pv, (Value.map (some fb))] 71), own 73 5 pv l.length cs, setC fb ks, nodesC N cs l]) (D := [blk b11 (.cells #[(Value.int .i64 0), (Value.int .i64 0)] 29), blk b9 (.cells #[(Value.bool n.leaf), kv, dv, vv] 36)]) [2, 3, 4, 5, 0, 1] rfl (by decide) trivial)) (CallsF.func Try.en28 rfl) ?_
  rintro _ w13 ⟨rfl, m⟩
  replace M := M.leaveW (C := [blk ab (.cells #[pv, (Value.map (some fb))] 71), own 73 5 pv l.length cs, setC fb ks, nodesC N cs l]) (D := [blk b11 (.cells #[(Value.int .i64 0), (Value.int .i64 0)] 29), blk b9 (.cells #[(Value.bool n.leaf), kv, dv, vv] 36)]) [2, 3, 4, 5, 0, 1] rfl (by decide) m
  replace M := M.sel (L' := [blk b11 (.cells #[(Value.int .i64 0), (Value.int .i64 0)] 29), blk b9 (.cells #[(Value.bool n.leaf), kv, dv, vv] 36), blk ab (.cells #[pv, (Value.map (some fb))] 71), own 73 5 pv l.length cs, setC fb ks, nodesC N cs l]) [4, 5, 0, 1, 2, 3] rfl (by decide)
  clear m
  replace M : Mem _ _ _ [blk b11 (.cells #[(Value.int .i64 0), (Value.int .i64 0)] 29), blk b9 (.cells #[(Value.bool n.leaf), kv, dv, vv] 36), blk ab (.cells #[pv, (Value.map (some fb))] 71), own 73 5 pv l.length cs, setC fb ks, nodesC N cs l] [SlAt 1 kv n.keys.length (n.keys.flatMap strE), SlAt 2 dv n.kids.length (n.kids.flatMap handleE), SlAt 1 vv n.vals.length (n.vals.flatMap intE)] _ := M
  refine WL.step (v := (Value.int .i64 (↑(leastF l)))) rfl (Step.assign rfl) ?_
  refine WL.nil ?_
  refine W.seq' ?_
  refine W.seq' ?_
  refine W.region rfl ?_
  refine WL.step (v := (Value.int .i64 (↑(leastF l)))) rfl (Step.move rfl) ?_
  refine WL.step (v := (Value.pointer (some ⟨ab, 0, none⟩))) rfl (Step.move rfl) ?_
  refine WL.step (v := (Value.pointer (some ⟨ab, 0, none⟩))) rfl (Step.pure (by kernel_rfl)) ?_
  refine WL.step (v := (Value.pointer (some ⟨ab, 0, none⟩))) rfl (Step.pure (by kernel_rfl)) ?_
  refine WL.step (v := pv) rfl (Step.load1 Try.sc69 rfl ((M.cell 2 rfl 0).trans rfl)) ?_
  refine WL.step (v := (Value.int .i64 ↑l.length)) rfl (Step.lenSl Try.un69 rfl (own_slAt (M.chunk 3 rfl).inv)) ?_
  refine WL.step (v := (Value.bool ((↑(leastF l) : Int) == (↑l.length : Int)))) rfl (Step.pure (by kernel_rfl)) ?_
  refine WL.nil ?_
  refine W.cond (t := (↑(leastF l) : Int) == (↑l.length : Int)) rfl (fun h14 => ?_) (fun h14 => ?_)
  ·
    have h14p : (↑(leastF l) : Int) = (↑l.length : Int) := by simpa using h14
    refine W.region rfl ?_
    refine WL.step (v := (Value.pointer (some ⟨ab, 0, none⟩))) rfl (Step.move rfl) ?_
    refine WL.step (v := (Value.pointer (some ⟨ab, 0, none⟩))) rfl (Step.move rfl) ?_
    refine WL.step (v := (Value.pointer (some ⟨ab, 0, none⟩))) rfl (Step.pure (by kernel_rfl)) ?_
    refine WL.step (v := (Value.pointer (some ⟨ab, 0, none⟩))) rfl (Step.pure (by kernel_rfl)) ?_
    refine WL.step (v := pv) rfl (Step.load1 Try.sc69 rfl ((M.cell 2 rfl 0).trans rfl)) ?_
    refine WL.step (v := (Value.agg #[(Value.bool false), (Value.slice none 0 0), (Value.slice none 0 0), (Value.slice none 0 0), (Value.int .i64 0)])) rfl (Step.pure (by kernel_rfl)) ?_
    refine WL.new (obj := .cells #[(Value.bool false), (Value.slice none 0 0), (Value.slice none 0 0), (Value.slice none 0 0), (Value.int .i64 0)] 73) (fun b => .slice (some ⟨b, 0, none⟩) 1 1) M rfl (fun w => Step.make (by kernel_rfl)) (fun b15 w16 hb15 M => ?_)
    refine WL.does rfl (M.append (sv := (Value.slice (some ⟨b15, 0, none⟩) 1 1)) (news := [(Value.bool false), (Value.slice none 0 0), (Value.slice none 0 0), (Value.slice none 0 0), (Value.int .i64 0)]) 4 Try.un69 Try.el73 rfl (by decide) rfl rfl rfl (SlAt.of_blk (M.blk 0 rfl) rfl (by decide)) (Step.Cellish.one (cel_cons rfl (cel_cons rfl (cel_cons rfl (cel_cons rfl (cel_cons rfl cel_nil)))))) (by have := trivial; simp only [maxLen]; omega) (by have := trivial; omega)) ?_
    rintro v17 w18 ⟨-, -, M⟩
    replace M : Mem _ _ _ [blk b15 (.cells #[(Value.bool false), (Value.slice none 0 0), (Value.slice none 0 0), (Value.slice none 0 0), (Value.int .i64 0)] 73), blk b11 (.cells #[(Value.int .i64 0), (Value.int .i64 0)] 29), blk b9 (.cells #[(Value.bool n.leaf), kv, dv, vv] 36), blk ab (.cells #[pv, (Value.map (some fb))] 71), own 73 5 v17 (l.length + 1) (cs ++ ([(Value.bool false), (Value.slice none 0 0), (Value.slice none 0 0), (Value.slice none 0 0), (Value.int .i64 0)])), setC fb ks, nodesC N cs l] [SlAt 1 kv n.keys.length (n.keys.flatMap strE), SlAt 2 dv n.kids.length (n.kids.flatMap handleE), SlAt 1 vv n.vals.length (n.vals.flatMap intE)] _ := M
    have sl19 : IsSl v17 := SlAt.isSl (own_slAt (M.chunk 4 rfl).inv)
    refine WL.step (v := (Value.pointer (some ⟨ab, 0, none⟩))) rfl (Step.pure (by kernel_rfl)) ?_
    refine WL.step (v := (Value.pointer (some ⟨ab, 0, none⟩))) rfl (Step.pure (by kernel_rfl)) ?_
    refine WL.store (v := v17) (cs := [v17]) (c' := #[v17, (Value.map (some fb))]) M 3 rfl rfl Try.el69.sized rfl rfl (IsSl.list sl19) rfl (Nat.le_of_ble_eq_true rfl) (cel_cons (IsSl.cel sl19) cel_nil) rfl rfl (fun w20 M => ?_)
    refine WL.nil ?_
    refine W.seq' ?_
    refine W.region rfl ?_
    refine WL.step (v := (Value.pointer (some ⟨ab, 0, none⟩))) rfl (Step.move rfl) ?_
    refine WL.step (v := (Value.pointer (some ⟨ab, 0, none⟩))) rfl (Step.pure (by kernel_rfl)) ?_
    refine WL.step (v := (Value.pointer (some ⟨ab, 1, none⟩))) rfl (Step.pure (by kernel_rfl)) ?_
    refine WL.step (v := (Value.map (some fb))) rfl (Step.load1 Try.sc68 rfl ((M.cell 3 rfl 1).trans rfl)) ?_
    refine WL.step (v := (Value.int .i64 (↑(leastF l)))) rfl (Step.move rfl) ?_
    refine WL.act rfl (M.setDel 5 rfl hK.1 Try.mt68 rfl rfl) ?_
    rintro w21 ⟨M, -⟩
    replace M : Mem _ _ _ [blk b15 (.cells #[(Value.bool false), (Value.slice none 0 0), (Value.slice none 0 0), (Value.slice none 0 0), (Value.int .i64 0)] 73), blk b11 (.cells #[(Value.int .i64 0), (Value.int .i64 0)] 29), blk b9 (.cells #[(Value.bool n.leaf), kv, dv, vv] 36), blk ab (.cells #[v17, (Value.map (some fb))] 71), own 73 5 v17 (l.length + 1) (cs ++ ([(Value.bool false), (Value.slice none 0 0), (Value.slice none 0 0), (Value.slice none 0 0), (Value.int .i64 0)])), setC fb (ks.erase (↑(leastF l))), nodesC N cs l] [SlAt 1 kv n.keys.length (n.keys.flatMap strE), SlAt 2 dv n.kids.length (n.kids.flatMap handleE), SlAt 1 vv n.vals.length (n.vals.flatMap intE)] _ := M
    refine WL.nil ?_
    refine W.seq' ?_
    refine W.region rfl ?_
    refine WL.step (v := (Value.pointer (some ⟨ab, 0, none⟩))) rfl (Step.move rfl) ?_
    refine WL.step (v := (Value.pointer (some ⟨ab, 0, none⟩))) rfl (Step.pure (by kernel_rfl)) ?_
    refine WL.step (v := (Value.pointer (some ⟨ab, 0, none⟩))) rfl (Step.pure (by kernel_rfl)) ?_
    refine WL.step (v := v17) rfl (Step.load1 Try.sc69 rfl ((M.cell 3 rfl 0).trans rfl)) ?_
    refine WL.step (v := (Value.int .i64 (↑(leastF l)))) rfl (Step.move rfl) ?_
    obtain ⟨cap23, hb22⟩ := SlAt.base (own_slAt (M.chunk 4 rfl).inv) (by omega)
    have hpre24 : (cs).length = (leastF l) * 5 := by omega
    replace M := M.rechunk 4 (c' := own 73 5 v17 (l.length + 1) (cs ++ ([(Value.bool false), (Value.slice none 0 0), (Value.slice none 0 0), (Value.slice none 0 0), (Value.int .i64 0)] ++ []))) rfl rfl
    replace M : Mem _ _ _ [blk b15 (.cells #[(Value.bool false), (Value.slice none 0 0), (Value.slice none 0 0), (Value.slice none 0 0), (Value.int .i64 0)] 73), blk b11 (.cells #[(Value.int .i64 0), (Value.int .i64 0)] 29), blk b9 (.cells #[(Value.bool n.leaf), kv, dv, vv] 36), blk ab (.cells #[v17, (Value.map (some fb))] 71), own 73 5 v17 (l.length + 1) (cs ++ ([(Value.bool false), (Value.slice none 0 0), (Value.slice none 0 0), (Value.slice none 0 0), (Value.int .i64 0)] ++ [])), setC fb (ks.erase (↑(leastF l))), nodesC N cs l] [SlAt 1 kv n.keys.length (n.keys.flatMap strE), SlAt 2 dv n.kids.length (n.kids.flatMap handleE), SlAt 1 vv n.vals.length (n.vals.flatMap intE)] _ := M
    refine WL.step (v := (Value.pointer (some ⟨(sBlk v17), sOff v17 + (leastF l) * 5, none⟩))) rfl (Step.indexAddr (i := leastF l) (Try.un69).run Try.el73.sized rfl rfl (by omega) hb22 (by omega)) ?_
    refine WL.step (v := (Value.pointer (some ⟨(sBlk v17), sOff v17 + (leastF l) * 5, none⟩))) rfl (Step.assign rfl) ?_
    refine WL.nil ?_
    refine W.seq' ?_
    refine W.region rfl ?_
    refine WL.step (v := (Value.pointer (some ⟨(sBlk v17), sOff v17 + (leastF l) * 5, none⟩))) rfl (Step.move rfl) ?_
    refine WL.step (v := (Value.pointer (some ⟨(sBlk v17), sOff v17 + (leastF l) * 5, none⟩))) rfl (Step.pure (by kernel_rfl)) ?_
    refine WL.step (v := (Value.pointer (some ⟨(sBlk v17), sOff v17 + (leastF l) * 5 + 4, none⟩))) rfl (Step.pure (by kernel_rfl)) ?_
    refine WL.step (v := (Value.int .i64 0)) rfl (Step.loadE (k := 4) Try.sc3 (ec_open (own_slAt (M.chunk 4 rfl).inv) hpre24 rfl (by first | omega | (simp only [List.length_set, List.length_append, List.length_cons, List.length_nil]; omega))) (by decide) rfl rfl) ?_
    refine WL.step (v := (Value.int .i64 1)) rfl (Step.pure (by kernel_rfl)) ?_
    refine WL.step (v := (Value.pointer (some ⟨(sBlk v17), sOff v17 + (leastF l) * 5, none⟩))) rfl (Step.pure (by kernel_rfl)) ?_
    refine WL.step (v := (Value.pointer (some ⟨(sBlk v17), sOff v17 + (leastF l) * 5 + 4, none⟩))) rfl (Step.pure (by kernel_rfl)) ?_
    refine WL.act rfl (M.storeAt (cells := [(Value.bool false), (Value.slice none 0 0), (Value.slice none 0 0), (Value.slice none 0 0), (Value.int .i64 0)]) (cells' := [(Value.bool false), (Value.slice none 0 0), (Value.slice none 0 0), (Value.slice none 0 0), (Value.int .i64 1)]) (new := [(Value.int .i64 1)]) (k := 4) 4 rfl hpre24 Try.el3.sized rfl rfl rfl (cel_cons rfl cel_nil) (by first | omega | (simp only [List.length_set, List.length_append, List.length_cons, List.length_nil]; omega)) (Nat.le_of_ble_eq_true rfl) rfl rfl) ?_
    rintro w25 ⟨M, -⟩
    replace M : Mem _ _ _ [blk b15 (.cells #[(Value.bool false), (Value.slice none 0 0), (Value.slice none 0 0), (Value.slice none 0 0), (Value.int .i64 0)] 73), blk b11 (.cells #[(Value.int .i64 0), (Value.int .i64 0)] 29), blk b9 (.cells #[(Value.bool n.leaf), kv, dv, vv] 36), blk ab (.cells #[v17, (Value.map (some fb))] 71), own 73 5 v17 (l.length + 1) (cs ++ ([(Value.bool false), (Value.slice none 0 0), (Value.slice none 0 0), (Value.slice none 0 0), (Value.int .i64 1)] ++ [])), setC fb (ks.erase (↑(leastF l))), nodesC N cs l] [SlAt 1 kv n.keys.length (n.keys.flatMap strE), SlAt 2 dv n.kids.length (n.kids.flatMap handleE), SlAt 1 vv n.vals.length (n.vals.flatMap intE)] _ := M
    refine WL.nil ?_
    refine W.seq' ?_
    refine W.region rfl ?_
    refine WL.step (v := (Value.pointer (some ⟨(sBlk v17), sOff v17 + (leastF l) * 5, none⟩))) rfl (Step.move rfl) ?_
    refine WL.step (v := (Value.agg #[(Value.bool n.leaf), kv, dv, vv])) rfl (Step.loadN Try.ag36 rfl (M.blk 2 rfl) (Nat.le_of_ble_eq_true rfl) rfl) ?_
    refine WL.callX rfl (copied kv dv vv n (by first | omega | (simp only [List.length_nil, List.length_cons]; omega) | decide) (by first | omega | (simp only [List.length_nil, List.length_cons]; omega) | decide) (by first | omega | (simp only [List.length_nil, List.length_cons]; omega) | decide) (M.enterW0 ⟨(M.wideR0 0 rfl), (M.wideR0 1 rfl), (M.wideR0 2 rfl), trivial⟩)) (CallsF.func Try.en29 rfl) ?_
    rintro _ w29 ⟨kv26, dv27, vv28, rfl, m⟩
    replace M := M.leaveW0 m
    clear m
    replace M : Mem _ _ _ [own 9 1 kv26 n.keys.length (n.keys.flatMap strE), own 29 2 dv27 n.kids.length (n.kids.flatMap handleE), own 3 1 vv28 n.vals.length (n.vals.flatMap intE), blk b15 (.cells #[(Value.bool false), (Value.slice none 0 0), (Value.slice none 0 0), (Value.slice none 0 0), (Value.int .i64 0)] 73), blk b11 (.cells #[(Value.int .i64 0), (Value.int .i64 0)] 29), blk b9 (.cells #[(Value.bool n.leaf), kv, dv, vv] 36), blk ab (.cells #[v17, (Value.map (some fb))] 71), own 73 5 v17 (l.length + 1) (cs ++ ([(Value.bool false), (Value.slice none 0 0), (Value.slice none 0 0), (Value.slice none 0 0), (Value.int .i64 1)] ++ [])), setC fb (ks.erase (↑(leastF l))), nodesC N cs l] [SlAt 1 kv n.keys.length (n.keys.flatMap strE), SlAt 2 dv n.kids.length (n.kids.flatMap handleE), SlAt 1 vv n.vals.length (n.vals.flatMap intE)] _ := M
    have sl30 : IsSl kv26 := SlAt.isSl (own_slAt (Mem.chunk M 0 rfl).inv)
    have hle31 := SlAt.le' (own_slAt (Mem.chunk M 0 rfl).inv)
    have sl32 : IsSl dv27 := SlAt.isSl (own_slAt (Mem.chunk M 1 rfl).inv)
    have hle33 := SlAt.le' (own_slAt (Mem.chunk M 1 rfl).inv)
    have sl34 : IsSl vv28 := SlAt.isSl (own_slAt (Mem.chunk M 2 rfl).inv)
    have hle35 := SlAt.le' (own_slAt (Mem.chunk M 2 rfl).inv)
    refine WL.step (v := (Value.pointer (some ⟨(sBlk v17), sOff v17 + (leastF l) * 5, none⟩))) rfl (Step.pure (by kernel_rfl)) ?_
    refine WL.step (v := (Value.pointer (some ⟨(sBlk v17), sOff v17 + (leastF l) * 5, none⟩))) rfl (Step.pure (by kernel_rfl)) ?_
    refine WL.act rfl (M.storeAt (cells := [(Value.bool false), (Value.slice none 0 0), (Value.slice none 0 0), (Value.slice none 0 0), (Value.int .i64 1)]) (cells' := [(Value.bool n.leaf), kv26, dv27, vv28, (Value.int .i64 1)]) (new := [(Value.bool n.leaf), kv26, dv27, vv28]) (k := 0) 7 rfl hpre24 Try.el36.sized rfl rfl rfl (cel_cons rfl (cel_cons (IsSl.cel sl30) (cel_cons (IsSl.cel sl32) (cel_cons (IsSl.cel sl34) cel_nil)))) (by first | omega | (simp only [List.length_set, List.length_append, List.length_cons, List.length_nil]; omega)) (Nat.le_of_ble_eq_true rfl) rfl rfl) ?_
    rintro w36 ⟨M, -⟩
    replace M : Mem _ _ _ [own 9 1 kv26 n.keys.length (n.keys.flatMap strE), own 29 2 dv27 n.kids.length (n.kids.flatMap handleE), own 3 1 vv28 n.vals.length (n.vals.flatMap intE), blk b15 (.cells #[(Value.bool false), (Value.slice none 0 0), (Value.slice none 0 0), (Value.slice none 0 0), (Value.int .i64 0)] 73), blk b11 (.cells #[(Value.int .i64 0), (Value.int .i64 0)] 29), blk b9 (.cells #[(Value.bool n.leaf), kv, dv, vv] 36), blk ab (.cells #[v17, (Value.map (some fb))] 71), own 73 5 v17 (l.length + 1) (cs ++ ([(Value.bool n.leaf), kv26, dv27, vv28, (Value.int .i64 1)] ++ [])), setC fb (ks.erase (↑(leastF l))), nodesC N cs l] [SlAt 1 kv n.keys.length (n.keys.flatMap strE), SlAt 2 dv n.kids.length (n.kids.flatMap handleE), SlAt 1 vv n.vals.length (n.vals.flatMap intE)] _ := M
    refine WL.nil ?_
    refine W.seq' ?_
    refine W.region rfl ?_
    refine WL.step (v := (Value.int .i64 (↑(leastF l)))) rfl (Step.move rfl) ?_
    refine WL.step (v := (Value.pointer (some ⟨(sBlk v17), sOff v17 + (leastF l) * 5, none⟩))) rfl (Step.move rfl) ?_
    refine WL.step (v := (Value.pointer (some ⟨(sBlk v17), sOff v17 + (leastF l) * 5, none⟩))) rfl (Step.pure (by kernel_rfl)) ?_
    refine WL.step (v := (Value.pointer (some ⟨(sBlk v17), sOff v17 + (leastF l) * 5 + 4, none⟩))) rfl (Step.pure (by kernel_rfl)) ?_
    refine WL.step (v := (Value.int .i64 1)) rfl (Step.loadE (k := 4) Try.sc3 (ec_open (own_slAt (M.chunk 7 rfl).inv) hpre24 rfl (by first | omega | (simp only [List.length_set, List.length_append, List.length_cons, List.length_nil]; omega))) (by decide) rfl rfl) ?_
    refine WL.step (v := (Value.agg #[(Value.int .i64 (↑(leastF l))), (Value.int .i64 1)])) rfl (Step.pure (by kernel_rfl)) ?_
    refine WL.store (v := (Value.agg #[(Value.int .i64 (↑(leastF l))), (Value.int .i64 1)])) (cs := [(Value.int .i64 (↑(leastF l))), (Value.int .i64 1)]) (c' := #[(Value.int .i64 (↑(leastF l))), (Value.int .i64 1)]) M 4 rfl rfl Try.el29.sized rfl rfl rfl rfl (Nat.le_of_ble_eq_true rfl) (cel_cons rfl (cel_cons rfl cel_nil)) rfl rfl (fun w37 M => ?_)
    refine WL.nil ?_
    refine W.ret ?_
    refine ⟨.inl rfl, (Value.agg #[(Value.int .i64 (↑(leastF l))), (Value.int .i64 1)]), ?_, ?_⟩
    · exact (Res.r1 (RV.cellN Try.ag29 rfl (M.blk 4 rfl) rfl))
    replace M := M.sel (L' := [nodesC N cs l, own 9 1 kv26 n.keys.length (n.keys.flatMap strE), own 29 2 dv27 n.kids.length (n.kids.flatMap handleE), own 3 1 vv28 n.vals.length (n.vals.flatMap intE), blk b15 (.cells #[(Value.bool false), (Value.slice none 0 0), (Value.slice none 0 0), (Value.slice none 0 0), (Value.int .i64 0)] 73), blk b11 (.cells #[(Value.int .i64 (↑(leastF l))), (Value.int .i64 1)] 29), blk b9 (.cells #[(Value.bool n.leaf), kv, dv, vv] 36), blk ab (.cells #[v17, (Value.map (some fb))] 71), own 73 5 v17 (l.length + 1) (cs ++ ([(Value.bool n.leaf), kv26, dv27, vv28, (Value.int .i64 1)] ++ [])), setC fb (ks.erase (↑(leastF l)))]) [9, 0, 1, 2, 3, 4, 5, 6, 7, 8] rfl (by decide)
    obtain ⟨N38, M⟩ := M.nodesAdd (n := n) (u := true) (t := 1)
    replace M : Mem _ _ _ [nodesC N38 (cs ++ ([(Value.bool n.leaf), kv26, dv27, vv28, (Value.int .i64 1)] ++ [])) (l ++ [(⟨true, 1, n⟩ : RPlace)]), blk b15 (.cells #[(Value.bool false), (Value.slice none 0 0), (Value.slice none 0 0), (Value.slice none 0 0), (Value.int .i64 0)] 73), blk b11 (.cells #[(Value.int .i64 (↑(leastF l))), (Value.int .i64 1)] 29), blk b9 (.cells #[(Value.bool n.leaf), kv, dv, vv] 36), blk ab (.cells #[v17, (Value.map (some fb))] 71), own 73 5 v17 (l.length + 1) (cs ++ ([(Value.bool n.leaf), kv26, dv27, vv28, (Value.int .i64 1)] ++ [])), setC fb (ks.erase (↑(leastF l)))] [SlAt 1 kv n.keys.length (n.keys.flatMap strE), SlAt 2 dv n.kids.length (n.kids.flatMap handleE), SlAt 1 vv n.vals.length (n.vals.flatMap intE)] _ := M
    replace M := M.rechunk 5 (c' := own 73 5 v17 ((l ++ [(⟨true, 1, n⟩ : RPlace)]).length) (cs ++ ([(Value.bool n.leaf), kv26, dv27, vv28, (Value.int .i64 1)] ++ []))) rfl (by rw [List.length_append, List.length_singleton])
    replace M : Mem _ _ _ [nodesC N38 (cs ++ ([(Value.bool n.leaf), kv26, dv27, vv28, (Value.int .i64 1)] ++ [])) (l ++ [(⟨true, 1, n⟩ : RPlace)]), blk b15 (.cells #[(Value.bool false), (Value.slice none 0 0), (Value.slice none 0 0), (Value.slice none 0 0), (Value.int .i64 0)] 73), blk b11 (.cells #[(Value.int .i64 (↑(leastF l))), (Value.int .i64 1)] 29), blk b9 (.cells #[(Value.bool n.leaf), kv, dv, vv] 36), blk ab (.cells #[v17, (Value.map (some fb))] 71), own 73 5 v17 ((l ++ [(⟨true, 1, n⟩ : RPlace)]).length) (cs ++ ([(Value.bool n.leaf), kv26, dv27, vv28, (Value.int .i64 1)] ++ [])), setC fb (ks.erase (↑(leastF l)))] [SlAt 1 kv n.keys.length (n.keys.flatMap strE), SlAt 2 dv n.kids.length (n.kids.flatMap handleE), SlAt 1 vv n.vals.length (n.vals.flatMap intE)] _ := M
    replace M := M.sel (L' := [blk ab (.cells #[v17, (Value.map (some fb))] 71), own 73 5 v17 ((l ++ [(⟨true, 1, n⟩ : RPlace)]).length) (cs ++ ([(Value.bool n.leaf), kv26, dv27, vv28, (Value.int .i64 1)] ++ [])), setC fb (ks.erase (↑(leastF l))), nodesC N38 (cs ++ ([(Value.bool n.leaf), kv26, dv27, vv28, (Value.int .i64 1)] ++ [])) (l ++ [(⟨true, 1, n⟩ : RPlace)]), blk b15 (.cells #[(Value.bool false), (Value.slice none 0 0), (Value.slice none 0 0), (Value.slice none 0 0), (Value.int .i64 0)] 73), blk b11 (.cells #[(Value.int .i64 (↑(leastF l))), (Value.int .i64 1)] 29), blk b9 (.cells #[(Value.bool n.leaf), kv, dv, vv] 36)]) [4, 5, 6, 0, 1, 2, 3] rfl (by decide)
    replace M := Mem.pack (Ls := arenaL 71 73 ab (l ++ [(⟨true, 1, n⟩ : RPlace)])) (p := fun i => FreeOk i.ks (l ++ [(⟨true, 1, n⟩ : RPlace)])) (⟨v17, fb, (cs ++ ([(Value.bool n.leaf), kv26, dv27, vv28, (Value.int .i64 1)] ++ [])), ks.erase (↑(leastF l)), N38⟩ : ArI) M (free_make_new hK (by omega))
    replace M : Mem _ _ _ [arenaC 71 73 (Foots (arenaL 71 73 ab (l ++ [(⟨true, 1, n⟩ : RPlace)]) (⟨v17, fb, (cs ++ ([(Value.bool n.leaf), kv26, dv27, vv28, (Value.int .i64 1)] ++ [])), ks.erase (↑(leastF l)), N38⟩ : ArI))) ab (l ++ [(⟨true, 1, n⟩ : RPlace)]), blk b15 (.cells #[(Value.bool false), (Value.slice none 0 0), (Value.slice none 0 0), (Value.slice none 0 0), (Value.int .i64 0)] 73), blk b11 (.cells #[(Value.int .i64 (↑(leastF l))), (Value.int .i64 1)] 29), blk b9 (.cells #[(Value.bool n.leaf), kv, dv, vv] 36)] [SlAt 1 kv n.keys.length (n.keys.flatMap strE), SlAt 2 dv n.kids.length (n.kids.flatMap handleE), SlAt 1 vv n.vals.length (n.vals.flatMap intE)] _ := M
    have hr := rmake_new (l := l) (n := n) (by omega)
    rw [hr]
    exact ⟨_, rfl, M.close [0] rfl (by decide) trivial⟩
  ·
    have h14p : ¬ (↑(leastF l) : Int) = (↑l.length : Int) := by simpa using h14
    refine W.skip ?_
    refine W.seq' ?_
    refine W.region rfl ?_
    refine WL.step (v := (Value.pointer (some ⟨ab, 0, none⟩))) rfl (Step.move rfl) ?_
    refine WL.step (v := (Value.pointer (some ⟨ab, 0, none⟩))) rfl (Step.pure (by kernel_rfl)) ?_
    refine WL.step (v := (Value.pointer (some ⟨ab, 1, none⟩))) rfl (Step.pure (by kernel_rfl)) ?_
    refine WL.step (v := (Value.map (some fb))) rfl (Step.load1 Try.sc68 rfl ((M.cell 2 rfl 1).trans rfl)) ?_
    refine WL.step (v := (Value.int .i64 (↑(leastF l)))) rfl (Step.move rfl) ?_
    refine WL.act rfl (M.setDel 4 rfl hK.1 Try.mt68 rfl rfl) ?_
    rintro w39 ⟨M, -⟩
    replace M : Mem _ _ _ [blk b11 (.cells #[(Value.int .i64 0), (Value.int .i64 0)] 29), blk b9 (.cells #[(Value.bool n.leaf), kv, dv, vv] 36), blk ab (.cells #[pv, (Value.map (some fb))] 71), own 73 5 pv l.length cs, setC fb (ks.erase (↑(leastF l))), nodesC N cs l] [SlAt 1 kv n.keys.length (n.keys.flatMap strE), SlAt 2 dv n.kids.length (n.kids.flatMap handleE), SlAt 1 vv n.vals.length (n.vals.flatMap intE)] _ := M
    refine WL.nil ?_
    refine W.seq' ?_
    refine W.region rfl ?_
    refine WL.step (v := (Value.pointer (some ⟨ab, 0, none⟩))) rfl (Step.move rfl) ?_
    refine WL.step (v := (Value.pointer (some ⟨ab, 0, none⟩))) rfl (Step.pure (by kernel_rfl)) ?_
    refine WL.step (v := (Value.pointer (some ⟨ab, 0, none⟩))) rfl (Step.pure (by kernel_rfl)) ?_
    refine WL.step (v := pv) rfl (Step.load1 Try.sc69 rfl ((M.cell 2 rfl 0).trans rfl)) ?_
    refine WL.step (v := (Value.int .i64 (↑(leastF l)))) rfl (Step.move rfl) ?_
    obtain ⟨cap41, hb40⟩ := SlAt.base (own_slAt (M.chunk 3 rfl).inv) (by omega)
    obtain ⟨p42, hp42⟩ := elem_of_lt (xs := l) (i := leastF l) (by omega)
    obtain ⟨hs43, hs44, hs45, hs46, hs47⟩ := hA.2 _ _ hp42
    obtain ⟨kv48, dv49, vv50, sl51, sl52, sl53, hc54⟩ := place_cells (M.chunk 5 rfl).inv hp42
    refine WL.step (v := (Value.pointer (some ⟨(sBlk pv), sOff pv + (leastF l) * 5, none⟩))) rfl (Step.indexAddr (i := leastF l) (Try.un69).run Try.el73.sized rfl rfl (by omega) hb40 (by omega)) ?_
    refine WL.step (v := (Value.pointer (some ⟨(sBlk pv), sOff pv + (leastF l) * 5, none⟩))) rfl (Step.assign rfl) ?_
    refine WL.nil ?_
    refine W.seq' ?_
    refine W.region rfl ?_
    refine WL.step (v := (Value.pointer (some ⟨(sBlk pv), sOff pv + (leastF l) * 5, none⟩))) rfl (Step.move rfl) ?_
    refine WL.step (v := (Value.pointer (some ⟨(sBlk pv), sOff pv + (leastF l) * 5, none⟩))) rfl (Step.pure (by kernel_rfl)) ?_
    refine WL.step (v := (Value.pointer (some ⟨(sBlk pv), sOff pv + (leastF l) * 5 + 4, none⟩))) rfl (Step.pure (by kernel_rfl)) ?_
    refine WL.step (v := (Value.int .i64 p42.turn)) rfl (Step.loadE (k := 4) Try.sc3 (ec_row (own_slAt (M.chunk 3 rfl).inv) hc54 (by omega)) (by decide) rfl rfl) ?_
    refine WL.step (v := (Value.int .i64 (p42.turn + 1))) rfl (Step.add rfl rfl (wrap_i64 (by omega))) ?_
    refine WL.step (v := (Value.pointer (some ⟨(sBlk pv), sOff pv + (leastF l) * 5, none⟩))) rfl (Step.pure (by kernel_rfl)) ?_
    refine WL.step (v := (Value.pointer (some ⟨(sBlk pv), sOff pv + (leastF l) * 5 + 4, none⟩))) rfl (Step.pure (by kernel_rfl)) ?_
    obtain ⟨pre61, post62, kv55, dv56, vv57, sl58, sl59, sl60, hcs63, hpre64⟩ := place_open (M.chunk 5 rfl).inv hp42
    replace M := M.rechunk 3 (c' := own 73 5 pv l.length (pre61 ++ ([(Value.bool p42.node.leaf), kv55, dv56, vv57, (Value.int .i64 p42.turn)] ++ post62))) rfl (by rw [hcs63])
    replace M := M.rechunk 5 (c' := nodesC N (pre61 ++ ([(Value.bool p42.node.leaf), kv55, dv56, vv57, (Value.int .i64 p42.turn)] ++ post62)) l) rfl (by rw [hcs63])
    replace M : Mem _ _ _ [blk b11 (.cells #[(Value.int .i64 0), (Value.int .i64 0)] 29), blk b9 (.cells #[(Value.bool n.leaf), kv, dv, vv] 36), blk ab (.cells #[pv, (Value.map (some fb))] 71), own 73 5 pv l.length (pre61 ++ ([(Value.bool p42.node.leaf), kv55, dv56, vv57, (Value.int .i64 p42.turn)] ++ post62)), setC fb (ks.erase (↑(leastF l))), nodesC N (pre61 ++ ([(Value.bool p42.node.leaf), kv55, dv56, vv57, (Value.int .i64 p42.turn)] ++ post62)) l] [SlAt 1 kv n.keys.length (n.keys.flatMap strE), SlAt 2 dv n.kids.length (n.kids.flatMap handleE), SlAt 1 vv n.vals.length (n.vals.flatMap intE)] _ := M
    refine WL.act rfl (M.storeAt (cells := [(Value.bool p42.node.leaf), kv55, dv56, vv57, (Value.int .i64 p42.turn)]) (cells' := [(Value.bool p42.node.leaf), kv55, dv56, vv57, (Value.int .i64 (p42.turn + 1))]) (new := [(Value.int .i64 (p42.turn + 1))]) (k := 4) 3 rfl hpre64 Try.el3.sized rfl rfl rfl (cel_cons rfl cel_nil) (by first | omega | (simp only [List.length_set, List.length_append, List.length_cons, List.length_nil]; omega)) (Nat.le_of_ble_eq_true rfl) rfl rfl) ?_
    rintro w65 ⟨M, -⟩
    replace M : Mem _ _ _ [blk b11 (.cells #[(Value.int .i64 0), (Value.int .i64 0)] 29), blk b9 (.cells #[(Value.bool n.leaf), kv, dv, vv] 36), blk ab (.cells #[pv, (Value.map (some fb))] 71), own 73 5 pv l.length (pre61 ++ ([(Value.bool p42.node.leaf), kv55, dv56, vv57, (Value.int .i64 (p42.turn + 1))] ++ post62)), setC fb (ks.erase (↑(leastF l))), nodesC N (pre61 ++ ([(Value.bool p42.node.leaf), kv55, dv56, vv57, (Value.int .i64 p42.turn)] ++ post62)) l] [SlAt 1 kv n.keys.length (n.keys.flatMap strE), SlAt 2 dv n.kids.length (n.kids.flatMap handleE), SlAt 1 vv n.vals.length (n.vals.flatMap intE)] _ := M
    refine WL.nil ?_
    refine W.seq' ?_
    refine W.region rfl ?_
    refine WL.step (v := (Value.pointer (some ⟨(sBlk pv), sOff pv + (leastF l) * 5, none⟩))) rfl (Step.move rfl) ?_
    refine WL.step (v := (Value.agg #[(Value.bool n.leaf), kv, dv, vv])) rfl (Step.loadN Try.ag36 rfl (M.blk 1 rfl) (Nat.le_of_ble_eq_true rfl) rfl) ?_
    refine WL.callX rfl (copied kv dv vv n (by first | omega | (simp only [List.length_nil, List.length_cons]; omega) | decide) (by first | omega | (simp only [List.length_nil, List.length_cons]; omega) | decide) (by first | omega | (simp only [List.length_nil, List.length_cons]; omega) | decide) (M.enterW0 ⟨(M.wideR0 0 rfl), (M.wideR0 1 rfl), (M.wideR0 2 rfl), trivial⟩)) (CallsF.func Try.en29 rfl) ?_
    rintro _ w69 ⟨kv66, dv67, vv68, rfl, m⟩
    replace M := M.leaveW0 m
    clear m
    replace M : Mem _ _ _ [own 9 1 kv66 n.keys.length (n.keys.flatMap strE), own 29 2 dv67 n.kids.length (n.kids.flatMap handleE), own 3 1 vv68 n.vals.length (n.vals.flatMap intE), blk b11 (.cells #[(Value.int .i64 0), (Value.int .i64 0)] 29), blk b9 (.cells #[(Value.bool n.leaf), kv, dv, vv] 36), blk ab (.cells #[pv, (Value.map (some fb))] 71), own 73 5 pv l.length (pre61 ++ ([(Value.bool p42.node.leaf), kv55, dv56, vv57, (Value.int .i64 (p42.turn + 1))] ++ post62)), setC fb (ks.erase (↑(leastF l))), nodesC N (pre61 ++ ([(Value.bool p42.node.leaf), kv55, dv56, vv57, (Value.int .i64 p42.turn)] ++ post62)) l] [SlAt 1 kv n.keys.length (n.keys.flatMap strE), SlAt 2 dv n.kids.length (n.kids.flatMap handleE), SlAt 1 vv n.vals.length (n.vals.flatMap intE)] _ := M
    have sl70 : IsSl kv66 := SlAt.isSl (own_slAt (Mem.chunk M 0 rfl).inv)
    have hle71 := SlAt.le' (own_slAt (Mem.chunk M 0 rfl).inv)
    have sl72 : IsSl dv67 := SlAt.isSl (own_slAt (Mem.chunk M 1 rfl).inv)
    have hle73 := SlAt.le' (own_slAt (Mem.chunk M 1 rfl).inv)
    have sl74 : IsSl vv68 := SlAt.isSl (own_slAt (Mem.chunk M 2 rfl).inv)
    have hle75 := SlAt.le' (own_slAt (Mem.chunk M 2 rfl).inv)
    refine WL.step (v := (Value.pointer (some ⟨(sBlk pv), sOff pv + (leastF l) * 5, none⟩))) rfl (Step.pure (by kernel_rfl)) ?_
    refine WL.step (v := (Value.pointer (some ⟨(sBlk pv), sOff pv + (leastF l) * 5, none⟩))) rfl (Step.pure (by kernel_rfl)) ?_
    refine WL.act rfl (M.storeAt (cells := [(Value.bool p42.node.leaf), kv55, dv56, vv57, (Value.int .i64 (p42.turn + 1))]) (cells' := [(Value.bool n.leaf), kv66, dv67, vv68, (Value.int .i64 (p42.turn + 1))]) (new := [(Value.bool n.leaf), kv66, dv67, vv68]) (k := 0) 6 rfl hpre64 Try.el36.sized rfl rfl rfl (cel_cons rfl (cel_cons (IsSl.cel sl70) (cel_cons (IsSl.cel sl72) (cel_cons (IsSl.cel sl74) cel_nil)))) (by first | omega | (simp only [List.length_set, List.length_append, List.length_cons, List.length_nil]; omega)) (Nat.le_of_ble_eq_true rfl) rfl rfl) ?_
    rintro w76 ⟨M, -⟩
    replace M : Mem _ _ _ [own 9 1 kv66 n.keys.length (n.keys.flatMap strE), own 29 2 dv67 n.kids.length (n.kids.flatMap handleE), own 3 1 vv68 n.vals.length (n.vals.flatMap intE), blk b11 (.cells #[(Value.int .i64 0), (Value.int .i64 0)] 29), blk b9 (.cells #[(Value.bool n.leaf), kv, dv, vv] 36), blk ab (.cells #[pv, (Value.map (some fb))] 71), own 73 5 pv l.length (pre61 ++ ([(Value.bool n.leaf), kv66, dv67, vv68, (Value.int .i64 (p42.turn + 1))] ++ post62)), setC fb (ks.erase (↑(leastF l))), nodesC N (pre61 ++ ([(Value.bool p42.node.leaf), kv55, dv56, vv57, (Value.int .i64 p42.turn)] ++ post62)) l] [SlAt 1 kv n.keys.length (n.keys.flatMap strE), SlAt 2 dv n.kids.length (n.kids.flatMap handleE), SlAt 1 vv n.vals.length (n.vals.flatMap intE)] _ := M
    refine WL.nil ?_
    refine W.seq' ?_
    refine W.region rfl ?_
    refine WL.step (v := (Value.int .i64 (↑(leastF l)))) rfl (Step.move rfl) ?_
    refine WL.step (v := (Value.pointer (some ⟨(sBlk pv), sOff pv + (leastF l) * 5, none⟩))) rfl (Step.move rfl) ?_
    refine WL.step (v := (Value.pointer (some ⟨(sBlk pv), sOff pv + (leastF l) * 5, none⟩))) rfl (Step.pure (by kernel_rfl)) ?_
    refine WL.step (v := (Value.pointer (some ⟨(sBlk pv), sOff pv + (leastF l) * 5 + 4, none⟩))) rfl (Step.pure (by kernel_rfl)) ?_
    refine WL.step (v := (Value.int .i64 (p42.turn + 1))) rfl (Step.loadE (k := 4) Try.sc3 (ec_open (own_slAt (M.chunk 6 rfl).inv) hpre64 rfl (by first | omega | (simp only [List.length_set, List.length_append, List.length_cons, List.length_nil]; omega))) (by decide) rfl rfl) ?_
    refine WL.step (v := (Value.agg #[(Value.int .i64 (↑(leastF l))), (Value.int .i64 (p42.turn + 1))])) rfl (Step.pure (by kernel_rfl)) ?_
    refine WL.store (v := (Value.agg #[(Value.int .i64 (↑(leastF l))), (Value.int .i64 (p42.turn + 1))])) (cs := [(Value.int .i64 (↑(leastF l))), (Value.int .i64 (p42.turn + 1))]) (c' := #[(Value.int .i64 (↑(leastF l))), (Value.int .i64 (p42.turn + 1))]) M 3 rfl rfl Try.el29.sized rfl rfl rfl rfl (Nat.le_of_ble_eq_true rfl) (cel_cons rfl (cel_cons rfl cel_nil)) rfl rfl (fun w77 M => ?_)
    refine WL.nil ?_
    refine W.ret ?_
    refine ⟨.inl rfl, (Value.agg #[(Value.int .i64 (↑(leastF l))), (Value.int .i64 (p42.turn + 1))]), ?_, ?_⟩
    · exact (Res.r1 (RV.cellN Try.ag29 rfl (M.blk 3 rfl) rfl))
    replace M := M.sel (L' := [nodesC N (pre61 ++ ([(Value.bool p42.node.leaf), kv55, dv56, vv57, (Value.int .i64 p42.turn)] ++ post62)) l, own 9 1 kv66 n.keys.length (n.keys.flatMap strE), own 29 2 dv67 n.kids.length (n.kids.flatMap handleE), own 3 1 vv68 n.vals.length (n.vals.flatMap intE), blk b11 (.cells #[(Value.int .i64 (↑(leastF l))), (Value.int .i64 (p42.turn + 1))] 29), blk b9 (.cells #[(Value.bool n.leaf), kv, dv, vv] 36), blk ab (.cells #[pv, (Value.map (some fb))] 71), own 73 5 pv l.length (pre61 ++ ([(Value.bool n.leaf), kv66, dv67, vv68, (Value.int .i64 (p42.turn + 1))] ++ post62)), setC fb (ks.erase (↑(leastF l)))]) [8, 0, 1, 2, 3, 4, 5, 6, 7] rfl (by decide)
    obtain ⟨N78, M⟩ := M.nodesPut (n := n) (i := leastF l) (u := true) (t := p42.turn + 1) hpre64 rfl (by omega)
    replace M : Mem _ _ _ [nodesC N78 (pre61 ++ ([(Value.bool n.leaf), kv66, dv67, vv68, (Value.int .i64 (p42.turn + 1))] ++ post62)) (l.set (leastF l) (⟨true, p42.turn + 1, n⟩ : RPlace)), blk b11 (.cells #[(Value.int .i64 (↑(leastF l))), (Value.int .i64 (p42.turn + 1))] 29), blk b9 (.cells #[(Value.bool n.leaf), kv, dv, vv] 36), blk ab (.cells #[pv, (Value.map (some fb))] 71), own 73 5 pv l.length (pre61 ++ ([(Value.bool n.leaf), kv66, dv67, vv68, (Value.int .i64 (p42.turn + 1))] ++ post62)), setC fb (ks.erase (↑(leastF l)))] [SlAt 1 kv n.keys.length (n.keys.flatMap strE), SlAt 2 dv n.kids.length (n.kids.flatMap handleE), SlAt 1 vv n.vals.length (n.vals.flatMap intE)] _ := M
    replace M := M.rechunk 4 (c' := own 73 5 pv ((l.set (leastF l) (⟨true, p42.turn + 1, n⟩ : RPlace)).length) (pre61 ++ ([(Value.bool n.leaf), kv66, dv67, vv68, (Value.int .i64 (p42.turn + 1))] ++ post62))) rfl (by rw [List.length_set])
    replace M : Mem _ _ _ [nodesC N78 (pre61 ++ ([(Value.bool n.leaf), kv66, dv67, vv68, (Value.int .i64 (p42.turn + 1))] ++ post62)) (l.set (leastF l) (⟨true, p42.turn + 1, n⟩ : RPlace)), blk b11 (.cells #[(Value.int .i64 (↑(leastF l))), (Value.int .i64 (p42.turn + 1))] 29), blk b9 (.cells #[(Value.bool n.leaf), kv, dv, vv] 36), blk ab (.cells #[pv, (Value.map (some fb))] 71), own 73 5 pv ((l.set (leastF l) (⟨true, p42.turn + 1, n⟩ : RPlace)).length) (pre61 ++ ([(Value.bool n.leaf), kv66, dv67, vv68, (Value.int .i64 (p42.turn + 1))] ++ post62)), setC fb (ks.erase (↑(leastF l)))] [SlAt 1 kv n.keys.length (n.keys.flatMap strE), SlAt 2 dv n.kids.length (n.kids.flatMap handleE), SlAt 1 vv n.vals.length (n.vals.flatMap intE)] _ := M
    replace M := M.sel (L' := [blk ab (.cells #[pv, (Value.map (some fb))] 71), own 73 5 pv ((l.set (leastF l) (⟨true, p42.turn + 1, n⟩ : RPlace)).length) (pre61 ++ ([(Value.bool n.leaf), kv66, dv67, vv68, (Value.int .i64 (p42.turn + 1))] ++ post62)), setC fb (ks.erase (↑(leastF l))), nodesC N78 (pre61 ++ ([(Value.bool n.leaf), kv66, dv67, vv68, (Value.int .i64 (p42.turn + 1))] ++ post62)) (l.set (leastF l) (⟨true, p42.turn + 1, n⟩ : RPlace)), blk b11 (.cells #[(Value.int .i64 (↑(leastF l))), (Value.int .i64 (p42.turn + 1))] 29), blk b9 (.cells #[(Value.bool n.leaf), kv, dv, vv] 36)]) [3, 4, 5, 0, 1, 2] rfl (by decide)
    replace M := Mem.pack (Ls := arenaL 71 73 ab (l.set (leastF l) (⟨true, p42.turn + 1, n⟩ : RPlace))) (p := fun i => FreeOk i.ks (l.set (leastF l) (⟨true, p42.turn + 1, n⟩ : RPlace))) (⟨pv, fb, (pre61 ++ ([(Value.bool n.leaf), kv66, dv67, vv68, (Value.int .i64 (p42.turn + 1))] ++ post62)), ks.erase (↑(leastF l)), N78⟩ : ArI) M (free_make_old hK (by omega))
    replace M : Mem _ _ _ [arenaC 71 73 (Foots (arenaL 71 73 ab (l.set (leastF l) (⟨true, p42.turn + 1, n⟩ : RPlace)) (⟨pv, fb, (pre61 ++ ([(Value.bool n.leaf), kv66, dv67, vv68, (Value.int .i64 (p42.turn + 1))] ++ post62)), ks.erase (↑(leastF l)), N78⟩ : ArI))) ab (l.set (leastF l) (⟨true, p42.turn + 1, n⟩ : RPlace)), blk b11 (.cells #[(Value.int .i64 (↑(leastF l))), (Value.int .i64 (p42.turn + 1))] 29), blk b9 (.cells #[(Value.bool n.leaf), kv, dv, vv] 36)] [SlAt 1 kv n.keys.length (n.keys.flatMap strE), SlAt 2 dv n.kids.length (n.kids.flatMap handleE), SlAt 1 vv n.vals.length (n.vals.flatMap intE)] _ := M
    have hr := rmake_old (n := n) hp42
    rw [hr]
    exact ⟨_, rfl, M.close [0] rfl (by decide) trivial⟩

theorem make_nil {G : Nat → Prop} {w : World} (kv : Value) (dv : Value) (vv : Value) (n : Nd)  (M : Mem G (fun _ => False) w [] [SlAt 1 kv n.keys.length (n.keys.flatMap strE), SlAt 2 dv n.kids.length (n.kids.flatMap handleE), SlAt 1 vv n.vals.length (n.vals.flatMap intE)] w) : Rets Try.prog 13 #[(Value.pointer none), (Value.agg #[(Value.bool n.leaf), kv, dv, vv])] w fun r w' => r = (Value.agg #[(Value.int .i64 0), (Value.int .i64 0)]) ∧ Mem G (fun _ => False) w [] [] w' := by
  refine Rets.enter 58 _ Try.func13 rfl Try.ntmps13 Try.results13 (by simp) ?_
  have hle1 := SlAt.le' (M.rep 0 rfl)
  have hle2 := SlAt.le' (M.rep 1 rfl)
  have hle3 := SlAt.le' (M.rep 2 rfl)
  have sl4 : IsSl kv := SlAt.isSl (Mem.rep M 0 rfl)
  have sl5 : IsSl dv := SlAt.isSl (Mem.rep M 1 rfl)
  have sl6 : IsSl vv := SlAt.isSl (Mem.rep M 2 rfl)
  refine W.seq' ?_
  refine W.region rfl ?_
  refine WL.box (v := (Value.agg #[(Value.bool n.leaf), kv, dv, vv])) (c := #[(Value.bool n.leaf), kv, dv, vv]) M rfl rfl rfl (fun b7 w8 hb7 M => ?_)
  refine WL.alloc (c := #[(Value.int .i64 0), (Value.int .i64 0)]) M rfl Try.el29.zero rfl (fun b9 w10 hb9 M => ?_)
  refine WL.nil ?_
  refine W.seq' ?_
  refine W.seq' ?_
  refine W.region rfl ?_
  refine WL.step (v := (Value.pointer none)) rfl (Step.move rfl) ?_
  refine WL.step (v := (Value.bool true)) rfl (Step.pure (by kernel_rfl)) ?_
  refine WL.nil ?_
  refine W.cond (t := true) rfl (fun _ => ?_) (fun h => by cases h)
  refine W.seq' ?_
  refine W.region rfl ?_
  refine WL.step (v := (Value.agg #[(Value.int .i64 0), (Value.int .i64 0)])) rfl (Step.pure (by kernel_rfl)) ?_
  refine WL.store (v := (Value.agg #[(Value.int .i64 0), (Value.int .i64 0)])) (cs := [(Value.int .i64 0), (Value.int .i64 0)]) (c' := #[(Value.int .i64 0), (Value.int .i64 0)]) M 0 rfl rfl Try.el29.sized rfl rfl rfl rfl (Nat.le_of_ble_eq_true rfl) (cel_cons rfl (cel_cons rfl cel_nil)) rfl rfl (fun w11 M => ?_)
  refine WL.nil ?_
  refine W.ret ?_
  refine ⟨.inl rfl, (Value.agg #[(Value.int .i64 0), (Value.int .i64 0)]), ?_, ?_⟩
  · exact (Res.r1 (RV.cellN Try.ag29 rfl (M.blk 0 rfl) rfl))
  refine ⟨?_, M.close [] rfl (by decide) trivial⟩
  rfl

theorem ar_put {G X : Nat → Prop} {w : World} (ab : Nat) (l : List RPlace) (S : Nat → Prop) (h : Handle) (kv : Value) (dv : Value) (vv : Value) (n : Nd) (hA : SmallA l) (hkn : n.keys.length ≤ 1000000) (hdn : n.kids.length ≤ 1000000) (hvn : n.vals.length ≤ 1000000) (M : Mem G X w [arenaC 71 73 S ab l] [SlAt 1 kv n.keys.length (n.keys.flatMap strE), SlAt 2 dv n.kids.length (n.kids.flatMap handleE), SlAt 1 vv n.vals.length (n.vals.flatMap intE)] w) : Rets Try.prog 20 #[(Value.pointer (some ⟨ab, 0, none⟩)), (Value.agg #[(Value.int .i64 h.at_), (Value.int .i64 h.turn)]), (Value.agg #[(Value.bool n.leaf), kv, dv, vv])] w fun r w' => ∃ (S' : Nat → Prop), r = (Value.int .i64 ((rput l h n).2)) ∧ Mem G X w [arenaC 71 73 S' ab ((rput l h n).1)] [] w' := by
  refine Rets.enter 23 _ Try.func20 rfl Try.ntmps20 Try.results20 (by simp) ?_
  have hle1 := SlAt.le' (M.rep 0 rfl)
  have hle2 := SlAt.le' (M.rep 1 rfl)
  have hle3 := SlAt.le' (M.rep 2 rfl)
  have sl4 : IsSl kv := SlAt.isSl (Mem.rep M 0 rfl)
  have sl5 : IsSl dv := SlAt.isSl (Mem.rep M 1 rfl)
  have sl6 : IsSl vv := SlAt.isSl (Mem.rep M 2 rfl)
  obtain ⟨⟨pv, fb, cs, ks, N⟩, hK, hS, M⟩ := M.unpack
  replace hK : FreeOk ks l := hK
  have hcl := (M.chunk 1 rfl).inv.1
  simp only at hcl
  replace M : Mem _ _ _ [blk ab (.cells #[pv, (Value.map (some fb))] 71), own 73 5 pv l.length cs, setC fb ks, nodesC N cs l] [SlAt 1 kv n.keys.length (n.keys.flatMap strE), SlAt 2 dv n.kids.length (n.kids.flatMap handleE), SlAt 1 vv n.vals.length (n.vals.flatMap intE)] _ := M
  have sl7 : IsSl pv := SlAt.isSl (own_slAt (Mem.chunk M 1 rfl).inv)
  have hle8 := SlAt.le' (own_slAt (Mem.chunk M 1 rfl).inv)
  rcases Bool.eq_false_or_eq_true (rhas l h) with hh | hh
  ·
    obtain ⟨p, hp, hu, ht, h0, hlt⟩ := rhas_place hh
    obtain ⟨_, _, hs1, hs2, hs3⟩ := hA.2 _ _ hp
    refine W.seq' ?_
    refine W.region rfl ?_
    refine WL.box (v := (Value.agg #[(Value.int .i64 h.at_), (Value.int .i64 h.turn)])) (c := #[(Value.int .i64 h.at_), (Value.int .i64 h.turn)]) M rfl rfl rfl (fun b9 w10 hb9 M => ?_)
    refine WL.box (v := (Value.agg #[(Value.bool n.leaf), kv, dv, vv])) (c := #[(Value.bool n.leaf), kv, dv, vv]) M rfl rfl rfl (fun b11 w12 hb11 M => ?_)
    refine WL.step (v := (Value.int .i64 0)) rfl (Step.assign rfl) ?_
    refine WL.nil ?_
    refine W.seq' ?_
    refine W.region rfl ?_
    refine WL.step (v := (Value.pointer (some ⟨ab, 0, none⟩))) rfl (Step.move rfl) ?_
    refine WL.step (v := (Value.agg #[(Value.int .i64 h.at_), (Value.int .i64 h.turn)])) rfl (Step.loadN Try.ag29 rfl (M.blk 1 rfl) (Nat.le_of_ble_eq_true rfl) rfl) ?_
    refine WL.callX rfl (at_hit ab l (⟨pv, fb, cs, ks, N⟩ : ArI) h hK hh (M.enterW (C := [blk ab (.cells #[pv, (Value.map (some fb))] 71), own 73 5 pv l.length cs, setC fb ks, nodesC N cs l]) (D := [blk b11 (.cells #[(Value.bool n.leaf), kv, dv, vv] 36), blk b9 (.cells #[(Value.int .i64 h.at_), (Value.int .i64 h.turn)] 29)]) [2, 3, 4, 5, 0, 1] rfl (by decide) trivial)) (CallsF.func Try.en30 rfl) ?_
    rintro _ w13 ⟨rfl, m⟩
    replace M := M.leaveW (C := [blk ab (.cells #[pv, (Value.map (some fb))] 71), own 73 5 pv l.length cs, setC fb ks, nodesC N cs l]) (D := [blk b11 (.cells #[(Value.bool n.leaf), kv, dv, vv] 36), blk b9 (.cells #[(Value.int .i64 h.at_), (Value.int .i64 h.turn)] 29)]) [2, 3, 4, 5, 0, 1] rfl (by decide) m
    replace M := M.sel (L' := [blk b11 (.cells #[(Value.bool n.leaf), kv, dv, vv] 36), blk b9 (.cells #[(Value.int .i64 h.at_), (Value.int .i64 h.turn)] 29), blk ab (.cells #[pv, (Value.map (some fb))] 71), own 73 5 pv l.length cs, setC fb ks, nodesC N cs l]) [4, 5, 0, 1, 2, 3] rfl (by decide)
    clear m
    replace M : Mem _ _ _ [blk b11 (.cells #[(Value.bool n.leaf), kv, dv, vv] 36), blk b9 (.cells #[(Value.int .i64 h.at_), (Value.int .i64 h.turn)] 29), blk ab (.cells #[pv, (Value.map (some fb))] 71), own 73 5 pv l.length cs, setC fb ks, nodesC N cs l] [SlAt 1 kv n.keys.length (n.keys.flatMap strE), SlAt 2 dv n.kids.length (n.kids.flatMap handleE), SlAt 1 vv n.vals.length (n.vals.flatMap intE)] _ := M
    refine WL.step (v := (Value.tuple #[(Value.pointer (some ⟨(sBlk pv), sOff pv + h.at_.toNat * 5, none⟩)), (Value.int .i64 0)])) rfl (Step.move rfl) ?_
    refine WL.step (v := (Value.pointer (some ⟨(sBlk pv), sOff pv + h.at_.toNat * 5, none⟩))) rfl (Step.pure (by kernel_rfl)) ?_
    refine WL.step (v := (Value.int .i64 0)) rfl (Step.pure (by kernel_rfl)) ?_
    refine WL.step (v := (Value.pointer (some ⟨(sBlk pv), sOff pv + h.at_.toNat * 5, none⟩))) rfl (Step.assign rfl) ?_
    refine WL.step (v := (Value.int .i64 0)) rfl (Step.assign rfl) ?_
    refine WL.nil ?_
    refine W.seq' ?_
    refine W.seq' ?_
    refine W.region rfl ?_
    refine WL.step (v := (Value.int .i64 0)) rfl (Step.move rfl) ?_
    refine WL.step (v := (Value.bool true)) rfl (Step.pure (by kernel_rfl)) ?_
    refine WL.nil ?_
    refine W.cond (t := true) rfl (fun _ => ?_) (fun h => by cases h)
    refine W.region rfl ?_
    refine WL.step (v := (Value.pointer (some ⟨(sBlk pv), sOff pv + h.at_.toNat * 5, none⟩))) rfl (Step.move rfl) ?_
    refine WL.step (v := (Value.agg #[(Value.bool n.leaf), kv, dv, vv])) rfl (Step.loadN Try.ag36 rfl (M.blk 0 rfl) (Nat.le_of_ble_eq_true rfl) rfl) ?_
    refine WL.callX rfl (copied kv dv vv n (by first | omega | (simp only [List.length_nil, List.length_cons]; omega) | decide) (by first | omega | (simp only [List.length_nil, List.length_cons]; omega) | decide) (by first | omega | (simp only [List.length_nil, List.length_cons]; omega) | decide) (M.enterW0 ⟨(M.wideR0 0 rfl), (M.wideR0 1 rfl), (M.wideR0 2 rfl), trivial⟩)) (CallsF.func Try.en29 rfl) ?_
    rintro _ w17 ⟨kv14, dv15, vv16, rfl, m⟩
    replace M := M.leaveW0 m
    clear m
    replace M : Mem _ _ _ [own 9 1 kv14 n.keys.length (n.keys.flatMap strE), own 29 2 dv15 n.kids.length (n.kids.flatMap handleE), own 3 1 vv16 n.vals.length (n.vals.flatMap intE), blk b11 (.cells #[(Value.bool n.leaf), kv, dv, vv] 36), blk b9 (.cells #[(Value.int .i64 h.at_), (Value.int .i64 h.turn)] 29), blk ab (.cells #[pv, (Value.map (some fb))] 71), own 73 5 pv l.length cs, setC fb ks, nodesC N cs l] [SlAt 1 kv n.keys.length (n.keys.flatMap strE), SlAt 2 dv n.kids.length (n.kids.flatMap handleE), SlAt 1 vv n.vals.length (n.vals.flatMap intE)] _ := M
    have sl18 : IsSl kv14 := SlAt.isSl (own_slAt (Mem.chunk M 0 rfl).inv)
    have hle19 := SlAt.le' (own_slAt (Mem.chunk M 0 rfl).inv)
    have sl20 : IsSl dv15 := SlAt.isSl (own_slAt (Mem.chunk M 1 rfl).inv)
    have hle21 := SlAt.le' (own_slAt (Mem.chunk M 1 rfl).inv)
    have sl22 : IsSl vv16 := SlAt.isSl (own_slAt (Mem.chunk M 2 rfl).inv)
    have hle23 := SlAt.le' (own_slAt (Mem.chunk M 2 rfl).inv)
    refine WL.step (v := (Value.pointer (some ⟨(sBlk pv), sOff pv + h.at_.toNat * 5, none⟩))) rfl (Step.pure (by kernel_rfl)) ?_
    refine WL.step (v := (Value.pointer (some ⟨(sBlk pv), sOff pv + h.at_.toNat * 5, none⟩))) rfl (Step.pure (by kernel_rfl)) ?_
    obtain ⟨pre31, post32, kv25, dv26, vv27, sl28, sl29, sl30, hcs33, hpre34⟩ := place_open (M.chunk 8 rfl).inv hp
    replace M := M.rechunk 6 (c' := own 73 5 pv l.length (pre31 ++ ([(Value.bool p.node.leaf), kv25, dv26, vv27, (Value.int .i64 p.turn)] ++ post32))) rfl (by rw [hcs33])
    replace M := M.rechunk 8 (c' := nodesC N (pre31 ++ ([(Value.bool p.node.leaf), kv25, dv26, vv27, (Value.int .i64 p.turn)] ++ post32)) l) rfl (by rw [hcs33])
    replace M : Mem _ _ _ [own 9 1 kv14 n.keys.length (n.keys.flatMap strE), own 29 2 dv15 n.kids.length (n.kids.flatMap handleE), own 3 1 vv16 n.vals.length (n.vals.flatMap intE), blk b11 (.cells #[(Value.bool n.leaf), kv, dv, vv] 36), blk b9 (.cells #[(Value.int .i64 h.at_), (Value.int .i64 h.turn)] 29), blk ab (.cells #[pv, (Value.map (some fb))] 71), own 73 5 pv l.length (pre31 ++ ([(Value.bool p.node.leaf), kv25, dv26, vv27, (Value.int .i64 p.turn)] ++ post32)), setC fb ks, nodesC N (pre31 ++ ([(Value.bool p.node.leaf), kv25, dv26, vv27, (Value.int .i64 p.turn)] ++ post32)) l] [SlAt 1 kv n.keys.length (n.keys.flatMap strE), SlAt 2 dv n.kids.length (n.kids.flatMap handleE), SlAt 1 vv n.vals.length (n.vals.flatMap intE)] _ := M
    refine WL.act rfl (M.storeAt (cells := [(Value.bool p.node.leaf), kv25, dv26, vv27, (Value.int .i64 p.turn)]) (cells' := [(Value.bool n.leaf), kv14, dv15, vv16, (Value.int .i64 p.turn)]) (new := [(Value.bool n.leaf), kv14, dv15, vv16]) (k := 0) 6 rfl hpre34 Try.el36.sized rfl rfl rfl (cel_cons rfl (cel_cons (IsSl.cel sl18) (cel_cons (IsSl.cel sl20) (cel_cons (IsSl.cel sl22) cel_nil)))) (by first | omega | (simp only [List.length_set, List.length_append, List.length_cons, List.length_nil]; omega)) (Nat.le_of_ble_eq_true rfl) rfl rfl) ?_
    rintro w35 ⟨M, -⟩
    replace M : Mem _ _ _ [own 9 1 kv14 n.keys.length (n.keys.flatMap strE), own 29 2 dv15 n.kids.length (n.kids.flatMap handleE), own 3 1 vv16 n.vals.length (n.vals.flatMap intE), blk b11 (.cells #[(Value.bool n.leaf), kv, dv, vv] 36), blk b9 (.cells #[(Value.int .i64 h.at_), (Value.int .i64 h.turn)] 29), blk ab (.cells #[pv, (Value.map (some fb))] 71), own 73 5 pv l.length (pre31 ++ ([(Value.bool n.leaf), kv14, dv15, vv16, (Value.int .i64 p.turn)] ++ post32)), setC fb ks, nodesC N (pre31 ++ ([(Value.bool p.node.leaf), kv25, dv26, vv27, (Value.int .i64 p.turn)] ++ post32)) l] [SlAt 1 kv n.keys.length (n.keys.flatMap strE), SlAt 2 dv n.kids.length (n.kids.flatMap handleE), SlAt 1 vv n.vals.length (n.vals.flatMap intE)] _ := M
    refine WL.nil ?_
    refine W.seq' ?_
    refine W.region rfl ?_
    refine WL.step (v := (Value.int .i64 0)) rfl (Step.move rfl) ?_
    refine WL.step (v := (Value.int .i64 0)) rfl (Step.assign rfl) ?_
    refine WL.nil ?_
    refine W.ret ?_
    refine ⟨.inl rfl, (Value.int .i64 0), ?_, ?_⟩
    · exact (Res.r1 (show RV _ _ _ (.tmp 6) (Value.int .i64 0) from by exact rfl))
    replace M := M.sel (L' := [nodesC N (pre31 ++ ([(Value.bool p.node.leaf), kv25, dv26, vv27, (Value.int .i64 p.turn)] ++ post32)) l, own 9 1 kv14 n.keys.length (n.keys.flatMap strE), own 29 2 dv15 n.kids.length (n.kids.flatMap handleE), own 3 1 vv16 n.vals.length (n.vals.flatMap intE), blk b11 (.cells #[(Value.bool n.leaf), kv, dv, vv] 36), blk b9 (.cells #[(Value.int .i64 h.at_), (Value.int .i64 h.turn)] 29), blk ab (.cells #[pv, (Value.map (some fb))] 71), own 73 5 pv l.length (pre31 ++ ([(Value.bool n.leaf), kv14, dv15, vv16, (Value.int .i64 p.turn)] ++ post32)), setC fb ks]) [8, 0, 1, 2, 3, 4, 5, 6, 7] rfl (by decide)
    obtain ⟨N36, M⟩ := M.nodesPut (n := n) (i := h.at_.toNat) (u := true) (t := p.turn) hpre34 rfl (by omega)
    replace M : Mem _ _ _ [nodesC N36 (pre31 ++ ([(Value.bool n.leaf), kv14, dv15, vv16, (Value.int .i64 p.turn)] ++ post32)) (l.set h.at_.toNat (⟨true, p.turn, n⟩ : RPlace)), blk b11 (.cells #[(Value.bool n.leaf), kv, dv, vv] 36), blk b9 (.cells #[(Value.int .i64 h.at_), (Value.int .i64 h.turn)] 29), blk ab (.cells #[pv, (Value.map (some fb))] 71), own 73 5 pv l.length (pre31 ++ ([(Value.bool n.leaf), kv14, dv15, vv16, (Value.int .i64 p.turn)] ++ post32)), setC fb ks] [SlAt 1 kv n.keys.length (n.keys.flatMap strE), SlAt 2 dv n.kids.length (n.kids.flatMap handleE), SlAt 1 vv n.vals.length (n.vals.flatMap intE)] _ := M
    replace M := M.rechunk 4 (c' := own 73 5 pv ((l.set h.at_.toNat (⟨true, p.turn, n⟩ : RPlace)).length) (pre31 ++ ([(Value.bool n.leaf), kv14, dv15, vv16, (Value.int .i64 p.turn)] ++ post32))) rfl (by rw [List.length_set])
    replace M : Mem _ _ _ [nodesC N36 (pre31 ++ ([(Value.bool n.leaf), kv14, dv15, vv16, (Value.int .i64 p.turn)] ++ post32)) (l.set h.at_.toNat (⟨true, p.turn, n⟩ : RPlace)), blk b11 (.cells #[(Value.bool n.leaf), kv, dv, vv] 36), blk b9 (.cells #[(Value.int .i64 h.at_), (Value.int .i64 h.turn)] 29), blk ab (.cells #[pv, (Value.map (some fb))] 71), own 73 5 pv ((l.set h.at_.toNat (⟨true, p.turn, n⟩ : RPlace)).length) (pre31 ++ ([(Value.bool n.leaf), kv14, dv15, vv16, (Value.int .i64 p.turn)] ++ post32)), setC fb ks] [SlAt 1 kv n.keys.length (n.keys.flatMap strE), SlAt 2 dv n.kids.length (n.kids.flatMap handleE), SlAt 1 vv n.vals.length (n.vals.flatMap intE)] _ := M
    rw [rput_hit hh, ← ht]
    replace M := M.sel (L' := [blk ab (.cells #[pv, (Value.map (some fb))] 71), own 73 5 pv ((l.set h.at_.toNat (⟨true, p.turn, n⟩ : RPlace)).length) (pre31 ++ ([(Value.bool n.leaf), kv14, dv15, vv16, (Value.int .i64 p.turn)] ++ post32)), setC fb ks, nodesC N36 (pre31 ++ ([(Value.bool n.leaf), kv14, dv15, vv16, (Value.int .i64 p.turn)] ++ post32)) (l.set h.at_.toNat (⟨true, p.turn, n⟩ : RPlace)), blk b11 (.cells #[(Value.bool n.leaf), kv, dv, vv] 36), blk b9 (.cells #[(Value.int .i64 h.at_), (Value.int .i64 h.turn)] 29)]) [3, 4, 5, 0, 1, 2] rfl (by decide)
    replace M := Mem.pack (Ls := arenaL 71 73 ab (l.set h.at_.toNat (⟨true, p.turn, n⟩ : RPlace))) (p := fun i => FreeOk i.ks (l.set h.at_.toNat (⟨true, p.turn, n⟩ : RPlace))) (⟨pv, fb, (pre31 ++ ([(Value.bool n.leaf), kv14, dv15, vv16, (Value.int .i64 p.turn)] ++ post32)), ks, N36⟩ : ArI) M (free_set_used hK hp hu)
    replace M : Mem _ _ _ [arenaC 71 73 (Foots (arenaL 71 73 ab (l.set h.at_.toNat (⟨true, p.turn, n⟩ : RPlace)) (⟨pv, fb, (pre31 ++ ([(Value.bool n.leaf), kv14, dv15, vv16, (Value.int .i64 p.turn)] ++ post32)), ks, N36⟩ : ArI))) ab (l.set h.at_.toNat (⟨true, p.turn, n⟩ : RPlace)), blk b11 (.cells #[(Value.bool n.leaf), kv, dv, vv] 36), blk b9 (.cells #[(Value.int .i64 h.at_), (Value.int .i64 h.turn)] 29)] [SlAt 1 kv n.keys.length (n.keys.flatMap strE), SlAt 2 dv n.kids.length (n.kids.flatMap handleE), SlAt 1 vv n.vals.length (n.vals.flatMap intE)] _ := M
    exact ⟨_, rfl, M.close [0] rfl (by decide) trivial⟩
  ·
    refine W.seq' ?_
    refine W.region rfl ?_
    refine WL.box (v := (Value.agg #[(Value.int .i64 h.at_), (Value.int .i64 h.turn)])) (c := #[(Value.int .i64 h.at_), (Value.int .i64 h.turn)]) M rfl rfl rfl (fun b37 w38 hb37 M => ?_)
    refine WL.box (v := (Value.agg #[(Value.bool n.leaf), kv, dv, vv])) (c := #[(Value.bool n.leaf), kv, dv, vv]) M rfl rfl rfl (fun b39 w40 hb39 M => ?_)
    refine WL.step (v := (Value.int .i64 0)) rfl (Step.assign rfl) ?_
    refine WL.nil ?_
    refine W.seq' ?_
    refine W.region rfl ?_
    refine WL.step (v := (Value.pointer (some ⟨ab, 0, none⟩))) rfl (Step.move rfl) ?_
    refine WL.step (v := (Value.agg #[(Value.int .i64 h.at_), (Value.int .i64 h.turn)])) rfl (Step.loadN Try.ag29 rfl (M.blk 1 rfl) (Nat.le_of_ble_eq_true rfl) rfl) ?_
    refine WL.callX rfl (at_miss ab l (⟨pv, fb, cs, ks, N⟩ : ArI) h hK hh (M.enterW (C := [blk ab (.cells #[pv, (Value.map (some fb))] 71), own 73 5 pv l.length cs, setC fb ks, nodesC N cs l]) (D := [blk b39 (.cells #[(Value.bool n.leaf), kv, dv, vv] 36), blk b37 (.cells #[(Value.int .i64 h.at_), (Value.int .i64 h.turn)] 29)]) [2, 3, 4, 5, 0, 1] rfl (by decide) trivial)) (CallsF.func Try.en30 rfl) ?_
    rintro _ w41 ⟨rfl, m⟩
    replace M := M.leaveW (C := [blk ab (.cells #[pv, (Value.map (some fb))] 71), own 73 5 pv l.length cs, setC fb ks, nodesC N cs l]) (D := [blk b39 (.cells #[(Value.bool n.leaf), kv, dv, vv] 36), blk b37 (.cells #[(Value.int .i64 h.at_), (Value.int .i64 h.turn)] 29)]) [2, 3, 4, 5, 0, 1] rfl (by decide) m
    replace M := M.sel (L' := [blk b39 (.cells #[(Value.bool n.leaf), kv, dv, vv] 36), blk b37 (.cells #[(Value.int .i64 h.at_), (Value.int .i64 h.turn)] 29), blk ab (.cells #[pv, (Value.map (some fb))] 71), own 73 5 pv l.length cs, setC fb ks, nodesC N cs l]) [4, 5, 0, 1, 2, 3] rfl (by decide)
    clear m
    replace M : Mem _ _ _ [blk b39 (.cells #[(Value.bool n.leaf), kv, dv, vv] 36), blk b37 (.cells #[(Value.int .i64 h.at_), (Value.int .i64 h.turn)] 29), blk ab (.cells #[pv, (Value.map (some fb))] 71), own 73 5 pv l.length cs, setC fb ks, nodesC N cs l] [SlAt 1 kv n.keys.length (n.keys.flatMap strE), SlAt 2 dv n.kids.length (n.kids.flatMap handleE), SlAt 1 vv n.vals.length (n.vals.flatMap intE)] _ := M
    refine WL.step (v := (Value.tuple #[(Value.pointer none), (Value.int .i64 110)])) rfl (Step.move rfl) ?_
    refine WL.step (v := (Value.pointer none)) rfl (Step.pure (by kernel_rfl)) ?_
    refine WL.step (v := (Value.int .i64 110)) rfl (Step.pure (by kernel_rfl)) ?_
    refine WL.step (v := (Value.pointer none)) rfl (Step.assign rfl) ?_
    refine WL.step (v := (Value.int .i64 110)) rfl (Step.assign rfl) ?_
    refine WL.nil ?_
    refine W.seq' ?_
    refine W.seq' ?_
    refine W.region rfl ?_
    refine WL.step (v := (Value.int .i64 110)) rfl (Step.move rfl) ?_
    refine WL.step (v := (Value.bool false)) rfl (Step.pure (by kernel_rfl)) ?_
    refine WL.nil ?_
    refine W.cond (t := false) rfl (fun h => by cases h) (fun _ => ?_)
    refine W.skip ?_
    refine W.seq' ?_
    refine W.region rfl ?_
    refine WL.step (v := (Value.int .i64 110)) rfl (Step.move rfl) ?_
    refine WL.step (v := (Value.int .i64 110)) rfl (Step.assign rfl) ?_
    refine WL.nil ?_
    refine W.ret ?_
    refine ⟨.inl rfl, (Value.int .i64 110), ?_, ?_⟩
    · exact (Res.r1 (show RV _ _ _ (.tmp 6) (Value.int .i64 110) from by exact rfl))
    rw [rput_miss hh]
    replace M := M.sel (L' := [blk ab (.cells #[pv, (Value.map (some fb))] 71), own 73 5 pv l.length cs, setC fb ks, nodesC N cs l, blk b39 (.cells #[(Value.bool n.leaf), kv, dv, vv] 36), blk b37 (.cells #[(Value.int .i64 h.at_), (Value.int .i64 h.turn)] 29)]) [2, 3, 4, 5, 0, 1] rfl (by decide)
    replace M := Mem.pack (Ls := arenaL 71 73 ab l) (p := fun i => FreeOk i.ks l) (⟨pv, fb, cs, ks, N⟩ : ArI) M hK
    replace M : Mem _ _ _ [arenaC 71 73 (Foots (arenaL 71 73 ab l (⟨pv, fb, cs, ks, N⟩ : ArI))) ab l, blk b39 (.cells #[(Value.bool n.leaf), kv, dv, vv] 36), blk b37 (.cells #[(Value.int .i64 h.at_), (Value.int .i64 h.turn)] 29)] [SlAt 1 kv n.keys.length (n.keys.flatMap strE), SlAt 2 dv n.kids.length (n.kids.flatMap handleE), SlAt 1 vv n.vals.length (n.vals.flatMap intE)] _ := M
    exact ⟨_, rfl, M.close [0] rfl (by decide) trivial⟩

theorem put_nil {G : Nat → Prop} {w : World} (h : Handle) (kv : Value) (dv : Value) (vv : Value) (n : Nd)  (M : Mem G (fun _ => False) w [] [SlAt 1 kv n.keys.length (n.keys.flatMap strE), SlAt 2 dv n.kids.length (n.kids.flatMap handleE), SlAt 1 vv n.vals.length (n.vals.flatMap intE)] w) : Rets Try.prog 20 #[(Value.pointer none), (Value.agg #[(Value.int .i64 h.at_), (Value.int .i64 h.turn)]), (Value.agg #[(Value.bool n.leaf), kv, dv, vv])] w fun r w' => r = (Value.int .i64 1) ∧ Mem G (fun _ => False) w [] [] w' := by
  refine Rets.enter 23 _ Try.func20 rfl Try.ntmps20 Try.results20 (by simp) ?_
  have hle1 := SlAt.le' (M.rep 0 rfl)
  have hle2 := SlAt.le' (M.rep 1 rfl)
  have hle3 := SlAt.le' (M.rep 2 rfl)
  have sl4 : IsSl kv := SlAt.isSl (Mem.rep M 0 rfl)
  have sl5 : IsSl dv := SlAt.isSl (Mem.rep M 1 rfl)
  have sl6 : IsSl vv := SlAt.isSl (Mem.rep M 2 rfl)
  refine W.seq' ?_
  refine W.region rfl ?_
  refine WL.box (v := (Value.agg #[(Value.int .i64 h.at_), (Value.int .i64 h.turn)])) (c := #[(Value.int .i64 h.at_), (Value.int .i64 h.turn)]) M rfl rfl rfl (fun b7 w8 hb7 M => ?_)
  refine WL.box (v := (Value.agg #[(Value.bool n.leaf), kv, dv, vv])) (c := #[(Value.bool n.leaf), kv, dv, vv]) M rfl rfl rfl (fun b9 w10 hb9 M => ?_)
  refine WL.step (v := (Value.int .i64 0)) rfl (Step.assign rfl) ?_
  refine WL.nil ?_
  refine W.seq' ?_
  refine W.region rfl ?_
  refine WL.step (v := (Value.pointer none)) rfl (Step.move rfl) ?_
  refine WL.step (v := (Value.agg #[(Value.int .i64 h.at_), (Value.int .i64 h.turn)])) rfl (Step.loadN Try.ag29 rfl (M.blk 1 rfl) (Nat.le_of_ble_eq_true rfl) rfl) ?_
  refine WL.callX rfl (at_nil h (M.enterW0 trivial)) (CallsF.func Try.en30 rfl) ?_
  rintro _ w11 ⟨rfl, m⟩
  replace M := M.leaveW0 m
  clear m
  replace M : Mem _ _ _ [blk b9 (.cells #[(Value.bool n.leaf), kv, dv, vv] 36), blk b7 (.cells #[(Value.int .i64 h.at_), (Value.int .i64 h.turn)] 29)] [SlAt 1 kv n.keys.length (n.keys.flatMap strE), SlAt 2 dv n.kids.length (n.kids.flatMap handleE), SlAt 1 vv n.vals.length (n.vals.flatMap intE)] _ := M
  refine WL.step (v := (Value.tuple #[(Value.pointer none), (Value.int .i64 1)])) rfl (Step.move rfl) ?_
  refine WL.step (v := (Value.pointer none)) rfl (Step.pure (by kernel_rfl)) ?_
  refine WL.step (v := (Value.int .i64 1)) rfl (Step.pure (by kernel_rfl)) ?_
  refine WL.step (v := (Value.pointer none)) rfl (Step.assign rfl) ?_
  refine WL.step (v := (Value.int .i64 1)) rfl (Step.assign rfl) ?_
  refine WL.nil ?_
  refine W.seq' ?_
  refine W.seq' ?_
  refine W.region rfl ?_
  refine WL.step (v := (Value.int .i64 1)) rfl (Step.move rfl) ?_
  refine WL.step (v := (Value.bool false)) rfl (Step.pure (by kernel_rfl)) ?_
  refine WL.nil ?_
  refine W.cond (t := false) rfl (fun h => by cases h) (fun _ => ?_)
  refine W.skip ?_
  refine W.seq' ?_
  refine W.region rfl ?_
  refine WL.step (v := (Value.int .i64 1)) rfl (Step.move rfl) ?_
  refine WL.step (v := (Value.int .i64 1)) rfl (Step.assign rfl) ?_
  refine WL.nil ?_
  refine W.ret ?_
  refine ⟨.inl rfl, (Value.int .i64 1), ?_, ?_⟩
  · exact (Res.r1 (show RV _ _ _ (.tmp 6) (Value.int .i64 1) from by exact rfl))
  refine ⟨?_, M.close [] rfl (by decide) trivial⟩
  rfl

theorem ar_len {G X : Nat → Prop} {w : World} (ab : Nat) (l : List RPlace) (S : Nat → Prop)  (M : Mem G X w [arenaC 71 73 S ab l] [] w) : Rets Try.prog 15 #[(Value.pointer (some ⟨ab, 0, none⟩))] w fun r w' => r = (Value.tuple #[(Value.int .i64 (↑(usedN l))), (Value.int .i64 ↑l.length)]) ∧ Mem G X w [arenaC 71 73 S ab l] [] w' := by
  refine Rets.enter 22 _ Try.func15 rfl Try.ntmps15 Try.results15 (by simp) ?_
  obtain ⟨⟨pv, fb, cs, ks, N⟩, hK, hS, M⟩ := M.unpack
  replace hK : FreeOk ks l := hK
  have hcl := (M.chunk 1 rfl).inv.1
  simp only at hcl
  replace M : Mem _ _ _ [blk ab (.cells #[pv, (Value.map (some fb))] 71), own 73 5 pv l.length cs, setC fb ks, nodesC N cs l] [] _ := M
  have sl1 : IsSl pv := SlAt.isSl (own_slAt (Mem.chunk M 1 rfl).inv)
  have hle2 := SlAt.le' (own_slAt (Mem.chunk M 1 rfl).inv)
  have hfl := free_len hK
  refine W.seq' ?_
  refine W.region rfl ?_
  refine WL.step (v := (Value.int .i64 0)) rfl (Step.assign rfl) ?_
  refine WL.step (v := (Value.int .i64 0)) rfl (Step.assign rfl) ?_
  refine WL.nil ?_
  refine W.seq' ?_
  refine W.seq' ?_
  refine W.region rfl ?_
  refine WL.step (v := (Value.pointer (some ⟨ab, 0, none⟩))) rfl (Step.move rfl) ?_
  refine WL.step (v := (Value.bool false)) rfl (Step.pure (by kernel_rfl)) ?_
  refine WL.nil ?_
  refine W.cond (t := false) rfl (fun h => by cases h) (fun _ => ?_)
  refine W.skip ?_
  refine W.seq' ?_
  refine W.drawn M [0, 1, 2, 3, 4, 5, 6, 7, 8, 9, 10, 11, 12, 13, 14, 15, 16, 17] [] [] [blk ab (.cells #[pv, (Value.map (some fb))] 71), own 73 5 pv l.length cs, setC fb ks, nodesC N cs l] [] (List.Sublist.cons_cons _ (List.Sublist.cons_cons _ (List.Sublist.cons_cons _ (List.Sublist.cons_cons _ List.Sublist.slnil)))) (fun _ h => h) Try.mixed (by kernel_rfl) ?_
  refine TW.pure (v := (Value.pointer (some ⟨ab, 0, none⟩))) rfl (by decide) (by decide) rfl (fun w => (Step.move rfl)) ?_
  refine TW.pure (v := (Value.pointer (some ⟨ab, 0, none⟩))) rfl (by decide) (by decide) rfl (fun w => (Step.pure (by kernel_rfl))) ?_
  refine TW.pure (v := (Value.pointer (some ⟨ab, 0, none⟩))) rfl (by decide) (by decide) rfl (fun w => (Step.pure (by kernel_rfl))) ?_
  refine TW.read (v := pv) rfl (by decide) (by decide) rfl (fun A w M => (Step.load1 Try.sc69 rfl ((M.cell 1 rfl 0).trans rfl))) ?_
  refine TW.read (v := (Value.int .i64 ↑l.length)) rfl (by decide) (by decide) rfl (fun A w M => (Step.lenSl Try.un69 rfl (own_slAt (M.chunk 2 rfl).inv))) ?_
  refine TW.pure (v := (Value.pointer (some ⟨ab, 0, none⟩))) rfl (by decide) (by decide) rfl (fun w => (Step.move rfl)) ?_
  refine TW.pure (v := (Value.pointer (some ⟨ab, 0, none⟩))) rfl (by decide) (by decide) rfl (fun w => (Step.pure (by kernel_rfl))) ?_
  refine TW.pure (v := (Value.pointer (some ⟨ab, 1, none⟩))) rfl (by decide) (by decide) rfl (fun w => (Step.pure (by kernel_rfl))) ?_
  refine TW.read (v := (Value.map (some fb))) rfl (by decide) (by decide) rfl (fun A w M => (Step.load1 Try.sc68 rfl ((M.cell 1 rfl 1).trans rfl))) ?_
  refine TW.read (v := (Value.int .i64 ↑ks.length)) rfl (by decide) (by decide) rfl (fun A w M => (Mem.setLen M 3 rfl Try.mt68 rfl)) ?_
  refine TW.pure (v := (Value.int .i64 ((↑l.length : Int) - ↑ks.length))) rfl (by decide) (by decide) rfl (fun w => (Step.sub rfl rfl (wrap_i64 (by omega)))) ?_
  refine TW.pure (v := (Value.pointer (some ⟨ab, 0, none⟩))) rfl (by decide) (by decide) rfl (fun w => (Step.move rfl)) ?_
  refine TW.pure (v := (Value.pointer (some ⟨ab, 0, none⟩))) rfl (by decide) (by decide) rfl (fun w => (Step.pure (by kernel_rfl))) ?_
  refine TW.pure (v := (Value.pointer (some ⟨ab, 0, none⟩))) rfl (by decide) (by decide) rfl (fun w => (Step.pure (by kernel_rfl))) ?_
  refine TW.read (v := pv) rfl (by decide) (by decide) rfl (fun A w M => (Step.load1 Try.sc69 rfl ((M.cell 1 rfl 0).trans rfl))) ?_
  refine TW.read (v := (Value.int .i64 ↑l.length)) rfl (by decide) (by decide) rfl (fun A w M => (Step.lenSl Try.un69 rfl (own_slAt (M.chunk 2 rfl).inv))) ?_
  refine TW.pure (v := (Value.int .i64 ((↑l.length : Int) - ↑ks.length))) rfl (by decide) (by decide) rfl (fun w => (Step.assign rfl)) ?_
  refine TW.pure (v := (Value.int .i64 ↑l.length)) rfl (by decide) (by decide) rfl (fun w => (Step.assign rfl)) ?_
  refine TW.done (fun w3 M => ?_)
  refine W.ret ?_
  refine ⟨.inl rfl, (Value.tuple #[(Value.int .i64 ((↑l.length : Int) - ↑ks.length)), (Value.int .i64 ↑l.length)]), ?_, ?_⟩
  · exact (Res.r2 (show RV _ _ _ (.tmp 2) (Value.int .i64 ((↑l.length : Int) - ↑ks.length)) from by exact rfl) (show RV _ _ _ (.tmp 3) (Value.int .i64 ↑l.length) from by exact rfl))
  replace M := M.sel (L' := [blk ab (.cells #[pv, (Value.map (some fb))] 71), own 73 5 pv l.length cs, setC fb ks, nodesC N cs l]) [0, 1, 2, 3] rfl (by decide)
  replace M := Mem.pack (Ls := arenaL 71 73 ab l) (p := fun i => FreeOk i.ks l) (⟨pv, fb, cs, ks, N⟩ : ArI) M hK
  rw [← hS] at M
  replace M : Mem _ _ _ [arenaC 71 73 S ab l] [] _ := M
  refine ⟨?_, M.close [0] rfl (by decide) trivial⟩
  rw [show ((l.length : Int) - ↑ks.length) = ↑(usedN l) by omega]

theorem len_nil {G : Nat → Prop} {w : World}   (M : Mem G (fun _ => False) w [] [] w) : Rets Try.prog 15 #[(Value.pointer none)] w fun r w' => r = (Value.tuple #[(Value.int .i64 0), (Value.int .i64 0)]) ∧ Mem G (fun _ => False) w [] [] w' := by
  refine Rets.enter 22 _ Try.func15 rfl Try.ntmps15 Try.results15 (by simp) ?_
  refine W.seq' ?_
  refine W.region rfl ?_
  refine WL.step (v := (Value.int .i64 0)) rfl (Step.assign rfl) ?_
  refine WL.step (v := (Value.int .i64 0)) rfl (Step.assign rfl) ?_
  refine WL.nil ?_
  refine W.seq' ?_
  refine W.seq' ?_
  refine W.region rfl ?_
  refine WL.step (v := (Value.pointer none)) rfl (Step.move rfl) ?_
  refine WL.step (v := (Value.bool true)) rfl (Step.pure (by kernel_rfl)) ?_
  refine WL.nil ?_
  refine W.cond (t := true) rfl (fun _ => ?_) (fun h => by cases h)
  refine W.seq' ?_
  refine W.region rfl ?_
  refine WL.step (v := (Value.int .i64 0)) rfl (Step.assign rfl) ?_
  refine WL.step (v := (Value.int .i64 0)) rfl (Step.assign rfl) ?_
  refine WL.nil ?_
  refine W.ret ?_
  refine ⟨.inl rfl, (Value.tuple #[(Value.int .i64 0), (Value.int .i64 0)]), ?_, ?_⟩
  · exact (Res.r2 (show RV _ _ _ (.tmp 2) (Value.int .i64 0) from by exact rfl) (show RV _ _ _ (.tmp 3) (Value.int .i64 0) from by exact rfl))
  refine ⟨?_, M.close [] rfl (by decide) trivial⟩
  rfl

theorem ar_new {G : Nat → Prop} {w : World}   (M : Mem G (fun _ => False) w [] [] w) : Rets Try.prog 9 #[] w fun r w' => ∃ (ab' : Nat) (S' : Nat → Prop), r = (Value.pointer (some ⟨ab', 0, none⟩)) ∧ Mem G (fun _ => False) w [arenaC 71 73 S' ab' ([] : List RPlace)] [] w' := by
  refine Rets.enter 4 _ Try.func9 rfl Try.ntmps9 Try.results9 (by simp) ?_
  refine W.seq' ?_
  refine W.region rfl ?_
  refine WL.step (v := (Value.pointer none)) rfl (Step.assign rfl) ?_
  refine WL.nil ?_
  refine W.seq' ?_
  refine W.region rfl ?_
  refine WL.new (obj := .map #[] 0) (fun b => .map (some b)) M rfl (fun w => Step.makeMap) (fun b1 w2 hb1 M => ?_)
  refine WL.step (v := (Value.agg #[(Value.slice none 0 0), (Value.map (some b1))])) rfl (Step.pure (by kernel_rfl)) ?_
  refine WL.box (v := (Value.agg #[(Value.slice none 0 0), (Value.map (some b1))])) (c := #[(Value.slice none 0 0), (Value.map (some b1))]) M rfl rfl rfl (fun b3 w4 hb3 M => ?_)
  refine WL.step (v := (Value.pointer (some ⟨b3, 0, none⟩))) rfl (Step.assign rfl) ?_
  refine WL.nil ?_
  refine W.ret ?_
  refine ⟨.inl rfl, (Value.pointer (some ⟨b3, 0, none⟩)), ?_, ?_⟩
  · exact (Res.r1 (show RV _ _ _ (.tmp 0) (Value.pointer (some ⟨b3, 0, none⟩)) from by exact rfl))
  replace M := M.setNew 1 rfl
  replace M : Mem _ _ _ [blk b3 (.cells #[(Value.slice none 0 0), (Value.map (some b1))] 71), setC b1 ([])] [] _ := M
  replace M := (M.ownNil 73 5).nodesNil
  replace M : Mem _ _ _ [nodesC (fun _ => False) ([]) ([] : List RPlace), own 73 5 (Value.slice none 0 0) 0 ([]), blk b3 (.cells #[(Value.slice none 0 0), (Value.map (some b1))] 71), setC b1 ([])] [] _ := M
  replace M := M.rechunk 1 (c' := own 73 5 (Value.slice none 0 0) ([] : List RPlace).length []) rfl rfl
  replace M : Mem _ _ _ [nodesC (fun _ => False) ([]) ([] : List RPlace), own 73 5 (Value.slice none 0 0) (([] : List RPlace).length) ([]), blk b3 (.cells #[(Value.slice none 0 0), (Value.map (some b1))] 71), setC b1 ([])] [] _ := M
  replace M := M.sel (L' := [blk b3 (.cells #[(Value.slice none 0 0), (Value.map (some b1))] 71), own 73 5 (Value.slice none 0 0) (([] : List RPlace).length) ([]), setC b1 ([]), nodesC (fun _ => False) ([]) ([] : List RPlace)]) [2, 1, 3, 0] rfl (by decide)
  replace M := Mem.pack (Ls := arenaL 71 73 b3 ([] : List RPlace)) (p := fun i => FreeOk i.ks ([] : List RPlace)) (⟨(Value.slice none 0 0), b1, [], [], (fun _ => False)⟩ : ArI) M free_nil
  replace M : Mem _ _ _ [arenaC 71 73 (Foots (arenaL 71 73 b3 ([] : List RPlace) (⟨(Value.slice none 0 0), b1, [], [], (fun _ => False)⟩ : ArI))) b3 ([] : List RPlace)] [] _ := M
  exact ⟨_, _, rfl, M.close [0] rfl (by decide) trivial⟩

theorem ar_used {G X : Nat → Prop} {w : World} (ab : Nat) (l : List RPlace) (S : Nat → Prop) (hA : SmallA l) (M : Mem G X w [arenaC 71 73 S ab l] [] w) : Rets Try.prog 10 #[(Value.pointer (some ⟨ab, 0, none⟩))] w fun r w' => ∃ (v' : Value), r = v' ∧ Mem G X w [arenaC 71 73 S ab l, own 29 2 v' ((rused l).length) ((rused l).flatMap handleE)] [] w' := by
  refine Rets.enter 31 _ Try.func10 rfl Try.ntmps10 Try.results10 (by simp) ?_
  have hA1 := hA.1
  obtain ⟨⟨pv, fb, cs, ks, N⟩, hK, hS, M⟩ := M.unpack
  replace hK : FreeOk ks l := hK
  have hcl := (M.chunk 1 rfl).inv.1
  simp only at hcl
  replace M : Mem _ _ _ [blk ab (.cells #[pv, (Value.map (some fb))] 71), own 73 5 pv l.length cs, setC fb ks, nodesC N cs l] [] _ := M
  have sl1 : IsSl pv := SlAt.isSl (own_slAt (Mem.chunk M 1 rfl).inv)
  have hle2 := SlAt.le' (own_slAt (Mem.chunk M 1 rfl).inv)
  refine W.seq' ?_
  refine W.region rfl ?_
  refine WL.step (v := (Value.slice none 0 0)) rfl (Step.assign rfl) ?_
  refine WL.nil ?_
  refine W.seq' ?_
  refine W.seq' ?_
  refine W.region rfl ?_
  refine WL.step (v := (Value.pointer (some ⟨ab, 0, none⟩))) rfl (Step.move rfl) ?_
  refine WL.step (v := (Value.bool false)) rfl (Step.pure (by kernel_rfl)) ?_
  refine WL.nil ?_
  refine W.cond (t := false) rfl (fun h => by cases h) (fun _ => ?_)
  refine W.skip ?_
  refine W.seq' ?_
  refine W.seq' ?_
  refine W.region rfl ?_
  refine WL.step (v := (Value.pointer (some ⟨ab, 0, none⟩))) rfl (Step.move rfl) ?_
  refine WL.step (v := (Value.pointer (some ⟨ab, 0, none⟩))) rfl (Step.pure (by kernel_rfl)) ?_
  refine WL.step (v := (Value.pointer (some ⟨ab, 0, none⟩))) rfl (Step.pure (by kernel_rfl)) ?_
  refine WL.step (v := pv) rfl (Step.load1 Try.sc69 rfl ((M.cell 0 rfl 0).trans rfl)) ?_
  refine WL.step (v := (Value.int .i64 ↑l.length)) rfl (Step.lenSl Try.un69 rfl (own_slAt (M.chunk 1 rfl).inv)) ?_
  refine WL.step (v := (Value.int .i64 0)) rfl (Step.move rfl) ?_
  refine WL.nil ?_
  refine W.block ?_
  replace M := M.ownNil 29 2
  replace M := M.rechunk 0 (c' := own 29 2 (Value.slice none 0 0) (usedTo l 0).length ((usedTo l 0).flatMap handleE)) rfl rfl
  replace M : Mem _ _ _ [own 29 2 (Value.slice none 0 0) ((usedTo l 0).length) ((usedTo l 0).flatMap handleE), blk ab (.cells #[pv, (Value.map (some fb))] 71), own 73 5 pv l.length cs, setC fb ks, nodesC N cs l] [] _ := M
  refine W.loop (fun kk ρ w' => ∃ (i_ : Nat) (acc : Value), ((i_ ≤ l.length) ∧ kk = l.length - i_) ∧ ρ.has [(0, (Value.pointer (some ⟨ab, 0, none⟩))), (2, acc), (11, pv), (12, (Value.int .i64 ↑l.length)), (13, (Value.int .i64 ↑i_))] ∧ Mem G X w [own 29 2 acc ((usedTo l i_).length) ((usedTo l i_).flatMap handleE), blk ab (.cells #[pv, (Value.map (some fb))] 71), own 73 5 pv l.length cs, setC fb ks, nodesC N cs l] []  w') _ ⟨0, _, ⟨(Nat.zero_le _), rfl⟩, ⟨rfl, rfl, rfl, rfl, rfl, trivial⟩, M⟩ ?_
  rintro _ ρ4 w3 ⟨i_, acc, ⟨hi5, rfl⟩, hρ, M⟩
  obtain ⟨ρ4, rfl⟩ := hρ.know
  clear hρ
  have sl6 : IsSl acc := SlAt.isSl (own_slAt (M.chunk 0 rfl).inv)
  have hul := usedTo_len (l := l) (i := i_)
  refine W.seq' ?_
  refine W.region rfl ?_
  refine WL.step (v := (Value.bool (decide ((↑i_ : Int) < (↑l.length : Int))))) rfl (Step.pure (by kernel_rfl)) ?_
  refine WL.nil ?_
  refine W.seq' ?_
  refine W.cond (t := decide ((↑i_ : Int) < (↑l.length : Int))) rfl (fun h7 => ?_) (fun h7 => ?_)
  ·
    have h7p := of_decide_eq_true h7
    refine W.skip ?_
    refine W.seq' ?_
    refine W.block ?_
    refine W.seq' ?_
    refine W.region rfl ?_
    refine WL.step (v := (Value.int .i64 ↑i_)) rfl (Step.move rfl) ?_
    obtain ⟨cap9, hb8⟩ := SlAt.base (own_slAt (M.chunk 2 rfl).inv) (by omega)
    obtain ⟨p10, hp10⟩ := elem_of_lt (xs := l) (i := i_) (by omega)
    obtain ⟨kv11, dv12, vv13, sl14, sl15, sl16, hc17⟩ := place_cells (M.chunk 4 rfl).inv hp10
    refine WL.step (v := (Value.pointer (some ⟨(sBlk pv), sOff pv + i_ * 5, none⟩))) rfl (Step.indexAddr (i := i_) (Try.un69).run Try.el73.sized rfl rfl (by omega) hb8 (by omega)) ?_
    refine WL.step (v := (Value.agg #[(Value.bool p10.node.leaf), kv11, dv12, vv13, (Value.int .i64 p10.turn)])) rfl (Step.loadEN (k := 0) (cs' := [(Value.bool p10.node.leaf), kv11, dv12, vv13, (Value.int .i64 p10.turn)]) Try.ag73 (ec_row (own_slAt (M.chunk 2 rfl).inv) hc17 (by omega)) (by decide) rfl rfl rfl) ?_
    refine WL.alloc (c := #[(Value.bool false), (Value.slice none 0 0), (Value.slice none 0 0), (Value.slice none 0 0), (Value.int .i64 0)]) M rfl Try.el73.zero rfl (fun b18 w19 hb18 M => ?_)
    refine WL.step (v := (Value.int .i64 ↑i_)) rfl (Step.assign rfl) ?_
    refine WL.store (v := (Value.agg #[(Value.bool p10.node.leaf), kv11, dv12, vv13, (Value.int .i64 p10.turn)])) (cs := [(Value.bool p10.node.leaf), kv11, dv12, vv13, (Value.int .i64 p10.turn)]) (c' := #[(Value.bool p10.node.leaf), kv11, dv12, vv13, (Value.int .i64 p10.turn)]) M 0 rfl rfl Try.el73.sized rfl rfl rfl rfl (Nat.le_of_ble_eq_true rfl) (cel_cons rfl (cel_cons (IsSl.cel sl14) (cel_cons (IsSl.cel sl15) (cel_cons (IsSl.cel sl16) (cel_cons rfl cel_nil))))) rfl rfl (fun w20 M => ?_)
    refine WL.nil ?_
    refine W.seq' ?_
    refine W.region rfl ?_
    refine WL.step (v := (Value.int .i64 ↑i_)) rfl (Step.move rfl) ?_
    refine WL.step (v := (Value.pointer (some ⟨b18, 4, none⟩))) rfl (Step.pure (by kernel_rfl)) ?_
    refine WL.step (v := (Value.int .i64 p10.turn)) rfl (Step.load1 Try.sc3 rfl ((M.cell 0 rfl 4).trans rfl)) ?_
    refine WL.step (v := (Value.agg #[(Value.int .i64 ↑i_), (Value.int .i64 p10.turn)])) rfl (Step.pure (by kernel_rfl)) ?_
    refine WL.alloc (c := #[(Value.int .i64 0), (Value.int .i64 0)]) M rfl Try.el29.zero rfl (fun b21 w22 hb21 M => ?_)
    refine WL.store (v := (Value.agg #[(Value.int .i64 ↑i_), (Value.int .i64 p10.turn)])) (cs := [(Value.int .i64 ↑i_), (Value.int .i64 p10.turn)]) (c' := #[(Value.int .i64 ↑i_), (Value.int .i64 p10.turn)]) M 0 rfl rfl Try.el29.sized rfl rfl rfl rfl (Nat.le_of_ble_eq_true rfl) (cel_cons rfl (cel_cons rfl cel_nil)) rfl rfl (fun w23 M => ?_)
    refine WL.nil ?_
    refine W.seq' ?_
    refine W.region rfl ?_
    refine WL.step (v := (Value.pointer (some ⟨ab, 0, none⟩))) rfl (Step.move rfl) ?_
    refine WL.step (v := (Value.agg #[(Value.int .i64 ↑i_), (Value.int .i64 p10.turn)])) rfl (Step.loadN Try.ag29 rfl (M.blk 0 rfl) (Nat.le_of_ble_eq_true rfl) rfl) ?_
    refine WL.callX rfl (ar_has ab l (⟨pv, fb, cs, ks, N⟩ : ArI) (⟨↑i_, p10.turn⟩ : Handle) hK (M.enterW (C := [blk ab (.cells #[pv, (Value.map (some fb))] 71), own 73 5 pv l.length cs, setC fb ks, nodesC N cs l]) (D := [blk b21 (.cells #[(Value.int .i64 ↑i_), (Value.int .i64 p10.turn)] 29), blk b18 (.cells #[(Value.bool p10.node.leaf), kv11, dv12, vv13, (Value.int .i64 p10.turn)] 73), own 29 2 acc ((usedTo l i_).length) ((usedTo l i_).flatMap handleE)]) [3, 4, 5, 6, 0, 1, 2] rfl (by decide) trivial)) (CallsF.func Try.en16 rfl) ?_
    rintro _ w24 ⟨rfl, m⟩
    replace M := M.leaveW (C := [blk ab (.cells #[pv, (Value.map (some fb))] 71), own 73 5 pv l.length cs, setC fb ks, nodesC N cs l]) (D := [blk b21 (.cells #[(Value.int .i64 ↑i_), (Value.int .i64 p10.turn)] 29), blk b18 (.cells #[(Value.bool p10.node.leaf), kv11, dv12, vv13, (Value.int .i64 p10.turn)] 73), own 29 2 acc ((usedTo l i_).length) ((usedTo l i_).flatMap handleE)]) [3, 4, 5, 6, 0, 1, 2] rfl (by decide) m
    replace M := M.sel (L' := [blk b21 (.cells #[(Value.int .i64 ↑i_), (Value.int .i64 p10.turn)] 29), blk b18 (.cells #[(Value.bool p10.node.leaf), kv11, dv12, vv13, (Value.int .i64 p10.turn)] 73), own 29 2 acc ((usedTo l i_).length) ((usedTo l i_).flatMap handleE), blk ab (.cells #[pv, (Value.map (some fb))] 71), own 73 5 pv l.length cs, setC fb ks, nodesC N cs l]) [4, 5, 6, 0, 1, 2, 3] rfl (by decide)
    clear m
    replace M : Mem _ _ _ [blk b21 (.cells #[(Value.int .i64 ↑i_), (Value.int .i64 p10.turn)] 29), blk b18 (.cells #[(Value.bool p10.node.leaf), kv11, dv12, vv13, (Value.int .i64 p10.turn)] 73), own 29 2 acc ((usedTo l i_).length) ((usedTo l i_).flatMap handleE), blk ab (.cells #[pv, (Value.map (some fb))] 71), own 73 5 pv l.length cs, setC fb ks, nodesC N cs l] [] _ := M
    refine WL.nil ?_
    refine W.cond (t := rhas l (⟨↑i_, p10.turn⟩ : Handle)) rfl (fun h25 => ?_) (fun h25 => ?_)
    ·
      refine W.region rfl ?_
      refine WL.step (v := acc) rfl (Step.move rfl) ?_
      refine WL.step (v := (Value.agg #[(Value.int .i64 ↑i_), (Value.int .i64 p10.turn)])) rfl (Step.loadN Try.ag29 rfl (M.blk 0 rfl) (Nat.le_of_ble_eq_true rfl) rfl) ?_
      refine WL.new (obj := .cells #[(Value.int .i64 ↑i_), (Value.int .i64 p10.turn)] 29) (fun b => .slice (some ⟨b, 0, none⟩) 1 1) M rfl (fun w => Step.make (by kernel_rfl)) (fun b26 w27 hb26 M => ?_)
      refine WL.does rfl (M.appendF (usedTo l i_) ([(⟨↑i_, p10.turn⟩ : Handle)] : List Handle) (sv := (Value.slice (some ⟨b26, 0, none⟩) 1 1)) 3 Try.un26 Try.el29 rfl (by decide) rfl rfl rfl (SlAt.of_blk (M.blk 0 rfl) rfl (by decide)) handleE_cel (by have := hul; simp only [maxLen, List.length_nil, List.length_cons, List.length_append]; omega) (by have := hul; (try simp only [List.length_nil, List.length_cons, List.length_append]); omega)) ?_
      rintro v28 w29 M
      replace M : Mem _ _ _ [blk b26 (.cells #[(Value.int .i64 ↑i_), (Value.int .i64 p10.turn)] 29), blk b21 (.cells #[(Value.int .i64 ↑i_), (Value.int .i64 p10.turn)] 29), blk b18 (.cells #[(Value.bool p10.node.leaf), kv11, dv12, vv13, (Value.int .i64 p10.turn)] 73), own 29 2 v28 (((usedTo l i_) ++ ([(⟨↑i_, p10.turn⟩ : Handle)] : List Handle)).length) (((usedTo l i_) ++ ([(⟨↑i_, p10.turn⟩ : Handle)] : List Handle)).flatMap handleE), blk ab (.cells #[pv, (Value.map (some fb))] 71), own 73 5 pv l.length cs, setC fb ks, nodesC N cs l] [] _ := M
      have sl30 : IsSl v28 := SlAt.isSl (own_slAt (M.chunk 3 rfl).inv)
      refine WL.step (v := v28) rfl (Step.assign rfl) ?_
      refine WL.nil ?_
      refine W.region rfl ?_
      refine WL.step (v := (Value.int .i64 (↑i_ + 1))) rfl (Step.add rfl rfl (wrap_i64 (by omega))) ?_
      refine WL.step (v := (Value.int .i64 (↑i_ + 1))) rfl (Step.move rfl) ?_
      refine WL.nil ?_
      replace M := M.rechunk 3 (c' := own 29 2 v28 ((usedTo l (i_ + 1)).length) ((usedTo l (i_ + 1)).flatMap handleE)) rfl (by rw [usedTo_yes hp10 h25])
      replace M : Mem _ _ _ [blk b26 (.cells #[(Value.int .i64 ↑i_), (Value.int .i64 p10.turn)] 29), blk b21 (.cells #[(Value.int .i64 ↑i_), (Value.int .i64 p10.turn)] 29), blk b18 (.cells #[(Value.bool p10.node.leaf), kv11, dv12, vv13, (Value.int .i64 p10.turn)] 73), own 29 2 v28 ((usedTo l (i_ + 1)).length) ((usedTo l (i_ + 1)).flatMap handleE), blk ab (.cells #[pv, (Value.map (some fb))] 71), own 73 5 pv l.length cs, setC fb ks, nodesC N cs l] [] _ := M
      replace M := M.sel (L' := [own 29 2 v28 ((usedTo l (i_ + 1)).length) ((usedTo l (i_ + 1)).flatMap handleE), blk ab (.cells #[pv, (Value.map (some fb))] 71), own 73 5 pv l.length cs, setC fb ks, nodesC N cs l]) [3, 4, 5, 6, 7] rfl (by decide)
      exact ⟨_, (by omega), i_ + 1, v28, ⟨(by omega), rfl⟩, ⟨rfl, rfl, rfl, rfl, rfl, trivial⟩, M⟩
    ·
      refine W.skip ?_
      refine W.region rfl ?_
      refine WL.step (v := (Value.int .i64 (↑i_ + 1))) rfl (Step.add rfl rfl (wrap_i64 (by omega))) ?_
      refine WL.step (v := (Value.int .i64 (↑i_ + 1))) rfl (Step.move rfl) ?_
      refine WL.nil ?_
      replace M := M.rechunk 2 (c' := own 29 2 acc ((usedTo l (i_ + 1)).length) ((usedTo l (i_ + 1)).flatMap handleE)) rfl (by rw [usedTo_no hp10 h25])
      replace M : Mem _ _ _ [blk b21 (.cells #[(Value.int .i64 ↑i_), (Value.int .i64 p10.turn)] 29), blk b18 (.cells #[(Value.bool p10.node.leaf), kv11, dv12, vv13, (Value.int .i64 p10.turn)] 73), own 29 2 acc ((usedTo l (i_ + 1)).length) ((usedTo l (i_ + 1)).flatMap handleE), blk ab (.cells #[pv, (Value.map (some fb))] 71), own 73 5 pv l.length cs, setC fb ks, nodesC N cs l] [] _ := M
      replace M := M.sel (L' := [own 29 2 acc ((usedTo l (i_ + 1)).length) ((usedTo l (i_ + 1)).flatMap handleE), blk ab (.cells #[pv, (Value.map (some fb))] 71), own 73 5 pv l.length cs, setC fb ks, nodesC N cs l]) [2, 3, 4, 5, 6] rfl (by decide)
      exact ⟨_, (by omega), i_ + 1, acc, ⟨(by omega), rfl⟩, ⟨rfl, rfl, rfl, rfl, rfl, trivial⟩, M⟩
  ·
    have h7p := of_decide_eq_false h7
    refine W.exit ?_
    refine thn_exit ?_
    refine thn_exit ?_
    refine inBlk_hit ?_
    refine W.seq' ?_
    refine W.region rfl ?_
    refine WL.step (v := acc) rfl (Step.move rfl) ?_
    refine WL.step (v := acc) rfl (Step.assign rfl) ?_
    refine WL.nil ?_
    refine W.ret ?_
    refine ⟨.inl rfl, acc, ?_, ?_⟩
    · exact (Res.r1 (show RV _ _ _ (.tmp 2) acc from by exact rfl))
    replace M := M.sel (L' := [blk ab (.cells #[pv, (Value.map (some fb))] 71), own 73 5 pv l.length cs, setC fb ks, nodesC N cs l, own 29 2 acc ((usedTo l i_).length) ((usedTo l i_).flatMap handleE)]) [1, 2, 3, 4, 0] rfl (by decide)
    replace M := Mem.pack (Ls := arenaL 71 73 ab l) (p := fun i => FreeOk i.ks l) (⟨pv, fb, cs, ks, N⟩ : ArI) M hK
    rw [← hS] at M
    replace M : Mem _ _ _ [arenaC 71 73 S ab l, own 29 2 acc ((usedTo l i_).length) ((usedTo l i_).flatMap handleE)] [] _ := M
    have e31 : rused l = usedTo l i_ := by
      unfold rused; rw [show i_ = l.length by omega]
    replace M := M.rechunk 1 (c' := own 29 2 acc ((rused l).length) ((rused l).flatMap handleE)) rfl (congrArg (fun z => own 29 2 acc z.length (z.flatMap handleE)) e31.symm)
    replace M : Mem _ _ _ [arenaC 71 73 S ab l, own 29 2 acc ((rused l).length) ((rused l).flatMap handleE)] [] _ := M
    refine ⟨acc, ?_, M.close [0, 1] rfl (by decide) trivial⟩
    rfl

theorem used_nil {G : Nat → Prop} {w : World}   (M : Mem G (fun _ => False) w [] [] w) : Rets Try.prog 10 #[(Value.pointer none)] w fun r w' => ∃ (v' : Value), r = v' ∧ Mem G (fun _ => False) w [own 29 2 v' (([] : List Handle).length) (([] : List Handle).flatMap handleE)] [] w' := by
  refine Rets.enter 31 _ Try.func10 rfl Try.ntmps10 Try.results10 (by simp) ?_
  refine W.seq' ?_
  refine W.region rfl ?_
  refine WL.step (v := (Value.slice none 0 0)) rfl (Step.assign rfl) ?_
  refine WL.nil ?_
  refine W.seq' ?_
  refine W.seq' ?_
  refine W.region rfl ?_
  refine WL.step (v := (Value.pointer none)) rfl (Step.move rfl) ?_
  refine WL.step (v := (Value.bool true)) rfl (Step.pure (by kernel_rfl)) ?_
  refine WL.nil ?_
  refine W.cond (t := true) rfl (fun _ => ?_) (fun h => by cases h)
  refine W.seq' ?_
  refine W.region rfl ?_
  refine WL.step (v := (Value.slice none 0 0)) rfl (Step.assign rfl) ?_
  refine WL.nil ?_
  refine W.ret ?_
  refine ⟨.inl rfl, (Value.slice none 0 0), ?_, ?_⟩
  · exact (Res.r1 (show RV _ _ _ (.tmp 2) (Value.slice none 0 0) from by exact rfl))
  replace M := M.ownNil 29 2
  have e1 : ([] : List Handle) = [] := by
    rfl
  replace M : Mem _ _ _ [own 29 2 (Value.slice none 0 0) (([] : List Handle).length) (([] : List Handle).flatMap handleE)] [] _ := M
  replace M := M.rechunk 0 (c' := own 29 2 (Value.slice none 0 0) (([] : List Handle).length) (([] : List Handle).flatMap handleE)) rfl (by rw [e1])
  replace M : Mem _ _ _ [own 29 2 (Value.slice none 0 0) (([] : List Handle).length) (([] : List Handle).flatMap handleE)] [] _ := M
  refine ⟨(Value.slice none 0 0), ?_, M.close [0] rfl (by decide) trivial⟩
  rfl

theorem free_nil_ {G : Nat → Prop} {w : World} (v : Value) (hs : List Handle)  (M : Mem G (fun _ => False) w [] [SlAt 2 v hs.length (hs.flatMap handleE)] w) : Rets Try.prog 12 #[(Value.pointer none), v] w fun r w' => r = (Value.int .i64 1) ∧ Mem G (fun _ => False) w [] [] w' := by
  refine Rets.enter 62 _ Try.func12 rfl Try.ntmps12 Try.results12 (by simp) ?_
  have hle1 := SlAt.le' (M.rep 0 rfl)
  have sl2 : IsSl v := SlAt.isSl (Mem.rep M 0 rfl)
  refine W.seq' ?_
  refine W.region rfl ?_
  refine WL.step (v := (Value.int .i64 0)) rfl (Step.assign rfl) ?_
  refine WL.nil ?_
  refine W.seq' ?_
  refine W.seq' ?_
  refine W.region rfl ?_
  refine WL.step (v := (Value.pointer none)) rfl (Step.move rfl) ?_
  refine WL.step (v := (Value.bool true)) rfl (Step.pure (by kernel_rfl)) ?_
  refine WL.nil ?_
  refine W.cond (t := true) rfl (fun _ => ?_) (fun h => by cases h)
  refine W.seq' ?_
  refine W.region rfl ?_
  refine WL.step (v := (Value.int .i64 1)) rfl (Step.assign rfl) ?_
  refine WL.nil ?_
  refine W.ret ?_
  refine ⟨.inl rfl, (Value.int .i64 1), ?_, ?_⟩
  · exact (Res.r1 (show RV _ _ _ (.tmp 4) (Value.int .i64 1) from by exact rfl))
  refine ⟨?_, M.close [] rfl (by decide) trivial⟩
  rfl

theorem ar_free {G X : Nat → Prop} {w : World} (ab : Nat) (l : List RPlace) (S : Nat → Prop) (v : Value) (hs : List Handle) (hA : SmallA l) (M : Mem G X w [arenaC 71 73 S ab l] [SlAt 2 v hs.length (hs.flatMap handleE)] w) : Rets Try.prog 12 #[(Value.pointer (some ⟨ab, 0, none⟩)), v] w fun r w' => ∃ (S' : Nat → Prop), r = (Value.int .i64 ((rfree l hs).2)) ∧ Mem G X w [arenaC 71 73 S' ab ((rfree l hs).1)] [] w' := by
  refine Rets.enter 62 _ Try.func12 rfl Try.ntmps12 Try.results12 (by simp) ?_
  have hle1 := SlAt.le' (M.rep 0 rfl)
  have sl2 : IsSl v := SlAt.isSl (Mem.rep M 0 rfl)
  have hA1 := hA.1
  obtain ⟨⟨pv, fb, cs, ks, N⟩, hK, hS, M⟩ := M.unpack
  replace hK : FreeOk ks l := hK
  have hcl := (M.chunk 1 rfl).inv.1
  simp only at hcl
  replace M : Mem _ _ _ [blk ab (.cells #[pv, (Value.map (some fb))] 71), own 73 5 pv l.length cs, setC fb ks, nodesC N cs l] [SlAt 2 v hs.length (hs.flatMap handleE)] _ := M
  have sl3 : IsSl pv := SlAt.isSl (own_slAt (Mem.chunk M 1 rfl).inv)
  have hle4 := SlAt.le' (own_slAt (Mem.chunk M 1 rfl).inv)
  refine W.seq' ?_
  refine W.region rfl ?_
  refine WL.step (v := (Value.int .i64 0)) rfl (Step.assign rfl) ?_
  refine WL.nil ?_
  refine W.seq' ?_
  refine W.seq' ?_
  refine W.region rfl ?_
  refine WL.step (v := (Value.pointer (some ⟨ab, 0, none⟩))) rfl (Step.move rfl) ?_
  refine WL.step (v := (Value.bool false)) rfl (Step.pure (by kernel_rfl)) ?_
  refine WL.nil ?_
  refine W.cond (t := false) rfl (fun h => by cases h) (fun _ => ?_)
  refine W.skip ?_
  refine W.seq' ?_
  refine W.seq' ?_
  refine W.region rfl ?_
  refine WL.step (v := v) rfl (Step.move rfl) ?_
  refine WL.step (v := (Value.int .i64 ↑hs.length)) rfl (Step.lenSl Try.un26 rfl (M.rep 0 rfl)) ?_
  refine WL.step (v := (Value.int .i64 0)) rfl (Step.move rfl) ?_
  refine WL.nil ?_
  refine W.block ?_
  refine W.loop (fun kk ρ w' => ∃ (ia_ : Nat), ((ia_ ≤ hs.length) ∧ (freeOkTo l hs ia_) ∧ kk = hs.length - ia_) ∧ ρ.has [(0, (Value.pointer (some ⟨ab, 0, none⟩))), (1, v), (11, v), (12, (Value.int .i64 ↑hs.length)), (13, (Value.int .i64 ↑ia_))] ∧ Mem G X w [blk ab (.cells #[pv, (Value.map (some fb))] 71), own 73 5 pv l.length cs, setC fb ks, nodesC N cs l] [SlAt 2 v hs.length (hs.flatMap handleE)]  w') _ ⟨0, ⟨(Nat.zero_le _), (fun _ _ h => absurd h (Nat.not_lt_zero _)), rfl⟩, ⟨rfl, rfl, rfl, rfl, rfl, trivial⟩, M⟩ ?_
  rintro _ ρ6 w5 ⟨ia_, ⟨hi7, hi8, rfl⟩, hρ, M⟩
  obtain ⟨ρ6, rfl⟩ := hρ.know
  clear hρ
  refine W.seq' ?_
  refine W.region rfl ?_
  refine WL.step (v := (Value.bool (decide ((↑ia_ : Int) < (↑hs.length : Int))))) rfl (Step.pure (by kernel_rfl)) ?_
  refine WL.nil ?_
  refine W.seq' ?_
  refine W.cond (t := decide ((↑ia_ : Int) < (↑hs.length : Int))) rfl (fun h9 => ?_) (fun h9 => ?_)
  ·
    have h9p := of_decide_eq_true h9
    refine W.skip ?_
    refine W.seq' ?_
    refine W.block ?_
    refine W.seq' ?_
    refine W.region rfl ?_
    refine WL.step (v := (Value.int .i64 ↑ia_)) rfl (Step.move rfl) ?_
    obtain ⟨cap11, hb10⟩ := SlAt.base (M.rep 0 rfl) (by omega)
    obtain ⟨x12, hx12⟩ := elem_of_lt (xs := hs) (i := ia_) (by omega)
    refine WL.step (v := (Value.pointer (some ⟨(sBlk v), sOff v + ia_ * 2, none⟩))) rfl (Step.indexAddr (i := ia_) (Try.un26).run Try.el29.sized rfl rfl (by omega) hb10 (by omega)) ?_
    refine WL.step (v := (Value.agg #[(Value.int .i64 x12.at_), (Value.int .i64 x12.turn)])) rfl (Step.loadEN (k := 0) (cs' := [(Value.int .i64 x12.at_), (Value.int .i64 x12.turn)]) Try.ag29 (flat_ec (M.rep 0 rfl) hx12 handleE_len) (by decide) rfl rfl rfl) ?_
    refine WL.alloc (c := #[(Value.int .i64 0), (Value.int .i64 0)]) M rfl Try.el29.zero rfl (fun b13 w14 hb13 M => ?_)
    refine WL.step (v := (Value.int .i64 ↑ia_)) rfl (Step.assign rfl) ?_
    refine WL.store (v := (Value.agg #[(Value.int .i64 x12.at_), (Value.int .i64 x12.turn)])) (cs := [(Value.int .i64 x12.at_), (Value.int .i64 x12.turn)]) (c' := #[(Value.int .i64 x12.at_), (Value.int .i64 x12.turn)]) M 0 rfl rfl Try.el29.sized rfl rfl rfl rfl (Nat.le_of_ble_eq_true rfl) (cel_cons rfl (cel_cons rfl cel_nil)) rfl rfl (fun w15 M => ?_)
    refine WL.nil ?_
    refine W.seq' ?_
    rcases Bool.eq_false_or_eq_true (!(rhas l x12)) with h16 | h16
    ·
      refine W.drawn M [0, 1, 2, 3, 4, 5, 6, 7, 8, 9, 10] [2, 9] [] [blk b13 (.cells #[(Value.int .i64 x12.at_), (Value.int .i64 x12.turn)] 29), blk ab (.cells #[pv, (Value.map (some fb))] 71), own 73 5 pv l.length cs, setC fb ks, nodesC N cs l] [SlAt 2 v hs.length (hs.flatMap handleE)] (List.Sublist.cons_cons _ (List.Sublist.cons_cons _ (List.Sublist.cons_cons _ (List.Sublist.cons_cons _ (List.Sublist.cons_cons _ List.Sublist.slnil))))) (fun _ h => h) Try.mixed (by kernel_rfl) ?_
      refine TW.pure (v := (Value.pointer (some ⟨ab, 0, none⟩))) rfl (by decide) (by decide) rfl (fun w => (Step.move rfl)) ?_
      refine TW.read (v := (Value.agg #[(Value.int .i64 x12.at_), (Value.int .i64 x12.turn)])) rfl (by decide) (by decide) rfl (fun A w M => (Step.loadN Try.ag29 rfl (M.blk 1 rfl) (Nat.le_of_ble_eq_true rfl) rfl)) ?_
      refine TW.callX (ι := Unit) (fun jx v_ => v_ = (Value.bool (rhas l x12))) (fun jx => [blk b13 (.cells #[(Value.int .i64 x12.at_), (Value.int .i64 x12.turn)] 29), blk ab (.cells #[pv, (Value.map (some fb))] 71), own 73 5 pv l.length cs, setC fb ks, nodesC N cs l]) (fun jx => [SlAt 2 v hs.length (hs.flatMap handleE)]) rfl (by decide) rfl (fun jx => (List.Sublist.cons_cons _ (List.Sublist.cons_cons _ (List.Sublist.cons_cons _ (List.Sublist.cons_cons _ (List.Sublist.cons_cons _ List.Sublist.slnil)))))) (fun jx r h => h) (fun A w M => Rets.mono (ar_has ab l (⟨pv, fb, cs, ks, N⟩ : ArI) x12 hK (M.enterW (C := [blk ab (.cells #[pv, (Value.map (some fb))] 71), own 73 5 pv l.length cs, setC fb ks, nodesC N cs l]) (D := [fl A, blk b13 (.cells #[(Value.int .i64 x12.at_), (Value.int .i64 x12.turn)] 29)]) [2, 3, 4, 5, 0, 1] rfl (by decide) trivial)) (fun v_ w_ ⟨e_, m⟩ => ⟨(), e_, (M.leaveW (C := [blk ab (.cells #[pv, (Value.map (some fb))] 71), own 73 5 pv l.length cs, setC fb ks, nodesC N cs l]) (D := [fl A, blk b13 (.cells #[(Value.int .i64 x12.at_), (Value.int .i64 x12.turn)] 29)]) [2, 3, 4, 5, 0, 1] rfl (by decide) m).sel (L' := [fl A, blk b13 (.cells #[(Value.int .i64 x12.at_), (Value.int .i64 x12.turn)] 29), blk ab (.cells #[pv, (Value.map (some fb))] 71), own 73 5 pv l.length cs, setC fb ks, nodesC N cs l]) [4, 5, 0, 1, 2, 3] rfl (by decide), fun b hb => M.keptW (C := [blk ab (.cells #[pv, (Value.map (some fb))] 71), own 73 5 pv l.length cs, setC fb ks, nodesC N cs l]) (D := [fl A, blk b13 (.cells #[(Value.int .i64 x12.at_), (Value.int .i64 x12.turn)] 29)]) [2, 3, 4, 5, 0, 1] rfl (by decide) m (fl A) (List.mem_cons_self ..) b hb⟩)) (fun w => CallsF.func Try.en16 rfl) (fun jx v hp hin => ?_)
      replace hp := hp.symm; subst hp
      clear hin
      change TW _ _ _ _ _ _ _ _ (MemA _ _ _ [blk b13 (.cells #[(Value.int .i64 x12.at_), (Value.int .i64 x12.turn)] 29), blk ab (.cells #[pv, (Value.map (some fb))] 71), own 73 5 pv l.length cs, setC fb ks, nodesC N cs l] [SlAt 2 v hs.length (hs.flatMap handleE)])
      refine TW.pure (v := (Value.bool true)) rfl (by decide) (by decide) rfl (fun w => (Step.cast (congrArg Value.bool h16) (Step.pure (by kernel_rfl)))) ?_
      refine TW.pure (v := (Value.bool true)) rfl (by decide) (by decide) rfl (fun w => (Step.move rfl)) ?_
      refine TW.skip rfl rfl ?_
      refine TW.skip rfl rfl ?_
      refine TW.skip rfl rfl ?_
      refine TW.skip rfl rfl ?_
      refine TW.skip rfl rfl ?_
      refine TW.pure (v := (Value.bool true)) rfl (by decide) (by decide) rfl (fun w => (Step.pick (t := true) rfl rfl)) ?_
      refine TW.done (fun w17 M => ?_)
      refine W.cond (t := true) rfl (fun _ => ?_) (fun h => by cases h)
      refine W.seq' ?_
      refine W.region rfl ?_
      refine WL.step (v := (Value.int .i64 110)) rfl (Step.assign rfl) ?_
      refine WL.nil ?_
      refine W.ret ?_
      refine ⟨.inl rfl, (Value.int .i64 110), ?_, ?_⟩
      · exact (Res.r1 (show RV _ _ _ (.tmp 4) (Value.int .i64 110) from by exact rfl))
      have hnf : freeable l hs = false := freeable_not hx12 (by first | (left; simpa using h16) | (right; simpa using h16))
      rw [rfree_miss hnf]
      replace M := M.sel (L' := [blk ab (.cells #[pv, (Value.map (some fb))] 71), own 73 5 pv l.length cs, setC fb ks, nodesC N cs l, blk b13 (.cells #[(Value.int .i64 x12.at_), (Value.int .i64 x12.turn)] 29)]) [1, 2, 3, 4, 0] rfl (by decide)
      replace M := Mem.pack (Ls := arenaL 71 73 ab l) (p := fun i => FreeOk i.ks l) (⟨pv, fb, cs, ks, N⟩ : ArI) M hK
      replace M : Mem _ _ _ [arenaC 71 73 (Foots (arenaL 71 73 ab l (⟨pv, fb, cs, ks, N⟩ : ArI))) ab l, blk b13 (.cells #[(Value.int .i64 x12.at_), (Value.int .i64 x12.turn)] 29)] [SlAt 2 v hs.length (hs.flatMap handleE)] _ := M
      exact ⟨_, rfl, M.close [0] rfl (by decide) trivial⟩
    ·
      refine W.drawn M [0, 1, 2, 3, 4, 5, 6, 7, 8, 9, 10] [2, 9] [] [blk b13 (.cells #[(Value.int .i64 x12.at_), (Value.int .i64 x12.turn)] 29), blk ab (.cells #[pv, (Value.map (some fb))] 71), own 73 5 pv l.length cs, setC fb ks, nodesC N cs l] [SlAt 2 v hs.length (hs.flatMap handleE)] (List.Sublist.cons_cons _ (List.Sublist.cons_cons _ (List.Sublist.cons_cons _ (List.Sublist.cons_cons _ (List.Sublist.cons_cons _ List.Sublist.slnil))))) (fun _ h => h) Try.mixed (by kernel_rfl) ?_
      refine TW.pure (v := (Value.pointer (some ⟨ab, 0, none⟩))) rfl (by decide) (by decide) rfl (fun w => (Step.move rfl)) ?_
      refine TW.read (v := (Value.agg #[(Value.int .i64 x12.at_), (Value.int .i64 x12.turn)])) rfl (by decide) (by decide) rfl (fun A w M => (Step.loadN Try.ag29 rfl (M.blk 1 rfl) (Nat.le_of_ble_eq_true rfl) rfl)) ?_
      refine TW.callX (ι := Unit) (fun jx v_ => v_ = (Value.bool (rhas l x12))) (fun jx => [blk b13 (.cells #[(Value.int .i64 x12.at_), (Value.int .i64 x12.turn)] 29), blk ab (.cells #[pv, (Value.map (some fb))] 71), own 73 5 pv l.length cs, setC fb ks, nodesC N cs l]) (fun jx => [SlAt 2 v hs.length (hs.flatMap handleE)]) rfl (by decide) rfl (fun jx => (List.Sublist.cons_cons _ (List.Sublist.cons_cons _ (List.Sublist.cons_cons _ (List.Sublist.cons_cons _ (List.Sublist.cons_cons _ List.Sublist.slnil)))))) (fun jx r h => h) (fun A w M => Rets.mono (ar_has ab l (⟨pv, fb, cs, ks, N⟩ : ArI) x12 hK (M.enterW (C := [blk ab (.cells #[pv, (Value.map (some fb))] 71), own 73 5 pv l.length cs, setC fb ks, nodesC N cs l]) (D := [fl A, blk b13 (.cells #[(Value.int .i64 x12.at_), (Value.int .i64 x12.turn)] 29)]) [2, 3, 4, 5, 0, 1] rfl (by decide) trivial)) (fun v_ w_ ⟨e_, m⟩ => ⟨(), e_, (M.leaveW (C := [blk ab (.cells #[pv, (Value.map (some fb))] 71), own 73 5 pv l.length cs, setC fb ks, nodesC N cs l]) (D := [fl A, blk b13 (.cells #[(Value.int .i64 x12.at_), (Value.int .i64 x12.turn)] 29)]) [2, 3, 4, 5, 0, 1] rfl (by decide) m).sel (L' := [fl A, blk b13 (.cells #[(Value.int .i64 x12.at_), (Value.int .i64 x12.turn)] 29), blk ab (.cells #[pv, (Value.map (some fb))] 71), own 73 5 pv l.length cs, setC fb ks, nodesC N cs l]) [4, 5, 0, 1, 2, 3] rfl (by decide), fun b hb => M.keptW (C := [blk ab (.cells #[pv, (Value.map (some fb))] 71), own 73 5 pv l.length cs, setC fb ks, nodesC N cs l]) (D := [fl A, blk b13 (.cells #[(Value.int .i64 x12.at_), (Value.int .i64 x12.turn)] 29)]) [2, 3, 4, 5, 0, 1] rfl (by decide) m (fl A) (List.mem_cons_self ..) b hb⟩)) (fun w => CallsF.func Try.en16 rfl) (fun jx v hp hin => ?_)
      replace hp := hp.symm; subst hp
      clear hin
      change TW _ _ _ _ _ _ _ _ (MemA _ _ _ [blk b13 (.cells #[(Value.int .i64 x12.at_), (Value.int .i64 x12.turn)] 29), blk ab (.cells #[pv, (Value.map (some fb))] 71), own 73 5 pv l.length cs, setC fb ks, nodesC N cs l] [SlAt 2 v hs.length (hs.flatMap handleE)])
      refine TW.pure (v := (Value.bool false)) rfl (by decide) (by decide) rfl (fun w => (Step.cast (congrArg Value.bool h16) (Step.pure (by kernel_rfl)))) ?_
      refine TW.pure (v := (Value.bool false)) rfl (by decide) (by decide) rfl (fun w => (Step.move rfl)) ?_
      refine TW.pure (v := v) rfl (by decide) (by decide) rfl (fun w => (Step.move rfl)) ?_
      refine TW.pure (v := (Value.int .i64 ↑ia_)) rfl (by decide) (by decide) rfl (fun w => (Step.move rfl)) ?_
      refine TW.read (v := (vTake ia_ v)) rfl (by decide) (by decide) rfl (fun A w M => (Step.sliceTo (i := ia_) Try.un26 Try.el29.sized rfl rfl (by omega) (M.rep 0 rfl) (by omega))) ?_
      refine TW.read (v := (Value.agg #[(Value.int .i64 x12.at_), (Value.int .i64 x12.turn)])) rfl (by decide) (by decide) rfl (fun A w M => (Step.loadN Try.ag29 rfl (M.blk 1 rfl) (Nat.le_of_ble_eq_true rfl) rfl)) ?_
      refine TW.callX (ι := Unit) (fun jx v_ => v_ = (Value.bool (decide (x12 ∈ (hs.take ia_))))) (fun jx => [blk b13 (.cells #[(Value.int .i64 x12.at_), (Value.int .i64 x12.turn)] 29), blk ab (.cells #[pv, (Value.map (some fb))] 71), own 73 5 pv l.length cs, setC fb ks, nodesC N cs l]) (fun jx => [SlAt 2 v hs.length (hs.flatMap handleE)]) rfl (by decide) rfl (fun jx => (List.Sublist.cons_cons _ (List.Sublist.cons_cons _ (List.Sublist.cons_cons _ (List.Sublist.cons_cons _ (List.Sublist.cons_cons _ List.Sublist.slnil)))))) (fun jx r h => h) (fun A w M => Rets.mono (contains_handle (vTake ia_ v) (hs.take ia_) x12 (M.enterW0 ⟨(((M.wideR0 0 rfl)).imp fun _ h => slat_take handleE_len h (by omega)), trivial⟩)) (fun v_ w_ ⟨e_, m⟩ => ⟨(), e_, (M.leaveW0 m).sel (L' := [fl A, blk b13 (.cells #[(Value.int .i64 x12.at_), (Value.int .i64 x12.turn)] 29), blk ab (.cells #[pv, (Value.map (some fb))] 71), own 73 5 pv l.length cs, setC fb ks, nodesC N cs l]) [0, 1, 2, 3, 4, 5] rfl (by decide), fun b hb => M.keptW0 m (fl A) (List.mem_cons_self ..) b hb⟩)) (fun w => CallsF.func Try.en27 rfl) (fun jx v hp hin => ?_)
      replace hp := hp.symm; subst hp
      clear hin
      change TW _ _ _ _ _ _ _ _ (MemA _ _ _ [blk b13 (.cells #[(Value.int .i64 x12.at_), (Value.int .i64 x12.turn)] 29), blk ab (.cells #[pv, (Value.map (some fb))] 71), own 73 5 pv l.length cs, setC fb ks, nodesC N cs l] [SlAt 2 v hs.length (hs.flatMap handleE)])
      refine TW.pure (v := (Value.bool (decide (x12 ∈ (hs.take ia_))))) rfl (by decide) (by decide) rfl (fun w => (Step.pick (t := false) rfl rfl)) ?_
      refine TW.done (fun w18 M => ?_)
      refine W.cond (t := decide (x12 ∈ (hs.take ia_))) rfl (fun h19 => ?_) (fun h19 => ?_)
      ·
        have h19p := of_decide_eq_true h19
        refine W.seq' ?_
        refine W.region rfl ?_
        refine WL.step (v := (Value.int .i64 110)) rfl (Step.assign rfl) ?_
        refine WL.nil ?_
        refine W.ret ?_
        refine ⟨.inl rfl, (Value.int .i64 110), ?_, ?_⟩
        · exact (Res.r1 (show RV _ _ _ (.tmp 4) (Value.int .i64 110) from by exact rfl))
        have hnf : freeable l hs = false := freeable_not hx12 (by first | (left; simpa using h19) | (right; simpa using h19))
        rw [rfree_miss hnf]
        replace M := M.sel (L' := [blk ab (.cells #[pv, (Value.map (some fb))] 71), own 73 5 pv l.length cs, setC fb ks, nodesC N cs l, blk b13 (.cells #[(Value.int .i64 x12.at_), (Value.int .i64 x12.turn)] 29)]) [1, 2, 3, 4, 0] rfl (by decide)
        replace M := Mem.pack (Ls := arenaL 71 73 ab l) (p := fun i => FreeOk i.ks l) (⟨pv, fb, cs, ks, N⟩ : ArI) M hK
        replace M : Mem _ _ _ [arenaC 71 73 (Foots (arenaL 71 73 ab l (⟨pv, fb, cs, ks, N⟩ : ArI))) ab l, blk b13 (.cells #[(Value.int .i64 x12.at_), (Value.int .i64 x12.turn)] 29)] [SlAt 2 v hs.length (hs.flatMap handleE)] _ := M
        exact ⟨_, rfl, M.close [0] rfl (by decide) trivial⟩
      ·
        have h19p := of_decide_eq_false h19
        refine W.skip ?_
        refine W.region rfl ?_
        refine WL.step (v := (Value.int .i64 (↑ia_ + 1))) rfl (Step.add rfl rfl (wrap_i64 (by omega))) ?_
        refine WL.step (v := (Value.int .i64 (↑ia_ + 1))) rfl (Step.move rfl) ?_
        refine WL.nil ?_
        have hs := freeOkTo_step hi8 hx12 (by simpa using h16) (by simpa using h19)
        replace M := M.sel (L' := [blk ab (.cells #[pv, (Value.map (some fb))] 71), own 73 5 pv l.length cs, setC fb ks, nodesC N cs l]) [1, 2, 3, 4] rfl (by decide)
        exact ⟨_, (by omega), ia_ + 1, ⟨(by omega), hs, rfl⟩, ⟨rfl, rfl, rfl, rfl, rfl, trivial⟩, M⟩
  ·
    have h9p := of_decide_eq_false h9
    refine W.exit ?_
    refine thn_exit ?_
    refine thn_exit ?_
    refine inBlk_hit ?_
    refine W.seq' ?_
    refine W.seq' ?_
    refine W.region rfl ?_
    refine WL.step (v := (Value.pointer (some ⟨ab, 0, none⟩))) rfl (Step.move rfl) ?_
    refine WL.step (v := (Value.pointer (some ⟨ab, 0, none⟩))) rfl (Step.pure (by kernel_rfl)) ?_
    refine WL.step (v := (Value.pointer (some ⟨ab, 1, none⟩))) rfl (Step.pure (by kernel_rfl)) ?_
    refine WL.step (v := (Value.map (some fb))) rfl (Step.load1 Try.sc68 rfl ((M.cell 0 rfl 1).trans rfl)) ?_
    refine WL.step (v := (Value.bool false)) rfl (Step.mapNil Try.mt68 rfl rfl) ?_
    refine WL.nil ?_
    refine W.cond (t := false) rfl (fun h => by cases h) (fun _ => ?_)
    refine W.skip ?_
    refine W.seq' ?_
    refine W.seq' ?_
    refine W.region rfl ?_
    refine WL.step (v := v) rfl (Step.move rfl) ?_
    refine WL.step (v := (Value.int .i64 ↑hs.length)) rfl (Step.lenSl Try.un26 rfl (M.rep 0 rfl)) ?_
    refine WL.step (v := (Value.int .i64 0)) rfl (Step.move rfl) ?_
    refine WL.nil ?_
    refine W.block ?_
    have hfr := freeable_of hi8 (by omega)
    obtain ⟨hall, hnd⟩ := freeable_iff.1 hfr
    replace M := M.sel (L' := [blk ab (.cells #[pv, (Value.map (some fb))] 71), own 73 5 pv l.length cs, setC fb ks, nodesC N cs (freeAll l (hs.take 0))]) [0, 1, 2, 3] rfl (by decide)
    replace M : Mem _ _ _ [blk ab (.cells #[pv, (Value.map (some fb))] 71), own 73 5 pv l.length cs, setC fb ks, nodesC N cs (freeAll l (hs.take 0))] [SlAt 2 v hs.length (hs.flatMap handleE)] _ := M
    refine W.loop (fun kk ρ w' => ∃ (ib_ : Nat) (ks_ : List Int) (cs_ : List Value), ((ib_ ≤ hs.length) ∧ (FreeOk ks_ (freeAll l (hs.take ib_))) ∧ kk = hs.length - ib_) ∧ ρ.has [(0, (Value.pointer (some ⟨ab, 0, none⟩))), (39, v), (40, (Value.int .i64 ↑hs.length)), (41, (Value.int .i64 ↑ib_))] ∧ Mem G X w [blk ab (.cells #[pv, (Value.map (some fb))] 71), own 73 5 pv l.length cs_, setC fb ks_, nodesC N cs_ (freeAll l (hs.take ib_))] [SlAt 2 v hs.length (hs.flatMap handleE)]  w') _ ⟨0, ks, cs, ⟨(Nat.zero_le _), hK, rfl⟩, ⟨rfl, rfl, rfl, rfl, trivial⟩, M⟩ ?_
    rintro _ ρ21 w20 ⟨ib_, ks_, cs_, ⟨hi22, hi23, rfl⟩, hρ, M⟩
    obtain ⟨ρ21, rfl⟩ := hρ.know
    clear hρ
    have hfl := freeAll_len (l := l) (hs := hs.take ib_)
    refine W.seq' ?_
    refine W.region rfl ?_
    refine WL.step (v := (Value.bool (decide ((↑ib_ : Int) < (↑hs.length : Int))))) rfl (Step.pure (by kernel_rfl)) ?_
    refine WL.nil ?_
    refine W.seq' ?_
    refine W.cond (t := decide ((↑ib_ : Int) < (↑hs.length : Int))) rfl (fun h24 => ?_) (fun h24 => ?_)
    ·
      have h24p := of_decide_eq_true h24
      refine W.skip ?_
      refine W.seq' ?_
      refine W.block ?_
      refine W.seq' ?_
      refine W.region rfl ?_
      obtain ⟨cap26, hb25⟩ := SlAt.base (M.rep 0 rfl) (by omega)
      obtain ⟨x27, hx27⟩ := elem_of_lt (xs := hs) (i := ib_) (by omega)
      obtain ⟨pl, hplace, _, htp, h0p, hltp⟩ := rhas_place (hall _ (List.mem_of_getElem? hx27))
      refine WL.step (v := (Value.pointer (some ⟨(sBlk v), sOff v + ib_ * 2, none⟩))) rfl (Step.indexAddr (i := ib_) (Try.un26).run Try.el29.sized rfl rfl (by omega) hb25 (by omega)) ?_
      refine WL.step (v := (Value.agg #[(Value.int .i64 x27.at_), (Value.int .i64 x27.turn)])) rfl (Step.loadEN (k := 0) (cs' := [(Value.int .i64 x27.at_), (Value.int .i64 x27.turn)]) Try.ag29 (flat_ec (M.rep 0 rfl) hx27 handleE_len) (by decide) rfl rfl rfl) ?_
      refine WL.alloc (c := #[(Value.int .i64 0), (Value.int .i64 0)]) M rfl Try.el29.zero rfl (fun b28 w29 hb28 M => ?_)
      refine WL.store (v := (Value.agg #[(Value.int .i64 x27.at_), (Value.int .i64 x27.turn)])) (cs := [(Value.int .i64 x27.at_), (Value.int .i64 x27.turn)]) (c' := #[(Value.int .i64 x27.at_), (Value.int .i64 x27.turn)]) M 0 rfl rfl Try.el29.sized rfl rfl rfl rfl (Nat.le_of_ble_eq_true rfl) (cel_cons rfl (cel_cons rfl cel_nil)) rfl rfl (fun w30 M => ?_)
      refine WL.nil ?_
      refine W.seq' ?_
      obtain ⟨cap32, hb31⟩ := SlAt.base (own_slAt (M.chunk 2 rfl).inv) (by omega)
      obtain ⟨p33, hp33⟩ := elem_of_lt (xs := (freeAll l (hs.take ib_))) (i := x27.at_.toNat) (by omega)
      obtain ⟨kv34, dv35, vv36, sl37, sl38, sl39, hc40⟩ := place_cells (M.chunk 4 rfl).inv hp33
      obtain ⟨pre47, post48, kv41, dv42, vv43, sl44, sl45, sl46, hcs49, hpre50⟩ := place_open (M.chunk 4 rfl).inv hp33
      replace M := M.rechunk 2 (c' := own 73 5 pv l.length (pre47 ++ ([(Value.bool p33.node.leaf), kv41, dv42, vv43, (Value.int .i64 p33.turn)] ++ post48))) rfl (by rw [hcs49])
      replace M := M.rechunk 4 (c' := nodesC N (pre47 ++ ([(Value.bool p33.node.leaf), kv41, dv42, vv43, (Value.int .i64 p33.turn)] ++ post48)) (freeAll l (hs.take ib_))) rfl (by rw [hcs49])
      replace M : Mem _ _ _ [blk b28 (.cells #[(Value.int .i64 x27.at_), (Value.int .i64 x27.turn)] 29), blk ab (.cells #[pv, (Value.map (some fb))] 71), own 73 5 pv l.length (pre47 ++ ([(Value.bool p33.node.leaf), kv41, dv42, vv43, (Value.int .i64 p33.turn)] ++ post48)), setC fb ks_, nodesC N (pre47 ++ ([(Value.bool p33.node.leaf), kv41, dv42, vv43, (Value.int .i64 p33.turn)] ++ post48)) (freeAll l (hs.take ib_))] [SlAt 2 v hs.length (hs.flatMap handleE)] _ := M
      refine W.drawn M [0, 1, 2, 3, 4, 5, 6, 7, 8, 9] [9] [] [blk b28 (.cells #[(Value.int .i64 x27.at_), (Value.int .i64 x27.turn)] 29), blk ab (.cells #[pv, (Value.map (some fb))] 71), setC fb ks_, nodesC N (pre47 ++ ([(Value.bool p33.node.leaf), kv41, dv42, vv43, (Value.int .i64 p33.turn)] ++ post48)) (freeAll l (hs.take ib_))] [SlAt 2 v hs.length (hs.flatMap handleE)] (List.Sublist.cons_cons _ (List.Sublist.cons_cons _ (List.Sublist.cons _ (List.Sublist.cons_cons _ (List.Sublist.cons_cons _ List.Sublist.slnil))))) (fun _ h => h) Try.mixed (by kernel_rfl) ?_
      refine TW.pure (v := (Value.pointer (some ⟨ab, 0, none⟩))) rfl (by decide) (by decide) rfl (fun w => (Step.move rfl)) ?_
      refine TW.pure (v := (Value.pointer (some ⟨ab, 0, none⟩))) rfl (by decide) (by decide) rfl (fun w => (Step.pure (by kernel_rfl))) ?_
      refine TW.pure (v := (Value.pointer (some ⟨ab, 0, none⟩))) rfl (by decide) (by decide) rfl (fun w => (Step.pure (by kernel_rfl))) ?_
      refine TW.read (v := pv) rfl (by decide) (by decide) rfl (fun A w M => (Step.load1 Try.sc69 rfl ((M.cell 2 rfl 0).trans rfl))) ?_
      refine TW.pure (v := (Value.pointer (some ⟨b28, 0, none⟩))) rfl (by decide) (by decide) rfl (fun w => (Step.pure (by kernel_rfl))) ?_
      refine TW.read (v := (Value.int .i64 x27.at_)) rfl (by decide) (by decide) rfl (fun A w M => (Step.load1 Try.sc3 rfl ((M.cell 1 rfl 0).trans rfl))) ?_
      refine TW.pure (v := (Value.agg #[(Value.bool false), (Value.slice none 0 0), (Value.slice none 0 0), (Value.slice none 0 0)])) rfl (by decide) (by decide) rfl (fun w => (Step.pure (by kernel_rfl))) ?_
      refine TW.pure (v := (Value.pointer (some ⟨(sBlk pv), sOff pv + x27.at_.toNat * 5, none⟩))) rfl (by decide) (by decide) rfl (fun w => (Step.indexAddr (i := x27.at_.toNat) (Try.un69).run Try.el73.sized rfl rfl (by omega) hb31 (by omega))) ?_
      refine TW.pure (v := (Value.pointer (some ⟨(sBlk pv), sOff pv + x27.at_.toNat * 5, none⟩))) rfl (by decide) (by decide) rfl (fun w => (Step.pure (by kernel_rfl))) ?_
      refine TW.act (c' := own 73 5 pv l.length (pre47 ++ ([(Value.bool false), (Value.slice none 0 0), (Value.slice none 0 0), (Value.slice none 0 0), (Value.int .i64 p33.turn)] ++ post48))) 2 rfl rfl (by decide) rfl (List.Sublist.cons_cons _ (List.Sublist.cons_cons _ (List.Sublist.cons _ (List.Sublist.cons_cons _ (List.Sublist.cons_cons _ List.Sublist.slnil))))) (fun r h => h) (fun A w M => M.storeAt (cells := [(Value.bool p33.node.leaf), kv41, dv42, vv43, (Value.int .i64 p33.turn)]) (cells' := [(Value.bool false), (Value.slice none 0 0), (Value.slice none 0 0), (Value.slice none 0 0), (Value.int .i64 p33.turn)]) (new := [(Value.bool false), (Value.slice none 0 0), (Value.slice none 0 0), (Value.slice none 0 0)]) (k := 0) 3 rfl hpre50 Try.el36.sized rfl rfl rfl (cel_cons rfl (cel_cons rfl (cel_cons rfl (cel_cons rfl cel_nil)))) (by first | omega | (simp only [List.length_set, List.length_append, List.length_cons, List.length_nil]; omega)) (Nat.le_of_ble_eq_true rfl) rfl rfl) ?_
      refine TW.done (fun w51 M => ?_)
      refine W.drawn M [0, 1, 2, 3, 4, 5, 6, 7] [7] [] [blk b28 (.cells #[(Value.int .i64 x27.at_), (Value.int .i64 x27.turn)] 29), blk ab (.cells #[pv, (Value.map (some fb))] 71), own 73 5 pv l.length (pre47 ++ ([(Value.bool false), (Value.slice none 0 0), (Value.slice none 0 0), (Value.slice none 0 0), (Value.int .i64 p33.turn)] ++ post48)), nodesC N (pre47 ++ ([(Value.bool p33.node.leaf), kv41, dv42, vv43, (Value.int .i64 p33.turn)] ++ post48)) (freeAll l (hs.take ib_))] [SlAt 2 v hs.length (hs.flatMap handleE)] (List.Sublist.cons_cons _ (List.Sublist.cons_cons _ (List.Sublist.cons_cons _ (List.Sublist.cons _ (List.Sublist.cons_cons _ List.Sublist.slnil))))) (fun _ h => h) Try.mixed (by kernel_rfl) ?_
      refine TW.pure (v := (Value.pointer (some ⟨ab, 0, none⟩))) rfl (by decide) (by decide) rfl (fun w => (Step.move rfl)) ?_
      refine TW.pure (v := (Value.pointer (some ⟨ab, 0, none⟩))) rfl (by decide) (by decide) rfl (fun w => (Step.pure (by kernel_rfl))) ?_
      refine TW.pure (v := (Value.pointer (some ⟨ab, 1, none⟩))) rfl (by decide) (by decide) rfl (fun w => (Step.pure (by kernel_rfl))) ?_
      refine TW.read (v := (Value.map (some fb))) rfl (by decide) (by decide) rfl (fun A w M => (Step.load1 Try.sc68 rfl ((M.cell 2 rfl 1).trans rfl))) ?_
      refine TW.pure (v := (Value.pointer (some ⟨b28, 0, none⟩))) rfl (by decide) (by decide) rfl (fun w => (Step.pure (by kernel_rfl))) ?_
      refine TW.read (v := (Value.int .i64 x27.at_)) rfl (by decide) (by decide) rfl (fun A w M => (Step.load1 Try.sc3 rfl ((M.cell 1 rfl 0).trans rfl))) ?_
      refine TW.pure (v := (Value.agg #[])) rfl (by decide) (by decide) rfl (fun w => (Step.pure (by kernel_rfl))) ?_
      refine TW.act (c' := setC fb (sadd x27.at_ ks_)) 3 rfl rfl (by decide) rfl (List.Sublist.cons_cons _ (List.Sublist.cons_cons _ (List.Sublist.cons_cons _ (List.Sublist.cons _ (List.Sublist.cons_cons _ List.Sublist.slnil))))) (fun r h => h) (fun A w M => M.setAdd 4 rfl Try.mt68 rfl rfl rfl) ?_
      refine TW.done (fun w52 M => ?_)
      refine W.region rfl ?_
      refine WL.step (v := (Value.int .i64 (↑ib_ + 1))) rfl (Step.add rfl rfl (wrap_i64 (by omega))) ?_
      refine WL.step (v := (Value.int .i64 (↑ib_ + 1))) rfl (Step.move rfl) ?_
      refine WL.nil ?_
      replace M := M.sel (L' := [nodesC N (pre47 ++ ([(Value.bool p33.node.leaf), kv41, dv42, vv43, (Value.int .i64 p33.turn)] ++ post48)) (freeAll l (hs.take ib_)), blk b28 (.cells #[(Value.int .i64 x27.at_), (Value.int .i64 x27.turn)] 29), blk ab (.cells #[pv, (Value.map (some fb))] 71), own 73 5 pv l.length (pre47 ++ ([(Value.bool false), (Value.slice none 0 0), (Value.slice none 0 0), (Value.slice none 0 0), (Value.int .i64 p33.turn)] ++ post48)), setC fb (sadd x27.at_ ks_)]) [4, 0, 1, 2, 3] rfl (by decide)
      replace M := M.nodesClear (u := false) (t := p33.turn) hpre50 rfl (by omega)
      obtain ⟨q, hq, htq⟩ := freeAll_turn (hs := hs.take ib_) (fun x hx => hall x (List.mem_of_mem_take hx)) hp33
      have hqq : p33.turn = x27.turn := by rw [htq]; rw [hplace] at hq; cases hq; exact htp
      have hnx : freeAll l (hs.take (ib_ + 1)) = (freeAll l (hs.take ib_)).set x27.at_.toNat ⟨false, p33.turn, ⟨false, [], [], []⟩⟩ := by rw [freeAll_snoc hx27, hqq]; rfl
      have hKn := free_free (t := p33.turn) (n := ⟨false, [], [], []⟩) hi23 (i := x27.at_.toNat) (by omega)
      rw [← hnx, Int.toNat_of_nonneg h0p] at hKn
      rw [← hnx] at M
      replace M : Mem _ _ _ [nodesC N (pre47 ++ ([(Value.bool false), (Value.slice none 0 0), (Value.slice none 0 0), (Value.slice none 0 0), (Value.int .i64 p33.turn)] ++ post48)) (freeAll l (hs.take (ib_ + 1))), blk b28 (.cells #[(Value.int .i64 x27.at_), (Value.int .i64 x27.turn)] 29), blk ab (.cells #[pv, (Value.map (some fb))] 71), own 73 5 pv l.length (pre47 ++ ([(Value.bool false), (Value.slice none 0 0), (Value.slice none 0 0), (Value.slice none 0 0), (Value.int .i64 p33.turn)] ++ post48)), setC fb (sadd x27.at_ ks_)] [SlAt 2 v hs.length (hs.flatMap handleE)] _ := M
      replace M := M.sel (L' := [blk ab (.cells #[pv, (Value.map (some fb))] 71), own 73 5 pv l.length (pre47 ++ ([(Value.bool false), (Value.slice none 0 0), (Value.slice none 0 0), (Value.slice none 0 0), (Value.int .i64 p33.turn)] ++ post48)), setC fb (sadd x27.at_ ks_), nodesC N (pre47 ++ ([(Value.bool false), (Value.slice none 0 0), (Value.slice none 0 0), (Value.slice none 0 0), (Value.int .i64 p33.turn)] ++ post48)) (freeAll l (hs.take (ib_ + 1)))]) [2, 3, 4, 0] rfl (by decide)
      exact ⟨_, (by omega), ib_ + 1, sadd x27.at_ ks_, (pre47 ++ ([(Value.bool false), (Value.slice none 0 0), (Value.slice none 0 0), (Value.slice none 0 0), (Value.int .i64 p33.turn)] ++ post48)), ⟨(by omega), hKn, rfl⟩, ⟨rfl, rfl, rfl, rfl, trivial⟩, M⟩
    ·
      have h24p := of_decide_eq_false h24
      refine W.exit ?_
      refine thn_exit ?_
      refine thn_exit ?_
      refine inBlk_hit ?_
      refine W.seq' ?_
      refine W.region rfl ?_
      refine WL.step (v := (Value.int .i64 0)) rfl (Step.assign rfl) ?_
      refine WL.nil ?_
      refine W.ret ?_
      refine ⟨.inl rfl, (Value.int .i64 0), ?_, ?_⟩
      · exact (Res.r1 (show RV _ _ _ (.tmp 4) (Value.int .i64 0) from by exact rfl))
      rw [rfree_hit hfr]
      have htk : hs.take ib_ = hs := List.take_of_length_le (by omega)
      rw [htk] at M
      rw [htk] at hi23
      replace M : Mem _ _ _ [blk ab (.cells #[pv, (Value.map (some fb))] 71), own 73 5 pv l.length cs_, setC fb ks_, nodesC N cs_ (freeAll l hs)] [SlAt 2 v hs.length (hs.flatMap handleE)] _ := M
      replace M := M.rechunk 1 (c' := own 73 5 pv ((freeAll l hs).length) cs_) rfl (by rw [freeAll_len])
      replace M : Mem _ _ _ [blk ab (.cells #[pv, (Value.map (some fb))] 71), own 73 5 pv ((freeAll l hs).length) cs_, setC fb ks_, nodesC N cs_ (freeAll l hs)] [SlAt 2 v hs.length (hs.flatMap handleE)] _ := M
      replace M := M.sel (L' := [blk ab (.cells #[pv, (Value.map (some fb))] 71), own 73 5 pv ((freeAll l hs).length) cs_, setC fb ks_, nodesC N cs_ (freeAll l hs)]) [0, 1, 2, 3] rfl (by decide)
      replace M := Mem.pack (Ls := arenaL 71 73 ab (freeAll l hs)) (p := fun i => FreeOk i.ks (freeAll l hs)) (⟨pv, fb, cs_, ks_, N⟩ : ArI) M hi23
      replace M : Mem _ _ _ [arenaC 71 73 (Foots (arenaL 71 73 ab (freeAll l hs) (⟨pv, fb, cs_, ks_, N⟩ : ArI))) ab (freeAll l hs)] [SlAt 2 v hs.length (hs.flatMap handleE)] _ := M
      exact ⟨_, rfl, M.close [0] rfl (by decide) trivial⟩
end Go.Proofs
