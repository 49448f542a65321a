/- Walks. -/
import Derived.Test.YthihknbbibgchaaTrZ7
import Derived.Test.YthihknbbibgchaaTrHorM
set_option maxRecDepth 100000
set_option linter.all false
namespace Go.Proofs
open Go Tp
theorem Try.un22 : Und Try.prog 22 (.slice 37) := by unfold Und; kernel_rfl
theorem Try.el37 : Elem Try.prog 37 (Value.agg #[(Value.int .i64 0), (Value.slice none 0 0), (Value.int .u8 0), (Value.int .u64 0), (Value.int .u64 0), (Value.int .u64 0)]) 6 64 := Elem.mk (by kernel_rfl)
theorem Try.en12 : Enters Try.prog 12 := fun _ _ => by kernel_rfl
theorem Try.en22 : Enters Try.prog 22 := fun _ _ => by kernel_rfl
theorem Try.en26 : Enters Try.prog 26 := fun _ _ => by kernel_rfl
theorem Try.en27 : Enters Try.prog 27 := fun _ _ => by kernel_rfl
theorem Try.en28 : Enters Try.prog 28 := fun _ _ => by kernel_rfl
theorem Try.en44 : Enters Try.prog 44 := fun _ _ => by kernel_rfl
theorem Try.fl90 : (Try.prog.fieldsOf 90).toList = [⟨ "Sort", 5, 0, false, "", "", 0⟩, ⟨ "Id", 23, 1, false, "", "", 8⟩, ⟨ "Epoch", 23, 2, false, "", "", 16⟩] := by kernel_rfl
theorem Try.eg90 : Try.prog.eqGuardType Try.prog.depth 90 = false := by kernel_rfl
theorem Try.eq90 (d : Nat) (a0 : Int) (a1 : Int) (a2 : Int) (b0 : Int) (b1 : Int) (b2 : Int) : ∀ w, (Op.equalIn (d + 2) 90 (Value.agg #[(Value.int .u8 a0), (Value.int .u64 a1), (Value.int .u64 a2)]) (Value.agg #[(Value.int .u8 b0), (Value.int .u64 b1), (Value.int .u64 b2)])).run Try.prog w = .ok (((a0 : Int) == (b0 : Int)) && (((a1 : Int) == (b1 : Int)) && (((a2 : Int) == (b2 : Int)) && true))) w :=
  (eq_struct (by kernel_rfl) (by kernel_rfl) (Try.fl90) (eqF_cons (x := (Value.int .u8 a0)) (y := (Value.int .u8 b0)) (by decide) (fun _ => by kernel_rfl) (fun _ => by kernel_rfl) (fun w => run_equalIn_int w _ _ _ .u8 _ _ (by kernel_rfl)) (eqF_cons (x := (Value.int .u64 a1)) (y := (Value.int .u64 b1)) (by decide) (fun _ => by kernel_rfl) (fun _ => by kernel_rfl) (fun w => run_equalIn_int w _ _ _ .u64 _ _ (by kernel_rfl)) (eqF_cons (x := (Value.int .u64 a2)) (y := (Value.int .u64 b2)) (by decide) (fun _ => by kernel_rfl) (fun _ => by kernel_rfl) (fun w => run_equalIn_int w _ _ _ .u64 _ _ (by kernel_rfl)) eqF_nil))))
theorem Try.sc33 : Scal Try.prog 33 := fun _ => by kernel_rfl

theorem law23_few {G : Nat → Prop} {w : World} (v : Value) (l : List HAct) (most : Int)   (M : Mem G (fun _ => False) w [] [RepS HActT v l] w) : Rets Try.prog 10 #[v, (Value.int .i64 most)] w fun r w' => r = (Value.bool (fewH l most)) ∧ Mem G (fun _ => False) w [] [] w' := by
  refine Rets.enter 27 _ Try.func10 rfl Try.ntmps10 Try.results10 (by simp) ?_
  have hle1 := RepS.le' (M.rep 0 rfl)
  have sl2 : IsSl v := RepS.isSl (Mem.rep M 0 rfl)
  obtain ⟨cs3, M⟩ := M.openS 0 rfl
  refine W.seq' ?_
  refine W.region rfl ?_
  refine WL.step (v := (Value.bool false)) rfl (Step.assign rfl) ?_
  refine WL.nil ?_
  refine W.seq' ?_
  refine W.seq' ?_
  refine W.region rfl ?_
  refine WL.step (v := (Value.int .i64 0)) rfl (Step.assign rfl) ?_
  refine WL.nil ?_
  refine W.block ?_
  refine W.loop (fun kk ρ w' => ∃ (i_ : Nat), ((i_ ≤ l.length) ∧ ((l.take i_).all (fun a => decide (a.l.length ≤ 8)) = true) ∧ (i_ ≤ 100) ∧ kk = l.length - i_) ∧ ρ.has [(0, v), (1, (Value.int .i64 most)), (5, (Value.int .i64 ↑i_))] ∧ Mem G (fun _ => False) w [] [SlAt 6 v l.length cs3, RepL HActT cs3 l, RepS HActT v l]  w') _ ⟨0, ⟨(Nat.zero_le _), rfl, (by omega), rfl⟩, ⟨rfl, rfl, rfl, rfl, rfl⟩, M⟩ ?_
  rintro _ ρ5 w4 ⟨i_, ⟨hi6, hi7, hi8, rfl⟩, hρ, M⟩
  obtain ⟨ρ5, rfl⟩ := hρ.know
  clear hρ
  refine W.seq' ?_
  refine W.seq' ?_
  refine W.region rfl ?_
  refine WL.step (v := (Value.int .i64 ↑i_)) rfl (Step.move rfl) ?_
  refine WL.step (v := v) rfl (Step.move rfl) ?_
  refine WL.step (v := (Value.int .i64 ↑l.length)) rfl (Step.lenSl Try.un22 rfl (M.rep 0 rfl)) ?_
  refine WL.step (v := (Value.bool (decide ((↑i_ : Int) < (↑l.length : Int))))) rfl (Step.pure (by kernel_rfl)) ?_
  refine WL.step (v := (Value.bool (decide ((↑i_ : Int) < (↑l.length : Int))))) rfl (Step.move rfl) ?_
  rcases Bool.eq_false_or_eq_true (decide ((↑i_ : Int) < (↑l.length : Int))) with h9 | h9
  ·
    have h9p := of_decide_eq_true h9
    rw [h9]
    refine WL.step (v := (Value.int .i64 ↑i_)) rfl (Step.move rfl) ?_
    refine WL.step (v := (Value.bool (decide ((↑i_ : Int) < (100 : Int))))) rfl (Step.pure (by kernel_rfl)) ?_
    refine WL.step (v := (Value.bool (decide ((↑i_ : Int) < (100 : Int))))) rfl (Step.pick (t := true) rfl rfl) ?_
    refine WL.nil ?_
    refine W.cond (t := decide ((↑i_ : Int) < (100 : Int))) rfl (fun h10 => ?_) (fun h10 => ?_)
    ·
      have h10p := of_decide_eq_true h10
      refine W.skip ?_
      refine W.seq' ?_
      refine W.block ?_
      refine W.seq' ?_
      refine W.region rfl ?_
      refine WL.step (v := v) rfl (Step.move rfl) ?_
      refine WL.step (v := (Value.int .i64 ↑i_)) rfl (Step.move rfl) ?_
      obtain ⟨cap12, hb11⟩ := SlAt.base (M.rep 0 rfl) (by omega)
      obtain ⟨a13, ha13⟩ := elem_of_lt (xs := l) (i := i_) (by omega)
      obtain ⟨lv14, M⟩ := hact_open M 0 1 rfl rfl rfl ha13
      have sl15 : IsSl lv14 := SlAt.isSl (Mem.rep M 1 rfl)
      refine WL.step (v := (Value.pointer (some ⟨(sBlk v), sOff v + i_ * 6, none⟩))) rfl (Step.indexAddr (i := i_) (Try.un22).run Try.el37.sized rfl rfl (by omega) hb11 (by omega)) ?_
      refine WL.step (v := (Value.pointer (some ⟨(sBlk v), sOff v + i_ * 6 + 1, none⟩))) rfl (Step.pure (by kernel_rfl)) ?_
      refine WL.step (v := lv14) rfl (Step.loadE (k := 1) Try.sc33 (M.rep 0 rfl : EC _ _ _ _ _) (by decide) rfl rfl) ?_
      refine WL.step (v := (Value.int .i64 ↑a13.l.length)) rfl (Step.lenSl Try.un33 rfl (M.rep 1 rfl)) ?_
      refine WL.step (v := (Value.bool (decide ((↑a13.l.length : Int) > (8 : Int))))) rfl (Step.pure (by kernel_rfl)) ?_
      refine WL.nil ?_
      refine W.cond (t := decide ((↑a13.l.length : Int) > (8 : Int))) rfl (fun h16 => ?_) (fun h16 => ?_)
      ·
        have h16p := of_decide_eq_true h16
        refine W.seq' ?_
        refine W.region rfl ?_
        refine WL.step (v := (Value.bool false)) rfl (Step.assign rfl) ?_
        refine WL.nil ?_
        refine W.ret ?_
        refine ⟨.inl rfl, (Value.bool false), ?_, ?_⟩
        · exact ⟨rfl, (Res.r1 (show RV _ _ _ (.tmp 4) (Value.bool false) from by exact rfl))⟩
        refine ⟨?_, M.close [] rfl (by decide) trivial⟩
        refine congrArg Value.bool ?_
        exact (fewH_bad ha13 (by omega) (by omega)).symm
      ·
        have h16p := of_decide_eq_false h16
        refine W.skip ?_
        refine W.region rfl ?_
        refine WL.step (v := (Value.int .i64 ↑i_)) rfl (Step.move rfl) ?_
        refine WL.step (v := (Value.int .i64 (↑i_ + 1))) rfl (Step.add rfl rfl (wrap_i64 (by omega))) ?_
        refine WL.step (v := (Value.int .i64 (↑i_ + 1))) rfl (Step.assign rfl) ?_
        refine WL.nil ?_
        replace M := M.sub (List.Sublist.refl _) (R' := [SlAt 6 v l.length cs3, RepL HActT cs3 l, RepS HActT v l]) (fun r h => (List.mem_cons_of_mem _ (List.mem_cons_of_mem _ h)))
        exact ⟨_, (by omega), i_ + 1, ⟨(by omega), (fewH_step hi7 ha13 (by omega)), (by omega), rfl⟩, ⟨rfl, rfl, rfl, rfl, rfl⟩, M⟩
    ·
      have h10p := of_decide_eq_false h10
      refine W.exit ?_
      refine thn_exit ?_
      refine thn_exit ?_
      refine inBlk_hit ?_
      refine W.seq' ?_
      refine W.region rfl ?_
      refine WL.step (v := v) rfl (Step.move rfl) ?_
      refine WL.step (v := (Value.int .i64 ↑l.length)) rfl (Step.lenSl Try.un22 rfl (M.rep 0 rfl)) ?_
      refine WL.step (v := (Value.int .i64 most)) rfl (Step.move rfl) ?_
      refine WL.step (v := (Value.bool (decide ((↑l.length : Int) ≤ (most : Int))))) rfl (Step.pure (by kernel_rfl)) ?_
      refine WL.step (v := (Value.bool (decide ((↑l.length : Int) ≤ (most : Int))))) rfl (Step.assign rfl) ?_
      refine WL.nil ?_
      refine W.ret ?_
      refine ⟨.inl rfl, (Value.bool (decide ((↑l.length : Int) ≤ (most : Int)))), ?_, ?_⟩
      · exact ⟨rfl, (Res.r1 (show RV _ _ _ (.tmp 4) (Value.bool (decide ((↑l.length : Int) ≤ (most : Int)))) from by exact rfl))⟩
      refine ⟨?_, M.close [] rfl (by decide) trivial⟩
      refine congrArg Value.bool ?_
      exact fewH_end hi7 (by omega) hi6
  ·
    have h9p := of_decide_eq_false h9
    rw [h9]
    refine WL.pass rfl ?_
    refine WL.pass rfl ?_
    refine WL.step (v := (Value.bool false)) rfl (Step.pick (t := false) rfl rfl) ?_
    refine WL.nil ?_
    refine W.cond (t := false) rfl (fun h => by cases h) (fun _ => ?_)
    refine W.exit ?_
    refine thn_exit ?_
    refine thn_exit ?_
    refine inBlk_hit ?_
    refine W.seq' ?_
    refine W.region rfl ?_
    refine WL.step (v := v) rfl (Step.move rfl) ?_
    refine WL.step (v := (Value.int .i64 ↑l.length)) rfl (Step.lenSl Try.un22 rfl (M.rep 0 rfl)) ?_
    refine WL.step (v := (Value.int .i64 most)) rfl (Step.move rfl) ?_
    refine WL.step (v := (Value.bool (decide ((↑l.length : Int) ≤ (most : Int))))) rfl (Step.pure (by kernel_rfl)) ?_
    refine WL.step (v := (Value.bool (decide ((↑l.length : Int) ≤ (most : Int))))) rfl (Step.assign rfl) ?_
    refine WL.nil ?_
    refine W.ret ?_
    refine ⟨.inl rfl, (Value.bool (decide ((↑l.length : Int) ≤ (most : Int)))), ?_, ?_⟩
    · exact ⟨rfl, (Res.r1 (show RV _ _ _ (.tmp 4) (Value.bool (decide ((↑l.length : Int) ≤ (most : Int)))) from by exact rfl))⟩
    refine ⟨?_, M.close [] rfl (by decide) trivial⟩
    refine congrArg Value.bool ?_
    exact fewH_end hi7 (by omega) hi6

theorem law23_pin {G : Nat → Prop} {w : World} (p : PinH)   (M : Mem G (fun _ => False) w [] [] w) : Rets Try.prog 44 #[(Value.agg #[(Value.int .u8 p.sort), (Value.int .u64 p.id), (Value.int .u64 p.epoch)])] w fun r w' => r = (Value.agg #[(Value.int .u8 p.sort), (Value.int .u64 p.id), (Value.int .u64 p.epoch)]) ∧ Mem G (fun _ => False) w [] [] w' := by
  refine Rets.enter 10 _ Try.func44 rfl Try.ntmps44 Try.results44 (by simp) ?_
  refine W.seq' ?_
  refine W.region rfl ?_
  refine WL.box (v := (Value.agg #[(Value.int .u8 p.sort), (Value.int .u64 p.id), (Value.int .u64 p.epoch)])) (c := #[(Value.int .u8 p.sort), (Value.int .u64 p.id), (Value.int .u64 p.epoch)]) M rfl rfl rfl (fun b1 w2 hb1 M => ?_)
  refine WL.alloc (c := #[(Value.int .u8 0), (Value.int .u64 0), (Value.int .u64 0)]) M rfl Try.el90.zero rfl (fun b3 w4 hb3 M => ?_)
  refine WL.nil ?_
  refine W.seq' ?_
  refine W.region rfl ?_
  refine WL.step (v := (Value.pointer (some ⟨b1, 0, none⟩))) rfl (Step.pure (by kernel_rfl)) ?_
  refine WL.step (v := (Value.int .u8 p.sort)) rfl (Step.load1 Try.sc5 rfl ((M.cell 1 rfl 0).trans rfl)) ?_
  refine WL.step (v := (Value.pointer (some ⟨b1, 1, none⟩))) rfl (Step.pure (by kernel_rfl)) ?_
  refine WL.step (v := (Value.int .u64 p.id)) rfl (Step.load1 Try.sc23 rfl ((M.cell 1 rfl 1).trans rfl)) ?_
  refine WL.step (v := (Value.pointer (some ⟨b1, 2, none⟩))) rfl (Step.pure (by kernel_rfl)) ?_
  refine WL.step (v := (Value.int .u64 p.epoch)) rfl (Step.load1 Try.sc23 rfl ((M.cell 1 rfl 2).trans rfl)) ?_
  refine WL.step (v := (Value.agg #[(Value.int .u8 p.sort), (Value.int .u64 p.id), (Value.int .u64 p.epoch)])) rfl (Step.pure (by kernel_rfl)) ?_
  refine WL.store (v := (Value.agg #[(Value.int .u8 p.sort), (Value.int .u64 p.id), (Value.int .u64 p.epoch)])) (cs := [(Value.int .u8 p.sort), (Value.int .u64 p.id), (Value.int .u64 p.epoch)]) (c' := #[(Value.int .u8 p.sort), (Value.int .u64 p.id), (Value.int .u64 p.epoch)]) M 0 rfl rfl Try.el90.sized rfl rfl rfl rfl (Nat.le_of_ble_eq_true rfl) (cel_cons rfl (cel_cons rfl (cel_cons rfl cel_nil))) rfl rfl (fun w5 M => ?_)
  refine WL.nil ?_
  refine W.ret ?_
  refine ⟨.inl rfl, (Value.agg #[(Value.int .u8 p.sort), (Value.int .u64 p.id), (Value.int .u64 p.epoch)]), ?_, ?_⟩
  · exact ⟨rfl, (Res.r1 (RV.cellN Try.ag90 rfl (M.blk 0 rfl) rfl))⟩
  refine ⟨?_, M.close [] rfl (by decide) trivial⟩
  rfl

theorem law23_pins {G : Nat → Prop} {w : World} (v : Value) (l : List PinH)  (hbd : l.length ≤ 900000) (M : Mem G (fun _ => False) w [] [SlAt 3 v l.length (l.flatMap pinE)] w) : Rets Try.prog 16 #[v] w fun r w' => ∃ (v' : Value), r = v' ∧ Mem G (fun _ => False) w [own 90 3 v' l.length (l.flatMap pinE)] [] w' := by
  refine Rets.enter 20 _ Try.func16 rfl Try.ntmps16 Try.results16 (by simp) ?_
  have hle1 := SlAt.le' (M.rep 0 rfl)
  have sl2 : IsSl v := SlAt.isSl (Mem.rep M 0 rfl)
  refine W.seq' ?_
  refine W.region rfl ?_
  refine WL.step (v := (Value.slice none 0 0)) rfl (Step.assign rfl) ?_
  refine WL.nil ?_
  refine W.seq' ?_
  refine W.region rfl ?_
  refine WL.step (v := (Value.slice none 0 0)) rfl (Step.assign rfl) ?_
  refine WL.nil ?_
  refine W.seq' ?_
  refine W.seq' ?_
  refine W.region rfl ?_
  refine WL.step (v := (Value.int .i64 0)) rfl (Step.assign rfl) ?_
  refine WL.nil ?_
  refine W.block ?_
  replace M := M.ownNil 90 3
  replace M := M.rechunk 0 (c' := own 90 3 (Value.slice none 0 0) ((l.take 0).length) ((l.take 0).flatMap pinE)) rfl rfl
  replace M : Mem _ _ _ [own 90 3 (Value.slice none 0 0) ((l.take 0).length) ((l.take 0).flatMap pinE)] [SlAt 3 v l.length (l.flatMap pinE)] _ := M
  refine W.loop (fun kk ρ w' => ∃ (i_ : Nat) (acci_ : Value), ((i_ ≤ l.length) ∧ kk = l.length - i_) ∧ ρ.has [(0, v), (2, (Value.slice none 0 0)), (3, acci_), (4, (Value.int .i64 ↑i_))] ∧ Mem G (fun _ => False) w [own 90 3 acci_ ((l.take i_).length) ((l.take i_).flatMap pinE)] [SlAt 3 v l.length (l.flatMap pinE)]  w') _ ⟨0, _, ⟨(Nat.zero_le _), rfl⟩, ⟨rfl, rfl, rfl, rfl, rfl, rfl⟩, M⟩ ?_
  rintro _ ρ4 w3 ⟨i_, acci_, ⟨hi5, rfl⟩, hρ, M⟩
  obtain ⟨ρ4, rfl⟩ := hρ.know
  clear hρ
  have sl6 : IsSl acci_ := SlAt.isSl (own_slAt (M.chunk 0 rfl).inv)
  have hacl : (l.take i_).length ≤ 1000000 := by rw [List.length_take]; omega
  refine W.seq' ?_
  refine W.seq' ?_
  refine W.region rfl ?_
  refine WL.step (v := (Value.int .i64 ↑i_)) rfl (Step.move rfl) ?_
  refine WL.step (v := v) rfl (Step.move rfl) ?_
  refine WL.step (v := (Value.int .i64 ↑l.length)) rfl (Step.lenSl Try.un33 rfl (M.rep 0 rfl)) ?_
  refine WL.step (v := (Value.bool (decide ((↑i_ : Int) < (↑l.length : Int))))) rfl (Step.pure (by kernel_rfl)) ?_
  refine WL.nil ?_
  refine W.cond (t := decide ((↑i_ : Int) < (↑l.length : Int))) rfl (fun h7 => ?_) (fun h7 => ?_)
  ·
    have h7p := of_decide_eq_true h7
    refine W.skip ?_
    refine W.seq' ?_
    refine W.block ?_
    refine W.region rfl ?_
    refine WL.step (v := acci_) rfl (Step.move rfl) ?_
    refine WL.step (v := v) rfl (Step.move rfl) ?_
    refine WL.step (v := (Value.int .i64 ↑i_)) rfl (Step.move rfl) ?_
    obtain ⟨cap9, hb8⟩ := SlAt.base (M.rep 0 rfl) (by omega)
    obtain ⟨x10, hx10⟩ := elem_of_lt (xs := l) (i := i_) (by omega)
    refine WL.step (v := (Value.pointer (some ⟨(sBlk v), sOff v + i_ * 3, none⟩))) rfl (Step.indexAddr (i := i_) (Try.un33).run Try.el35.sized rfl rfl (by omega) hb8 (by omega)) ?_
    refine WL.step (v := (Value.agg #[(Value.int .u8 x10.sort), (Value.int .u64 x10.id), (Value.int .u64 x10.epoch)])) rfl (Step.loadEN (k := 0) (cs' := [(Value.int .u8 x10.sort), (Value.int .u64 x10.id), (Value.int .u64 x10.epoch)]) Try.ag35 (flat_ec (M.rep 0 rfl) hx10 pinE_len) (by decide) rfl rfl rfl) ?_
    refine WL.callX rfl (law23_pin x10 (M.enterW0 trivial)) (CallsF.func Try.en44 rfl) ?_
    rintro _ w11 ⟨rfl, m⟩
    replace M := M.leaveW0 m
    clear m
    replace M : Mem _ _ _ [own 90 3 acci_ ((l.take i_).length) ((l.take i_).flatMap pinE)] [SlAt 3 v l.length (l.flatMap pinE)] _ := M
    refine WL.new (obj := .cells #[(Value.int .u8 x10.sort), (Value.int .u64 x10.id), (Value.int .u64 x10.epoch)] 90) (fun b => .slice (some ⟨b, 0, none⟩) 1 1) M rfl (fun w => Step.make (by kernel_rfl)) (fun b12 w13 hb12 M => ?_)
    refine WL.does rfl (M.appendF (l.take i_) ([x10] : List PinH) (sv := (Value.slice (some ⟨b12, 0, none⟩) 1 1)) 1 Try.un28 Try.el90 rfl (by decide) rfl rfl rfl (SlAt.of_blk (M.blk 0 rfl) rfl (by decide)) pinE_cel (by have := hacl; simp only [maxLen, List.length_nil, List.length_cons, List.length_append]; omega) (by have := hacl; (try simp only [List.length_nil, List.length_cons, List.length_append]); omega)) ?_
    rintro v14 w15 M
    replace M : Mem _ _ _ [blk b12 (.cells #[(Value.int .u8 x10.sort), (Value.int .u64 x10.id), (Value.int .u64 x10.epoch)] 90), own 90 3 v14 (((l.take i_) ++ ([x10] : List PinH)).length) (((l.take i_) ++ ([x10] : List PinH)).flatMap pinE)] [SlAt 3 v l.length (l.flatMap pinE)] _ := M
    have sl16 : IsSl v14 := SlAt.isSl (own_slAt (M.chunk 1 rfl).inv)
    refine WL.step (v := v14) rfl (Step.assign rfl) ?_
    refine WL.nil ?_
    refine W.region rfl ?_
    refine WL.step (v := (Value.int .i64 ↑i_)) rfl (Step.move rfl) ?_
    refine WL.step (v := (Value.int .i64 (↑i_ + 1))) rfl (Step.add rfl rfl (wrap_i64 (by omega))) ?_
    refine WL.step (v := (Value.int .i64 (↑i_ + 1))) rfl (Step.assign rfl) ?_
    refine WL.nil ?_
    replace M := M.rechunk 1 (c' := own 90 3 v14 ((l.take (i_ + 1)).length) ((l.take (i_ + 1)).flatMap pinE)) rfl (by rw [← take_snoc hx10])
    replace M : Mem _ _ _ [blk b12 (.cells #[(Value.int .u8 x10.sort), (Value.int .u64 x10.id), (Value.int .u64 x10.epoch)] 90), own 90 3 v14 ((l.take (i_ + 1)).length) ((l.take (i_ + 1)).flatMap pinE)] [SlAt 3 v l.length (l.flatMap pinE)] _ := M
    replace M := M.sel (L' := [own 90 3 v14 ((l.take (i_ + 1)).length) ((l.take (i_ + 1)).flatMap pinE)]) [1] rfl (by decide)
    exact ⟨_, (by omega), i_ + 1, v14, ⟨(by omega), rfl⟩, ⟨rfl, rfl, rfl, rfl, rfl, rfl⟩, M⟩
  ·
    have h7p := of_decide_eq_false h7
    refine W.exit ?_
    refine thn_exit ?_
    refine thn_exit ?_
    refine inBlk_hit ?_
    refine W.seq' ?_
    refine W.region rfl ?_
    refine WL.step (v := acci_) rfl (Step.move rfl) ?_
    refine WL.step (v := acci_) rfl (Step.assign rfl) ?_
    refine WL.nil ?_
    refine W.ret ?_
    refine ⟨.inl rfl, acci_, ?_, ?_⟩
    · exact ⟨rfl, (Res.r1 (show RV _ _ _ (.tmp 2) acci_ from by exact rfl))⟩
    have e17 : l = l.take i_ := by
      rw [show i_ = l.length by omega, List.take_length]
    replace M := M.rechunk 0 (c' := own 90 3 acci_ l.length (l.flatMap pinE)) rfl (congrArg (fun z => own 90 3 acci_ z.length (z.flatMap pinE)) e17.symm)
    replace M : Mem _ _ _ [own 90 3 acci_ l.length (l.flatMap pinE)] [SlAt 3 v l.length (l.flatMap pinE)] _ := M
    refine ⟨acci_, ?_, M.close [0] rfl (by decide) trivial⟩
    rfl

theorem law23_same {G : Nat → Prop} {w : World} (v : Value) (xs : List PinH) (u : Value) (ys : List PinH)   (M : Mem G (fun _ => False) w [] [SlAt 3 v xs.length (xs.flatMap pinE), SlAt 3 u ys.length (ys.flatMap pinE)] w) : Rets Try.prog 15 #[v, u] w fun r w' => r = (Value.bool (decide (xs = ys))) ∧ Mem G (fun _ => False) w [] [] w' := by
  refine Rets.enter 26 _ Try.func15 rfl Try.ntmps15 Try.results15 (by simp) ?_
  have hle1 := SlAt.le' (M.rep 0 rfl)
  have hle2 := SlAt.le' (M.rep 1 rfl)
  have sl3 : IsSl v := SlAt.isSl (Mem.rep M 0 rfl)
  have sl4 : IsSl u := SlAt.isSl (Mem.rep M 1 rfl)
  refine W.seq' ?_
  refine W.region rfl ?_
  refine WL.step (v := (Value.bool false)) rfl (Step.assign rfl) ?_
  refine WL.nil ?_
  refine W.seq' ?_
  refine W.seq' ?_
  refine W.region rfl ?_
  refine WL.step (v := v) rfl (Step.move rfl) ?_
  refine WL.step (v := (Value.int .i64 ↑xs.length)) rfl (Step.lenSl Try.un28 rfl (M.rep 0 rfl)) ?_
  refine WL.step (v := u) rfl (Step.move rfl) ?_
  refine WL.step (v := (Value.int .i64 ↑ys.length)) rfl (Step.lenSl Try.un28 rfl (M.rep 1 rfl)) ?_
  refine WL.step (v := (Value.bool ((↑xs.length : Int) != (↑ys.length : Int)))) rfl (Step.pure (by kernel_rfl)) ?_
  refine WL.nil ?_
  refine W.cond (t := (↑xs.length : Int) != (↑ys.length : Int)) rfl (fun h5 => ?_) (fun h5 => ?_)
  ·
    have h5p : ¬ (↑xs.length : Int) = (↑ys.length : Int) := by simpa using h5
    refine W.seq' ?_
    refine W.region rfl ?_
    refine WL.step (v := (Value.bool false)) rfl (Step.assign rfl) ?_
    refine WL.nil ?_
    refine W.ret ?_
    refine ⟨.inl rfl, (Value.bool false), ?_, ?_⟩
    · exact ⟨rfl, (Res.r1 (show RV _ _ _ (.tmp 4) (Value.bool false) from by exact rfl))⟩
    refine ⟨?_, M.close [] rfl (by decide) trivial⟩
    refine congrArg Value.bool ?_
    exact eqL_len h5p
  ·
    have h5p : (↑xs.length : Int) = (↑ys.length : Int) := by simpa using h5
    refine W.skip ?_
    refine W.seq' ?_
    refine W.seq' ?_
    refine W.region rfl ?_
    refine WL.step (v := (Value.int .i64 0)) rfl (Step.assign rfl) ?_
    refine WL.nil ?_
    refine W.block ?_
    refine W.loop (fun kk ρ w' => ∃ (i_ : Nat), ((i_ ≤ xs.length) ∧ (xs.take i_ = ys.take i_) ∧ kk = xs.length - i_) ∧ ρ.has [(0, v), (1, u), (5, (Value.int .i64 ↑i_))] ∧ Mem G (fun _ => False) w [] [SlAt 3 v xs.length (xs.flatMap pinE), SlAt 3 u ys.length (ys.flatMap pinE)]  w') _ ⟨0, ⟨(Nat.zero_le _), rfl, rfl⟩, ⟨rfl, rfl, rfl, rfl, rfl⟩, M⟩ ?_
    rintro _ ρ7 w6 ⟨i_, ⟨hi8, hi9, rfl⟩, hρ, M⟩
    obtain ⟨ρ7, rfl⟩ := hρ.know
    clear hρ
    refine W.seq' ?_
    refine W.seq' ?_
    refine W.region rfl ?_
    refine WL.step (v := (Value.int .i64 ↑i_)) rfl (Step.move rfl) ?_
    refine WL.step (v := v) rfl (Step.move rfl) ?_
    refine WL.step (v := (Value.int .i64 ↑xs.length)) rfl (Step.lenSl Try.un28 rfl (M.rep 0 rfl)) ?_
    refine WL.step (v := (Value.bool (decide ((↑i_ : Int) < (↑xs.length : Int))))) rfl (Step.pure (by kernel_rfl)) ?_
    refine WL.nil ?_
    refine W.cond (t := decide ((↑i_ : Int) < (↑xs.length : Int))) rfl (fun h10 => ?_) (fun h10 => ?_)
    ·
      have h10p := of_decide_eq_true h10
      refine W.skip ?_
      refine W.seq' ?_
      refine W.block ?_
      refine W.seq' ?_
      obtain ⟨cap12, hb11⟩ := SlAt.base (M.rep 0 rfl) (by omega)
      obtain ⟨x13, hx13⟩ := elem_of_lt (xs := xs) (i := i_) (by omega)
      obtain ⟨cap15, hb14⟩ := SlAt.base (M.rep 1 rfl) (by omega)
      obtain ⟨x16, hx16⟩ := elem_of_lt (xs := ys) (i := i_) (by omega)
      refine W.drawn M [0, 1, 2, 3, 4, 5, 6, 7, 8] [] [] [] [SlAt 3 v xs.length (xs.flatMap pinE), SlAt 3 u ys.length (ys.flatMap pinE)] List.Sublist.slnil (fun _ h => h) Try.mixed (by kernel_rfl) ?_
      refine TW.pure (v := v) rfl (by decide) (by decide) rfl (fun w => (Step.move rfl)) ?_
      refine TW.pure (v := (Value.int .i64 ↑i_)) rfl (by decide) (by decide) rfl (fun w => (Step.move rfl)) ?_
      refine TW.pure (v := (Value.pointer (some ⟨(sBlk v), sOff v + i_ * 3, none⟩))) rfl (by decide) (by decide) rfl (fun w => (Step.indexAddr (i := i_) (Try.un28).run Try.el90.sized rfl rfl (by omega) hb11 (by omega))) ?_
      refine TW.read (v := (Value.agg #[(Value.int .u8 x13.sort), (Value.int .u64 x13.id), (Value.int .u64 x13.epoch)])) rfl (by decide) (by decide) rfl (fun A w M => (Step.loadEN (k := 0) (cs' := [(Value.int .u8 x13.sort), (Value.int .u64 x13.id), (Value.int .u64 x13.epoch)]) Try.ag90 (flat_ec (M.rep 0 rfl) hx13 pinE_len) (by decide) rfl rfl rfl)) ?_
      refine TW.pure (v := u) rfl (by decide) (by decide) rfl (fun w => (Step.move rfl)) ?_
      refine TW.pure (v := (Value.int .i64 ↑i_)) rfl (by decide) (by decide) rfl (fun w => (Step.move rfl)) ?_
      refine TW.pure (v := (Value.pointer (some ⟨(sBlk u), sOff u + i_ * 3, none⟩))) rfl (by decide) (by decide) rfl (fun w => (Step.indexAddr (i := i_) (Try.un28).run Try.el90.sized rfl rfl (by omega) hb14 (by omega))) ?_
      refine TW.read (v := (Value.agg #[(Value.int .u8 x16.sort), (Value.int .u64 x16.id), (Value.int .u64 x16.epoch)])) rfl (by decide) (by decide) rfl (fun A w M => (Step.loadEN (k := 0) (cs' := [(Value.int .u8 x16.sort), (Value.int .u64 x16.id), (Value.int .u64 x16.epoch)]) Try.ag90 (flat_ec (M.rep 1 rfl) hx16 pinE_len) (by decide) rfl rfl rfl)) ?_
      refine TW.pure (v := (Value.bool (!decide (x13 = x16)))) rfl (by decide) (by decide) rfl (fun w => (Step.cast (congrArg (fun z => Value.bool (!z)) (pin_eqB x13 x16)) (Step.neqAgg Try.eg90 rfl rfl rfl (Try.eq90 9998 (x13.sort : Int) (x13.id : Int) (x13.epoch : Int) (x16.sort : Int) (x16.id : Int) (x16.epoch : Int))))) ?_
      refine TW.done (fun w17 M => ?_)
      refine W.cond (t := !decide (x13 = x16)) rfl (fun h18 => ?_) (fun h18 => ?_)
      ·
        refine W.seq' ?_
        refine W.region rfl ?_
        refine WL.step (v := (Value.bool false)) rfl (Step.assign rfl) ?_
        refine WL.nil ?_
        refine W.ret ?_
        refine ⟨.inl rfl, (Value.bool false), ?_, ?_⟩
        · exact ⟨rfl, (Res.r1 (show RV _ _ _ (.tmp 4) (Value.bool false) from by exact rfl))⟩
        refine ⟨?_, M.close [] rfl (by decide) trivial⟩
        refine congrArg Value.bool ?_
        exact eqL_at hx13 hx16 h18
      ·
        refine W.skip ?_
        refine W.region rfl ?_
        refine WL.step (v := (Value.int .i64 ↑i_)) rfl (Step.move rfl) ?_
        refine WL.step (v := (Value.int .i64 (↑i_ + 1))) rfl (Step.add rfl rfl (wrap_i64 (by omega))) ?_
        refine WL.step (v := (Value.int .i64 (↑i_ + 1))) rfl (Step.assign rfl) ?_
        refine WL.nil ?_
        exact ⟨_, (by omega), i_ + 1, ⟨(by omega), (eqL_step hi9 hx13 hx16 h18), rfl⟩, ⟨rfl, rfl, rfl, rfl, rfl⟩, M⟩
    ·
      have h10p := of_decide_eq_false h10
      refine W.exit ?_
      refine thn_exit ?_
      refine thn_exit ?_
      refine inBlk_hit ?_
      refine W.seq' ?_
      refine W.region rfl ?_
      refine WL.step (v := (Value.bool true)) rfl (Step.assign rfl) ?_
      refine WL.nil ?_
      refine W.ret ?_
      refine ⟨.inl rfl, (Value.bool true), ?_, ?_⟩
      · exact ⟨rfl, (Res.r1 (show RV _ _ _ (.tmp 4) (Value.bool true) from by exact rfl))⟩
      refine ⟨?_, M.close [] rfl (by decide) trivial⟩
      refine congrArg Value.bool ?_
      exact eqL_all hi9 (by omega) h5p

theorem law23_works {G : Nat → Prop} {w : World}    (M : Mem G (fun _ => False) w [] [] w) : Rets Try.prog 11 #[] w fun r w' => r = (Value.bool true) ∧ Mem G (fun _ => False) w [] [] w' := by
  refine Rets.enter 91 _ Try.func11 rfl Try.ntmps11 Try.results11 (by simp) ?_
  refine W.seq' ?_
  refine W.region rfl ?_
  refine WL.step (v := (Value.bool false)) rfl (Step.assign rfl) ?_
  refine WL.nil ?_
  refine W.seq' ?_
  refine W.region rfl ?_
  refine WL.callX rfl (hz_new  (M.enterW0 trivial)) (CallsF.func Try.en12 rfl) ?_
  rintro _ w3 ⟨zb1, zm2, rfl, m⟩
  replace M := M.leaveW0 m
  clear m
  replace M : Mem _ _ _ [blk zb1 (.cells #[(Value.map (some zm2)), (Value.int .u64 0)] 87), mapP zm2 ([] : List PinH)] [] _ := M
  refine WL.step (v := (Value.pointer (some ⟨zb1, 0, none⟩))) rfl (Step.assign rfl) ?_
  refine WL.nil ?_
  refine W.seq' ?_
  refine W.region rfl ?_
  refine WL.step (v := (Value.pointer (some ⟨zb1, 0, none⟩))) rfl (Step.move rfl) ?_
  refine WL.step (v := (Value.agg #[(Value.int .u8 1), (Value.int .u64 7), (Value.int .u64 5)])) rfl (Step.pure (by kernel_rfl)) ?_
  refine WL.new (obj := .cells #[(Value.int .u8 1), (Value.int .u64 7), (Value.int .u64 5)] 35) (fun b => .slice (some ⟨b, 0, none⟩) 1 1) M rfl (fun w => Step.make (by kernel_rfl)) (fun b4 w5 hb4 M => ?_)
  refine WL.callX rfl (hz_pin zb1 zm2 ([] : List PinH) 0 (Value.slice (some ⟨b4, 0, none⟩) 1 1) ([(⟨1, 7, 5⟩ : PinH)] : List PinH) (M.enterW (C := [blk zb1 (.cells #[(Value.map (some zm2)), (Value.int .u64 0)] 87), mapP zm2 ([] : List PinH)]) (D := [blk b4 (.cells #[(Value.int .u8 1), (Value.int .u64 7), (Value.int .u64 5)] 35)]) [1, 2, 0] rfl (by decide) ⟨((M.wideC (C := [blk zb1 (.cells #[(Value.map (some zm2)), (Value.int .u64 0)] 87), mapP zm2 ([] : List PinH)]) (D := [blk b4 (.cells #[(Value.int .u8 1), (Value.int .u64 7), (Value.int .u64 5)] 35)]) [1, 2, 0] rfl (by decide) 0 rfl).imp fun _ h => SlAt.of_blk (n := 1) (size := 3) h rfl (by decide)), trivial⟩)) (CallsF.func Try.en28 rfl) ?_
  rintro _ w6 ⟨rfl, m⟩
  replace M := M.leaveW (C := [blk zb1 (.cells #[(Value.map (some zm2)), (Value.int .u64 0)] 87), mapP zm2 ([] : List PinH)]) (D := [blk b4 (.cells #[(Value.int .u8 1), (Value.int .u64 7), (Value.int .u64 5)] 35)]) [1, 2, 0] rfl (by decide) m
  clear m
  replace M : Mem _ _ _ [blk zb1 (.cells #[(Value.map (some zm2)), (Value.int .u64 0)] 87), mapP zm2 (pinS ([] : List PinH) 0 ([(⟨1, 7, 5⟩ : PinH)] : List PinH)), blk b4 (.cells #[(Value.int .u8 1), (Value.int .u64 7), (Value.int .u64 5)] 35)] [] _ := M
  replace M := M.rechunk 1 (c' := mapP zm2 ([⟨1, 7, 5⟩] : List PinH)) rfl (by rw [show pinS ([] : List PinH) 0 ([(⟨1, 7, 5⟩ : PinH)] : List PinH) = ([⟨1, 7, 5⟩] : List PinH) by kernel_rfl])
  replace M : Mem _ _ _ [blk zb1 (.cells #[(Value.map (some zm2)), (Value.int .u64 0)] 87), mapP zm2 ([⟨1, 7, 5⟩] : List PinH), blk b4 (.cells #[(Value.int .u8 1), (Value.int .u64 7), (Value.int .u64 5)] 35)] [] _ := M
  rw [show (pinC ([] : List PinH) 0 ([(⟨1, 7, 5⟩ : PinH)] : List PinH) : Int) = 0 by kernel_rfl]
  change WL _ _ _ _ _ (Env.put _ _ (Value.int .i64 0)) _
  refine WL.step (v := (Value.int .i64 0)) rfl (Step.assign rfl) ?_
  refine WL.nil ?_
  refine W.seq' ?_
  refine W.region rfl ?_
  refine WL.step (v := (Value.pointer (some ⟨zb1, 0, none⟩))) rfl (Step.move rfl) ?_
  refine WL.step (v := (Value.agg #[(Value.int .u8 1), (Value.int .u64 8), (Value.int .u64 9)])) rfl (Step.pure (by kernel_rfl)) ?_
  refine WL.new (obj := .cells #[(Value.int .u8 1), (Value.int .u64 8), (Value.int .u64 9)] 35) (fun b => .slice (some ⟨b, 0, none⟩) 1 1) M rfl (fun w => Step.make (by kernel_rfl)) (fun b7 w8 hb7 M => ?_)
  refine WL.callX rfl (hz_pin zb1 zm2 ([⟨1, 7, 5⟩] : List PinH) 0 (Value.slice (some ⟨b7, 0, none⟩) 1 1) ([(⟨1, 8, 9⟩ : PinH)] : List PinH) (M.enterW (C := [blk zb1 (.cells #[(Value.map (some zm2)), (Value.int .u64 0)] 87), mapP zm2 ([⟨1, 7, 5⟩] : List PinH)]) (D := [blk b7 (.cells #[(Value.int .u8 1), (Value.int .u64 8), (Value.int .u64 9)] 35), blk b4 (.cells #[(Value.int .u8 1), (Value.int .u64 7), (Value.int .u64 5)] 35)]) [1, 2, 0, 3] rfl (by decide) ⟨((M.wideC (C := [blk zb1 (.cells #[(Value.map (some zm2)), (Value.int .u64 0)] 87), mapP zm2 ([⟨1, 7, 5⟩] : List PinH)]) (D := [blk b7 (.cells #[(Value.int .u8 1), (Value.int .u64 8), (Value.int .u64 9)] 35), blk b4 (.cells #[(Value.int .u8 1), (Value.int .u64 7), (Value.int .u64 5)] 35)]) [1, 2, 0, 3] rfl (by decide) 0 rfl).imp fun _ h => SlAt.of_blk (n := 1) (size := 3) h rfl (by decide)), trivial⟩)) (CallsF.func Try.en28 rfl) ?_
  rintro _ w9 ⟨rfl, m⟩
  replace M := M.leaveW (C := [blk zb1 (.cells #[(Value.map (some zm2)), (Value.int .u64 0)] 87), mapP zm2 ([⟨1, 7, 5⟩] : List PinH)]) (D := [blk b7 (.cells #[(Value.int .u8 1), (Value.int .u64 8), (Value.int .u64 9)] 35), blk b4 (.cells #[(Value.int .u8 1), (Value.int .u64 7), (Value.int .u64 5)] 35)]) [1, 2, 0, 3] rfl (by decide) m
  clear m
  replace M : Mem _ _ _ [blk zb1 (.cells #[(Value.map (some zm2)), (Value.int .u64 0)] 87), mapP zm2 (pinS ([⟨1, 7, 5⟩] : List PinH) 0 ([(⟨1, 8, 9⟩ : PinH)] : List PinH)), blk b7 (.cells #[(Value.int .u8 1), (Value.int .u64 8), (Value.int .u64 9)] 35), blk b4 (.cells #[(Value.int .u8 1), (Value.int .u64 7), (Value.int .u64 5)] 35)] [] _ := M
  replace M := M.rechunk 1 (c' := mapP zm2 ([⟨1, 7, 5⟩, ⟨1, 8, 9⟩] : List PinH)) rfl (by rw [show pinS ([⟨1, 7, 5⟩] : List PinH) 0 ([(⟨1, 8, 9⟩ : PinH)] : List PinH) = ([⟨1, 7, 5⟩, ⟨1, 8, 9⟩] : List PinH) by kernel_rfl])
  replace M : Mem _ _ _ [blk zb1 (.cells #[(Value.map (some zm2)), (Value.int .u64 0)] 87), mapP zm2 ([⟨1, 7, 5⟩, ⟨1, 8, 9⟩] : List PinH), blk b7 (.cells #[(Value.int .u8 1), (Value.int .u64 8), (Value.int .u64 9)] 35), blk b4 (.cells #[(Value.int .u8 1), (Value.int .u64 7), (Value.int .u64 5)] 35)] [] _ := M
  rw [show (pinC ([⟨1, 7, 5⟩] : List PinH) 0 ([(⟨1, 8, 9⟩ : PinH)] : List PinH) : Int) = 0 by kernel_rfl]
  change WL _ _ _ _ _ (Env.put _ _ (Value.int .i64 0)) _
  refine WL.step (v := (Value.int .i64 0)) rfl (Step.assign rfl) ?_
  refine WL.nil ?_
  refine W.seq' ?_
  refine W.seq' ?_
  refine W.region rfl ?_
  refine WL.step (v := (Value.int .i64 0)) rfl (Step.move rfl) ?_
  refine WL.step (v := (Value.bool false)) rfl (Step.pure (by kernel_rfl)) ?_
  refine WL.step (v := (Value.bool false)) rfl (Step.move rfl) ?_
  refine WL.step (v := (Value.int .i64 0)) rfl (Step.move rfl) ?_
  refine WL.step (v := (Value.bool false)) rfl (Step.pure (by kernel_rfl)) ?_
  refine WL.step (v := (Value.bool false)) rfl (Step.pick (t := false) rfl rfl) ?_
  refine WL.step (v := (Value.bool false)) rfl (Step.move rfl) ?_
  refine WL.step (v := (Value.pointer (some ⟨zb1, 0, none⟩))) rfl (Step.move rfl) ?_
  refine WL.callX rfl (hz_raise zb1 zm2 ([⟨1, 7, 5⟩, ⟨1, 8, 9⟩] : List PinH) 0 12 (M.enterW (C := [blk zb1 (.cells #[(Value.map (some zm2)), (Value.int .u64 0)] 87), mapP zm2 ([⟨1, 7, 5⟩, ⟨1, 8, 9⟩] : List PinH)]) (D := [blk b7 (.cells #[(Value.int .u8 1), (Value.int .u64 8), (Value.int .u64 9)] 35), blk b4 (.cells #[(Value.int .u8 1), (Value.int .u64 7), (Value.int .u64 5)] 35)]) [0, 1, 2, 3] rfl (by decide) trivial)) (CallsF.func Try.en27 rfl) ?_
  rintro _ w10 ⟨rfl, m⟩
  replace M := M.leaveW (C := [blk zb1 (.cells #[(Value.map (some zm2)), (Value.int .u64 0)] 87), mapP zm2 ([⟨1, 7, 5⟩, ⟨1, 8, 9⟩] : List PinH)]) (D := [blk b7 (.cells #[(Value.int .u8 1), (Value.int .u64 8), (Value.int .u64 9)] 35), blk b4 (.cells #[(Value.int .u8 1), (Value.int .u64 7), (Value.int .u64 5)] 35)]) [0, 1, 2, 3] rfl (by decide) m
  clear m
  replace M : Mem _ _ _ [blk zb1 (.cells #[(Value.map (some zm2)), (Value.int .u64 (max (0 : Int) (minE 12 ([⟨1, 7, 5⟩, ⟨1, 8, 9⟩] : List PinH) : Int)))] 87), mapP zm2 ([⟨1, 7, 5⟩, ⟨1, 8, 9⟩] : List PinH), blk b7 (.cells #[(Value.int .u8 1), (Value.int .u64 8), (Value.int .u64 9)] 35), blk b4 (.cells #[(Value.int .u8 1), (Value.int .u64 7), (Value.int .u64 5)] 35)] [] _ := M
  replace M := M.rechunk 1 (c' := mapP zm2 ([⟨1, 7, 5⟩, ⟨1, 8, 9⟩] : List PinH)) rfl (by rw [show ([⟨1, 7, 5⟩, ⟨1, 8, 9⟩] : List PinH) = ([⟨1, 7, 5⟩, ⟨1, 8, 9⟩] : List PinH) by kernel_rfl])
  replace M : Mem _ _ _ [blk zb1 (.cells #[(Value.map (some zm2)), (Value.int .u64 (max (0 : Int) (minE 12 ([⟨1, 7, 5⟩, ⟨1, 8, 9⟩] : List PinH) : Int)))] 87), mapP zm2 ([⟨1, 7, 5⟩, ⟨1, 8, 9⟩] : List PinH), blk b7 (.cells #[(Value.int .u8 1), (Value.int .u64 8), (Value.int .u64 9)] 35), blk b4 (.cells #[(Value.int .u8 1), (Value.int .u64 7), (Value.int .u64 5)] 35)] [] _ := M
  replace M := M.rechunk 0 (c' := blk zb1 (.cells #[(Value.map (some zm2)), (Value.int .u64 5)] 87)) rfl (by rw [show (max (0 : Int) (minE 12 ([⟨1, 7, 5⟩, ⟨1, 8, 9⟩] : List PinH) : Int) : Int) = 5 by kernel_rfl])
  replace M : Mem _ _ _ [blk zb1 (.cells #[(Value.map (some zm2)), (Value.int .u64 5)] 87), mapP zm2 ([⟨1, 7, 5⟩, ⟨1, 8, 9⟩] : List PinH), blk b7 (.cells #[(Value.int .u8 1), (Value.int .u64 8), (Value.int .u64 9)] 35), blk b4 (.cells #[(Value.int .u8 1), (Value.int .u64 7), (Value.int .u64 5)] 35)] [] _ := M
  rw [show (max (0 : Int) (minE 12 ([⟨1, 7, 5⟩, ⟨1, 8, 9⟩] : List PinH) : Int) : Int) = 5 by kernel_rfl]
  change WL _ _ _ _ _ (Env.put _ _ (Value.int .u64 5)) _
  refine WL.step (v := (Value.bool false)) rfl (Step.pure (by kernel_rfl)) ?_
  refine WL.step (v := (Value.bool false)) rfl (Step.pick (t := false) rfl rfl) ?_
  refine WL.step (v := (Value.bool false)) rfl (Step.move rfl) ?_
  refine WL.step (v := (Value.pointer (some ⟨zb1, 0, none⟩))) rfl (Step.move rfl) ?_
  refine WL.callX rfl (hz_drop zb1 zm2 ([⟨1, 7, 5⟩, ⟨1, 8, 9⟩] : List PinH) 5 1 7 (M.enterW (C := [blk zb1 (.cells #[(Value.map (some zm2)), (Value.int .u64 5)] 87), mapP zm2 ([⟨1, 7, 5⟩, ⟨1, 8, 9⟩] : List PinH)]) (D := [blk b7 (.cells #[(Value.int .u8 1), (Value.int .u64 8), (Value.int .u64 9)] 35), blk b4 (.cells #[(Value.int .u8 1), (Value.int .u64 7), (Value.int .u64 5)] 35)]) [0, 1, 2, 3] rfl (by decide) trivial)) (CallsF.func Try.en26 rfl) ?_
  rintro _ w11 ⟨rfl, m⟩
  replace M := M.leaveW (C := [blk zb1 (.cells #[(Value.map (some zm2)), (Value.int .u64 5)] 87), mapP zm2 ([⟨1, 7, 5⟩, ⟨1, 8, 9⟩] : List PinH)]) (D := [blk b7 (.cells #[(Value.int .u8 1), (Value.int .u64 8), (Value.int .u64 9)] 35), blk b4 (.cells #[(Value.int .u8 1), (Value.int .u64 7), (Value.int .u64 5)] 35)]) [0, 1, 2, 3] rfl (by decide) m
  clear m
  replace M : Mem _ _ _ [blk zb1 (.cells #[(Value.map (some zm2)), (Value.int .u64 5)] 87), mapP zm2 (delP 1 7 ([⟨1, 7, 5⟩, ⟨1, 8, 9⟩] : List PinH)), blk b7 (.cells #[(Value.int .u8 1), (Value.int .u64 8), (Value.int .u64 9)] 35), blk b4 (.cells #[(Value.int .u8 1), (Value.int .u64 7), (Value.int .u64 5)] 35)] [] _ := M
  replace M := M.rechunk 1 (c' := mapP zm2 ([⟨1, 8, 9⟩] : List PinH)) rfl (by rw [show delP 1 7 ([⟨1, 7, 5⟩, ⟨1, 8, 9⟩] : List PinH) = ([⟨1, 8, 9⟩] : List PinH) by kernel_rfl])
  replace M : Mem _ _ _ [blk zb1 (.cells #[(Value.map (some zm2)), (Value.int .u64 5)] 87), mapP zm2 ([⟨1, 8, 9⟩] : List PinH), blk b7 (.cells #[(Value.int .u8 1), (Value.int .u64 8), (Value.int .u64 9)] 35), blk b4 (.cells #[(Value.int .u8 1), (Value.int .u64 7), (Value.int .u64 5)] 35)] [] _ := M
  rw [(show ((heldV 1 7 ([⟨1, 7, 5⟩, ⟨1, 8, 9⟩] : List PinH)).2) = true by kernel_rfl)]
  refine WL.step (v := (Value.bool false)) rfl (Step.pure (by kernel_rfl)) ?_
  refine WL.step (v := (Value.bool false)) rfl (Step.pick (t := false) rfl rfl) ?_
  refine WL.step (v := (Value.bool false)) rfl (Step.move rfl) ?_
  refine WL.step (v := (Value.pointer (some ⟨zb1, 0, none⟩))) rfl (Step.move rfl) ?_
  refine WL.callX rfl (hz_raise zb1 zm2 ([⟨1, 8, 9⟩] : List PinH) 5 12 (M.enterW (C := [blk zb1 (.cells #[(Value.map (some zm2)), (Value.int .u64 5)] 87), mapP zm2 ([⟨1, 8, 9⟩] : List PinH)]) (D := [blk b7 (.cells #[(Value.int .u8 1), (Value.int .u64 8), (Value.int .u64 9)] 35), blk b4 (.cells #[(Value.int .u8 1), (Value.int .u64 7), (Value.int .u64 5)] 35)]) [0, 1, 2, 3] rfl (by decide) trivial)) (CallsF.func Try.en27 rfl) ?_
  rintro _ w12 ⟨rfl, m⟩
  replace M := M.leaveW (C := [blk zb1 (.cells #[(Value.map (some zm2)), (Value.int .u64 5)] 87), mapP zm2 ([⟨1, 8, 9⟩] : List PinH)]) (D := [blk b7 (.cells #[(Value.int .u8 1), (Value.int .u64 8), (Value.int .u64 9)] 35), blk b4 (.cells #[(Value.int .u8 1), (Value.int .u64 7), (Value.int .u64 5)] 35)]) [0, 1, 2, 3] rfl (by decide) m
  clear m
  replace M : Mem _ _ _ [blk zb1 (.cells #[(Value.map (some zm2)), (Value.int .u64 (max (5 : Int) (minE 12 ([⟨1, 8, 9⟩] : List PinH) : Int)))] 87), mapP zm2 ([⟨1, 8, 9⟩] : List PinH), blk b7 (.cells #[(Value.int .u8 1), (Value.int .u64 8), (Value.int .u64 9)] 35), blk b4 (.cells #[(Value.int .u8 1), (Value.int .u64 7), (Value.int .u64 5)] 35)] [] _ := M
  replace M := M.rechunk 1 (c' := mapP zm2 ([⟨1, 8, 9⟩] : List PinH)) rfl (by rw [show ([⟨1, 8, 9⟩] : List PinH) = ([⟨1, 8, 9⟩] : List PinH) by kernel_rfl])
  replace M : Mem _ _ _ [blk zb1 (.cells #[(Value.map (some zm2)), (Value.int .u64 (max (5 : Int) (minE 12 ([⟨1, 8, 9⟩] : List PinH) : Int)))] 87), mapP zm2 ([⟨1, 8, 9⟩] : List PinH), blk b7 (.cells #[(Value.int .u8 1), (Value.int .u64 8), (Value.int .u64 9)] 35), blk b4 (.cells #[(Value.int .u8 1), (Value.int .u64 7), (Value.int .u64 5)] 35)] [] _ := M
  replace M := M.rechunk 0 (c' := blk zb1 (.cells #[(Value.map (some zm2)), (Value.int .u64 9)] 87)) rfl (by rw [show (max (5 : Int) (minE 12 ([⟨1, 8, 9⟩] : List PinH) : Int) : Int) = 9 by kernel_rfl])
  replace M : Mem _ _ _ [blk zb1 (.cells #[(Value.map (some zm2)), (Value.int .u64 9)] 87), mapP zm2 ([⟨1, 8, 9⟩] : List PinH), blk b7 (.cells #[(Value.int .u8 1), (Value.int .u64 8), (Value.int .u64 9)] 35), blk b4 (.cells #[(Value.int .u8 1), (Value.int .u64 7), (Value.int .u64 5)] 35)] [] _ := M
  rw [show (max (5 : Int) (minE 12 ([⟨1, 8, 9⟩] : List PinH) : Int) : Int) = 9 by kernel_rfl]
  change WL _ _ _ _ _ (Env.put _ _ (Value.int .u64 9)) _
  refine WL.step (v := (Value.bool false)) rfl (Step.pure (by kernel_rfl)) ?_
  refine WL.step (v := (Value.bool false)) rfl (Step.pick (t := false) rfl rfl) ?_
  refine WL.step (v := (Value.bool false)) rfl (Step.move rfl) ?_
  refine WL.step (v := (Value.pointer (some ⟨zb1, 0, none⟩))) rfl (Step.move rfl) ?_
  refine WL.step (v := (Value.agg #[(Value.int .u8 2), (Value.int .u64 1), (Value.int .u64 8)])) rfl (Step.pure (by kernel_rfl)) ?_
  refine WL.new (obj := .cells #[(Value.int .u8 2), (Value.int .u64 1), (Value.int .u64 8)] 35) (fun b => .slice (some ⟨b, 0, none⟩) 1 1) M rfl (fun w => Step.make (by kernel_rfl)) (fun b13 w14 hb13 M => ?_)
  refine WL.callX rfl (hz_pin zb1 zm2 ([⟨1, 8, 9⟩] : List PinH) 9 (Value.slice (some ⟨b13, 0, none⟩) 1 1) ([(⟨2, 1, 8⟩ : PinH)] : List PinH) (M.enterW (C := [blk zb1 (.cells #[(Value.map (some zm2)), (Value.int .u64 9)] 87), mapP zm2 ([⟨1, 8, 9⟩] : List PinH)]) (D := [blk b13 (.cells #[(Value.int .u8 2), (Value.int .u64 1), (Value.int .u64 8)] 35), blk b7 (.cells #[(Value.int .u8 1), (Value.int .u64 8), (Value.int .u64 9)] 35), blk b4 (.cells #[(Value.int .u8 1), (Value.int .u64 7), (Value.int .u64 5)] 35)]) [1, 2, 0, 3, 4] rfl (by decide) ⟨((M.wideC (C := [blk zb1 (.cells #[(Value.map (some zm2)), (Value.int .u64 9)] 87), mapP zm2 ([⟨1, 8, 9⟩] : List PinH)]) (D := [blk b13 (.cells #[(Value.int .u8 2), (Value.int .u64 1), (Value.int .u64 8)] 35), blk b7 (.cells #[(Value.int .u8 1), (Value.int .u64 8), (Value.int .u64 9)] 35), blk b4 (.cells #[(Value.int .u8 1), (Value.int .u64 7), (Value.int .u64 5)] 35)]) [1, 2, 0, 3, 4] rfl (by decide) 0 rfl).imp fun _ h => SlAt.of_blk (n := 1) (size := 3) h rfl (by decide)), trivial⟩)) (CallsF.func Try.en28 rfl) ?_
  rintro _ w15 ⟨rfl, m⟩
  replace M := M.leaveW (C := [blk zb1 (.cells #[(Value.map (some zm2)), (Value.int .u64 9)] 87), mapP zm2 ([⟨1, 8, 9⟩] : List PinH)]) (D := [blk b13 (.cells #[(Value.int .u8 2), (Value.int .u64 1), (Value.int .u64 8)] 35), blk b7 (.cells #[(Value.int .u8 1), (Value.int .u64 8), (Value.int .u64 9)] 35), blk b4 (.cells #[(Value.int .u8 1), (Value.int .u64 7), (Value.int .u64 5)] 35)]) [1, 2, 0, 3, 4] rfl (by decide) m
  clear m
  replace M : Mem _ _ _ [blk zb1 (.cells #[(Value.map (some zm2)), (Value.int .u64 9)] 87), mapP zm2 (pinS ([⟨1, 8, 9⟩] : List PinH) 9 ([(⟨2, 1, 8⟩ : PinH)] : List PinH)), blk b13 (.cells #[(Value.int .u8 2), (Value.int .u64 1), (Value.int .u64 8)] 35), blk b7 (.cells #[(Value.int .u8 1), (Value.int .u64 8), (Value.int .u64 9)] 35), blk b4 (.cells #[(Value.int .u8 1), (Value.int .u64 7), (Value.int .u64 5)] 35)] [] _ := M
  replace M := M.rechunk 1 (c' := mapP zm2 ([⟨1, 8, 9⟩] : List PinH)) rfl (by rw [show pinS ([⟨1, 8, 9⟩] : List PinH) 9 ([(⟨2, 1, 8⟩ : PinH)] : List PinH) = ([⟨1, 8, 9⟩] : List PinH) by kernel_rfl])
  replace M : Mem _ _ _ [blk zb1 (.cells #[(Value.map (some zm2)), (Value.int .u64 9)] 87), mapP zm2 ([⟨1, 8, 9⟩] : List PinH), blk b13 (.cells #[(Value.int .u8 2), (Value.int .u64 1), (Value.int .u64 8)] 35), blk b7 (.cells #[(Value.int .u8 1), (Value.int .u64 8), (Value.int .u64 9)] 35), blk b4 (.cells #[(Value.int .u8 1), (Value.int .u64 7), (Value.int .u64 5)] 35)] [] _ := M
  rw [show (pinC ([⟨1, 8, 9⟩] : List PinH) 9 ([(⟨2, 1, 8⟩ : PinH)] : List PinH) : Int) = 230 by kernel_rfl]
  change WL _ _ _ _ _ (Env.put _ _ (Value.int .i64 230)) _
  refine WL.step (v := (Value.bool false)) rfl (Step.pure (by kernel_rfl)) ?_
  refine WL.step (v := (Value.bool false)) rfl (Step.pick (t := false) rfl rfl) ?_
  refine WL.nil ?_
  refine W.cond (t := false) rfl (fun h => by cases h) (fun _ => ?_)
  refine W.skip ?_
  refine W.seq' ?_
  refine W.region rfl ?_
  refine WL.step (v := (Value.pointer (some ⟨zb1, 0, none⟩))) rfl (Step.move rfl) ?_
  refine WL.callX rfl (hz_read zb1 zm2 ([⟨1, 8, 9⟩] : List PinH) 9 0 12 (M.enterW (C := [blk zb1 (.cells #[(Value.map (some zm2)), (Value.int .u64 9)] 87), mapP zm2 ([⟨1, 8, 9⟩] : List PinH)]) (D := [blk b13 (.cells #[(Value.int .u8 2), (Value.int .u64 1), (Value.int .u64 8)] 35), blk b7 (.cells #[(Value.int .u8 1), (Value.int .u64 8), (Value.int .u64 9)] 35), blk b4 (.cells #[(Value.int .u8 1), (Value.int .u64 7), (Value.int .u64 5)] 35)]) [0, 1, 2, 3, 4] rfl (by decide) trivial)) (CallsF.func Try.en22 rfl) ?_
  rintro _ w16 ⟨rfl, m⟩
  replace M := M.leaveW (C := [blk zb1 (.cells #[(Value.map (some zm2)), (Value.int .u64 9)] 87), mapP zm2 ([⟨1, 8, 9⟩] : List PinH)]) (D := [blk b13 (.cells #[(Value.int .u8 2), (Value.int .u64 1), (Value.int .u64 8)] 35), blk b7 (.cells #[(Value.int .u8 1), (Value.int .u64 8), (Value.int .u64 9)] 35), blk b4 (.cells #[(Value.int .u8 1), (Value.int .u64 7), (Value.int .u64 5)] 35)]) [0, 1, 2, 3, 4] rfl (by decide) m
  replace M := M.sel (L' := [blk zb1 (.cells #[(Value.map (some zm2)), (Value.int .u64 9)] 87), mapP zm2 ([⟨1, 8, 9⟩] : List PinH), blk b13 (.cells #[(Value.int .u8 2), (Value.int .u64 1), (Value.int .u64 8)] 35), blk b7 (.cells #[(Value.int .u8 1), (Value.int .u64 8), (Value.int .u64 9)] 35), blk b4 (.cells #[(Value.int .u8 1), (Value.int .u64 7), (Value.int .u64 5)] 35)]) [0, 1, 2, 3, 4] rfl (by decide)
  clear m
  replace M : Mem _ _ _ [blk zb1 (.cells #[(Value.map (some zm2)), (Value.int .u64 9)] 87), mapP zm2 ([⟨1, 8, 9⟩] : List PinH), blk b13 (.cells #[(Value.int .u8 2), (Value.int .u64 1), (Value.int .u64 8)] 35), blk b7 (.cells #[(Value.int .u8 1), (Value.int .u64 8), (Value.int .u64 9)] 35), blk b4 (.cells #[(Value.int .u8 1), (Value.int .u64 7), (Value.int .u64 5)] 35)] [] _ := M
  refine WL.step (v := (Value.tuple #[(Value.int .u64 ((readV 9 0 12).1)), (Value.int .i64 ((readV 9 0 12).2))])) rfl (Step.move rfl) ?_
  refine WL.step (v := (Value.int .u64 12)) rfl (Step.cast (congrArg (Value.int .u64) (show ((readV 9 0 12).1 : Int) = 12 by kernel_rfl)) (Step.pure (by kernel_rfl))) ?_
  refine WL.step (v := (Value.int .i64 0)) rfl (Step.cast (congrArg (Value.int .i64) (show ((readV 9 0 12).2 : Int) = 0 by kernel_rfl)) (Step.pure (by kernel_rfl))) ?_
  refine WL.step (v := (Value.int .u64 12)) rfl (Step.assign rfl) ?_
  refine WL.step (v := (Value.int .i64 0)) rfl (Step.assign rfl) ?_
  refine WL.nil ?_
  refine W.seq' ?_
  refine W.region rfl ?_
  refine WL.step (v := (Value.pointer (some ⟨zb1, 0, none⟩))) rfl (Step.move rfl) ?_
  refine WL.callX rfl (hz_read zb1 zm2 ([⟨1, 8, 9⟩] : List PinH) 9 10 12 (M.enterW (C := [blk zb1 (.cells #[(Value.map (some zm2)), (Value.int .u64 9)] 87), mapP zm2 ([⟨1, 8, 9⟩] : List PinH)]) (D := [blk b13 (.cells #[(Value.int .u8 2), (Value.int .u64 1), (Value.int .u64 8)] 35), blk b7 (.cells #[(Value.int .u8 1), (Value.int .u64 8), (Value.int .u64 9)] 35), blk b4 (.cells #[(Value.int .u8 1), (Value.int .u64 7), (Value.int .u64 5)] 35)]) [0, 1, 2, 3, 4] rfl (by decide) trivial)) (CallsF.func Try.en22 rfl) ?_
  rintro _ w17 ⟨rfl, m⟩
  replace M := M.leaveW (C := [blk zb1 (.cells #[(Value.map (some zm2)), (Value.int .u64 9)] 87), mapP zm2 ([⟨1, 8, 9⟩] : List PinH)]) (D := [blk b13 (.cells #[(Value.int .u8 2), (Value.int .u64 1), (Value.int .u64 8)] 35), blk b7 (.cells #[(Value.int .u8 1), (Value.int .u64 8), (Value.int .u64 9)] 35), blk b4 (.cells #[(Value.int .u8 1), (Value.int .u64 7), (Value.int .u64 5)] 35)]) [0, 1, 2, 3, 4] rfl (by decide) m
  replace M := M.sel (L' := [blk zb1 (.cells #[(Value.map (some zm2)), (Value.int .u64 9)] 87), mapP zm2 ([⟨1, 8, 9⟩] : List PinH), blk b13 (.cells #[(Value.int .u8 2), (Value.int .u64 1), (Value.int .u64 8)] 35), blk b7 (.cells #[(Value.int .u8 1), (Value.int .u64 8), (Value.int .u64 9)] 35), blk b4 (.cells #[(Value.int .u8 1), (Value.int .u64 7), (Value.int .u64 5)] 35)]) [0, 1, 2, 3, 4] rfl (by decide)
  clear m
  replace M : Mem _ _ _ [blk zb1 (.cells #[(Value.map (some zm2)), (Value.int .u64 9)] 87), mapP zm2 ([⟨1, 8, 9⟩] : List PinH), blk b13 (.cells #[(Value.int .u8 2), (Value.int .u64 1), (Value.int .u64 8)] 35), blk b7 (.cells #[(Value.int .u8 1), (Value.int .u64 8), (Value.int .u64 9)] 35), blk b4 (.cells #[(Value.int .u8 1), (Value.int .u64 7), (Value.int .u64 5)] 35)] [] _ := M
  refine WL.step (v := (Value.tuple #[(Value.int .u64 ((readV 9 10 12).1)), (Value.int .i64 ((readV 9 10 12).2))])) rfl (Step.move rfl) ?_
  refine WL.step (v := (Value.int .u64 10)) rfl (Step.cast (congrArg (Value.int .u64) (show ((readV 9 10 12).1 : Int) = 10 by kernel_rfl)) (Step.pure (by kernel_rfl))) ?_
  refine WL.step (v := (Value.int .i64 0)) rfl (Step.cast (congrArg (Value.int .i64) (show ((readV 9 10 12).2 : Int) = 0 by kernel_rfl)) (Step.pure (by kernel_rfl))) ?_
  refine WL.step (v := (Value.int .u64 10)) rfl (Step.assign rfl) ?_
  refine WL.step (v := (Value.int .i64 0)) rfl (Step.assign rfl) ?_
  refine WL.nil ?_
  refine W.seq' ?_
  refine W.region rfl ?_
  refine WL.step (v := (Value.pointer (some ⟨zb1, 0, none⟩))) rfl (Step.move rfl) ?_
  refine WL.callX rfl (hz_read zb1 zm2 ([⟨1, 8, 9⟩] : List PinH) 9 13 12 (M.enterW (C := [blk zb1 (.cells #[(Value.map (some zm2)), (Value.int .u64 9)] 87), mapP zm2 ([⟨1, 8, 9⟩] : List PinH)]) (D := [blk b13 (.cells #[(Value.int .u8 2), (Value.int .u64 1), (Value.int .u64 8)] 35), blk b7 (.cells #[(Value.int .u8 1), (Value.int .u64 8), (Value.int .u64 9)] 35), blk b4 (.cells #[(Value.int .u8 1), (Value.int .u64 7), (Value.int .u64 5)] 35)]) [0, 1, 2, 3, 4] rfl (by decide) trivial)) (CallsF.func Try.en22 rfl) ?_
  rintro _ w18 ⟨rfl, m⟩
  replace M := M.leaveW (C := [blk zb1 (.cells #[(Value.map (some zm2)), (Value.int .u64 9)] 87), mapP zm2 ([⟨1, 8, 9⟩] : List PinH)]) (D := [blk b13 (.cells #[(Value.int .u8 2), (Value.int .u64 1), (Value.int .u64 8)] 35), blk b7 (.cells #[(Value.int .u8 1), (Value.int .u64 8), (Value.int .u64 9)] 35), blk b4 (.cells #[(Value.int .u8 1), (Value.int .u64 7), (Value.int .u64 5)] 35)]) [0, 1, 2, 3, 4] rfl (by decide) m
  replace M := M.sel (L' := [blk zb1 (.cells #[(Value.map (some zm2)), (Value.int .u64 9)] 87), mapP zm2 ([⟨1, 8, 9⟩] : List PinH), blk b13 (.cells #[(Value.int .u8 2), (Value.int .u64 1), (Value.int .u64 8)] 35), blk b7 (.cells #[(Value.int .u8 1), (Value.int .u64 8), (Value.int .u64 9)] 35), blk b4 (.cells #[(Value.int .u8 1), (Value.int .u64 7), (Value.int .u64 5)] 35)]) [0, 1, 2, 3, 4] rfl (by decide)
  clear m
  replace M : Mem _ _ _ [blk zb1 (.cells #[(Value.map (some zm2)), (Value.int .u64 9)] 87), mapP zm2 ([⟨1, 8, 9⟩] : List PinH), blk b13 (.cells #[(Value.int .u8 2), (Value.int .u64 1), (Value.int .u64 8)] 35), blk b7 (.cells #[(Value.int .u8 1), (Value.int .u64 8), (Value.int .u64 9)] 35), blk b4 (.cells #[(Value.int .u8 1), (Value.int .u64 7), (Value.int .u64 5)] 35)] [] _ := M
  refine WL.step (v := (Value.tuple #[(Value.int .u64 ((readV 9 13 12).1)), (Value.int .i64 ((readV 9 13 12).2))])) rfl (Step.move rfl) ?_
  refine WL.step (v := (Value.int .u64 0)) rfl (Step.cast (congrArg (Value.int .u64) (show ((readV 9 13 12).1 : Int) = 0 by kernel_rfl)) (Step.pure (by kernel_rfl))) ?_
  refine WL.step (v := (Value.int .i64 231)) rfl (Step.cast (congrArg (Value.int .i64) (show ((readV 9 13 12).2 : Int) = 231 by kernel_rfl)) (Step.pure (by kernel_rfl))) ?_
  refine WL.step (v := (Value.int .u64 0)) rfl (Step.assign rfl) ?_
  refine WL.step (v := (Value.int .i64 231)) rfl (Step.assign rfl) ?_
  refine WL.nil ?_
  refine W.seq' ?_
  refine W.region rfl ?_
  refine WL.step (v := (Value.pointer (some ⟨zb1, 0, none⟩))) rfl (Step.move rfl) ?_
  refine WL.callX rfl (hz_read zb1 zm2 ([⟨1, 8, 9⟩] : List PinH) 9 8 12 (M.enterW (C := [blk zb1 (.cells #[(Value.map (some zm2)), (Value.int .u64 9)] 87), mapP zm2 ([⟨1, 8, 9⟩] : List PinH)]) (D := [blk b13 (.cells #[(Value.int .u8 2), (Value.int .u64 1), (Value.int .u64 8)] 35), blk b7 (.cells #[(Value.int .u8 1), (Value.int .u64 8), (Value.int .u64 9)] 35), blk b4 (.cells #[(Value.int .u8 1), (Value.int .u64 7), (Value.int .u64 5)] 35)]) [0, 1, 2, 3, 4] rfl (by decide) trivial)) (CallsF.func Try.en22 rfl) ?_
  rintro _ w19 ⟨rfl, m⟩
  replace M := M.leaveW (C := [blk zb1 (.cells #[(Value.map (some zm2)), (Value.int .u64 9)] 87), mapP zm2 ([⟨1, 8, 9⟩] : List PinH)]) (D := [blk b13 (.cells #[(Value.int .u8 2), (Value.int .u64 1), (Value.int .u64 8)] 35), blk b7 (.cells #[(Value.int .u8 1), (Value.int .u64 8), (Value.int .u64 9)] 35), blk b4 (.cells #[(Value.int .u8 1), (Value.int .u64 7), (Value.int .u64 5)] 35)]) [0, 1, 2, 3, 4] rfl (by decide) m
  replace M := M.sel (L' := [blk zb1 (.cells #[(Value.map (some zm2)), (Value.int .u64 9)] 87), mapP zm2 ([⟨1, 8, 9⟩] : List PinH), blk b13 (.cells #[(Value.int .u8 2), (Value.int .u64 1), (Value.int .u64 8)] 35), blk b7 (.cells #[(Value.int .u8 1), (Value.int .u64 8), (Value.int .u64 9)] 35), blk b4 (.cells #[(Value.int .u8 1), (Value.int .u64 7), (Value.int .u64 5)] 35)]) [0, 1, 2, 3, 4] rfl (by decide)
  clear m
  replace M : Mem _ _ _ [blk zb1 (.cells #[(Value.map (some zm2)), (Value.int .u64 9)] 87), mapP zm2 ([⟨1, 8, 9⟩] : List PinH), blk b13 (.cells #[(Value.int .u8 2), (Value.int .u64 1), (Value.int .u64 8)] 35), blk b7 (.cells #[(Value.int .u8 1), (Value.int .u64 8), (Value.int .u64 9)] 35), blk b4 (.cells #[(Value.int .u8 1), (Value.int .u64 7), (Value.int .u64 5)] 35)] [] _ := M
  refine WL.step (v := (Value.tuple #[(Value.int .u64 ((readV 9 8 12).1)), (Value.int .i64 ((readV 9 8 12).2))])) rfl (Step.move rfl) ?_
  refine WL.step (v := (Value.int .u64 0)) rfl (Step.cast (congrArg (Value.int .u64) (show ((readV 9 8 12).1 : Int) = 0 by kernel_rfl)) (Step.pure (by kernel_rfl))) ?_
  refine WL.step (v := (Value.int .i64 230)) rfl (Step.cast (congrArg (Value.int .i64) (show ((readV 9 8 12).2 : Int) = 230 by kernel_rfl)) (Step.pure (by kernel_rfl))) ?_
  refine WL.step (v := (Value.int .u64 0)) rfl (Step.assign rfl) ?_
  refine WL.step (v := (Value.int .i64 230)) rfl (Step.assign rfl) ?_
  refine WL.nil ?_
  refine W.seq' ?_
  refine W.region rfl ?_
  refine WL.step (v := (Value.int .u64 12)) rfl (Step.move rfl) ?_
  refine WL.step (v := (Value.bool true)) rfl (Step.pure (by kernel_rfl)) ?_
  refine WL.step (v := (Value.bool true)) rfl (Step.move rfl) ?_
  refine WL.step (v := (Value.int .i64 0)) rfl (Step.move rfl) ?_
  refine WL.step (v := (Value.bool true)) rfl (Step.pure (by kernel_rfl)) ?_
  refine WL.step (v := (Value.bool true)) rfl (Step.pick (t := true) rfl rfl) ?_
  refine WL.step (v := (Value.bool true)) rfl (Step.move rfl) ?_
  refine WL.step (v := (Value.int .u64 10)) rfl (Step.move rfl) ?_
  refine WL.step (v := (Value.bool true)) rfl (Step.pure (by kernel_rfl)) ?_
  refine WL.step (v := (Value.bool true)) rfl (Step.pick (t := true) rfl rfl) ?_
  refine WL.step (v := (Value.bool true)) rfl (Step.move rfl) ?_
  refine WL.step (v := (Value.int .i64 0)) rfl (Step.move rfl) ?_
  refine WL.step (v := (Value.bool true)) rfl (Step.pure (by kernel_rfl)) ?_
  refine WL.step (v := (Value.bool true)) rfl (Step.pick (t := true) rfl rfl) ?_
  refine WL.step (v := (Value.bool true)) rfl (Step.move rfl) ?_
  refine WL.step (v := (Value.int .i64 231)) rfl (Step.move rfl) ?_
  refine WL.step (v := (Value.bool true)) rfl (Step.pure (by kernel_rfl)) ?_
  refine WL.step (v := (Value.bool true)) rfl (Step.pick (t := true) rfl rfl) ?_
  refine WL.step (v := (Value.bool true)) rfl (Step.move rfl) ?_
  refine WL.step (v := (Value.int .i64 230)) rfl (Step.move rfl) ?_
  refine WL.step (v := (Value.bool true)) rfl (Step.pure (by kernel_rfl)) ?_
  refine WL.step (v := (Value.bool true)) rfl (Step.pick (t := true) rfl rfl) ?_
  refine WL.step (v := (Value.bool true)) rfl (Step.assign rfl) ?_
  refine WL.nil ?_
  refine W.ret ?_
  refine ⟨.inl rfl, (Value.bool true), ?_, ?_⟩
  · exact ⟨rfl, (Res.r1 (show RV _ _ _ (.tmp 0) (Value.bool true) from by exact rfl))⟩
  refine ⟨?_, M.close [] rfl (by decide) trivial⟩
  rfl
end Go.Proofs
