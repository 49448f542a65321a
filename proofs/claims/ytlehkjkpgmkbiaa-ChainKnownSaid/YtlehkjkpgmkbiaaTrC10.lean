/- Walks. -/
import Derived.Test.YtlehkjkpgmkbiaaTrC9
set_option maxRecDepth 100000
set_option linter.all false
namespace Go.Proofs
open Go Tp
theorem Try.en22 : Enters Try.prog 22 := fun _ _ => by kernel_rfl
theorem Try.fl51 : (Try.prog.fieldsOf 51).toList = [⟨ "Epoch", 23, 0, false, "", "", 0⟩, ⟨ "Dead", 4, 1, false, "", "", 8⟩, ⟨ "Agg", 45, 2, false, "", "", 16⟩] := by kernel_rfl
theorem Try.eg51 : Try.prog.eqGuardType Try.prog.depth 51 = false := by kernel_rfl
theorem Try.eq51 (d : Nat) (a0 : Int) (a1 : Bool) (a2 : Int) (a3 : Int) (a4 : Int) (a5 : Int) (b0 : Int) (b1 : Bool) (b2 : Int) (b3 : Int) (b4 : Int) (b5 : Int) : ∀ w, (Op.equalIn (d + 3) 51 (Value.agg #[(Value.int .u64 a0), (Value.bool a1), (Value.int .i64 a2), (Value.int .i64 a3), (Value.int .i64 a4), (Value.int .i64 a5)]) (Value.agg #[(Value.int .u64 b0), (Value.bool b1), (Value.int .i64 b2), (Value.int .i64 b3), (Value.int .i64 b4), (Value.int .i64 b5)])).run Try.prog w = .ok (((a0 : Int) == (b0 : Int)) && (((a1 : Bool) == (b1 : Bool)) && ((((a2 : Int) == (b2 : Int)) && (((a3 : Int) == (b3 : Int)) && (((a4 : Int) == (b4 : Int)) && (((a5 : Int) == (b5 : Int)) && true)))) && true))) w :=
  (eq_struct (by kernel_rfl) (by kernel_rfl) (Try.fl51) (eqF_cons (x := (Value.int .u64 a0)) (y := (Value.int .u64 b0)) (by decide) (fun _ => by kernel_rfl) (fun _ => by kernel_rfl) (fun w => run_equalIn_int w _ _ _ .u64 _ _ (by kernel_rfl)) (eqF_cons (x := (Value.bool a1)) (y := (Value.bool b1)) (by decide) (fun _ => by kernel_rfl) (fun _ => by kernel_rfl) (fun w => run_equalIn_bool' w _ _ _ _ (by kernel_rfl)) (eqF_cons (x := (Value.agg #[(Value.int .i64 a2), (Value.int .i64 a3), (Value.int .i64 a4), (Value.int .i64 a5)])) (y := (Value.agg #[(Value.int .i64 b2), (Value.int .i64 b3), (Value.int .i64 b4), (Value.int .i64 b5)])) (by decide) (fun _ => by kernel_rfl) (fun _ => by kernel_rfl) (eq_struct (by kernel_rfl) (by kernel_rfl) (Try.fl45) (eqF_cons (x := (Value.int .i64 a2)) (y := (Value.int .i64 b2)) (by decide) (fun _ => by kernel_rfl) (fun _ => by kernel_rfl) (fun w => run_equalIn_int w _ _ _ .i64 _ _ (by kernel_rfl)) (eqF_cons (x := (Value.int .i64 a3)) (y := (Value.int .i64 b3)) (by decide) (fun _ => by kernel_rfl) (fun _ => by kernel_rfl) (fun w => run_equalIn_int w _ _ _ .i64 _ _ (by kernel_rfl)) (eqF_cons (x := (Value.int .i64 a4)) (y := (Value.int .i64 b4)) (by decide) (fun _ => by kernel_rfl) (fun _ => by kernel_rfl) (fun w => run_equalIn_int w _ _ _ .i64 _ _ (by kernel_rfl)) (eqF_cons (x := (Value.int .i64 a5)) (y := (Value.int .i64 b5)) (by decide) (fun _ => by kernel_rfl) (fun _ => by kernel_rfl) (fun w => run_equalIn_int w _ _ _ .i64 _ _ (by kernel_rfl)) eqF_nil))))) eqF_nil))))

theorem law_refs {G : Nat → Prop} {w : World} (v : Value) (l : List Ver)  (hb : l.length ≤ 1000000) (M : Mem G (fun _ => False) w [] [SlAt 6 v l.length (l.flatMap verE)] w) : Rets Try.prog 22 #[v] w fun r w' => ∃ (v' : Value), r = v' ∧ Mem G (fun _ => False) w [own 51 6 v' l.length (l.flatMap verE)] [] w' := by
  refine Rets.enter 41 _ Try.func22 rfl Try.ntmps22 Try.results22 (by simp) ?_
  have hle1 := SlAt.le' (M.rep 0 rfl)
  have sl2 : IsSl v := SlAt.isSl (Mem.rep M 0 rfl)
  refine W.seq' ?_
  refine W.region rfl ?_
  refine WL.step (v := (Value.slice none 0 0)) rfl (Step.assign rfl) ?_
  refine WL.nil ?_
  refine W.seq' ?_
  refine W.region rfl ?_
  refine WL.step (v := (Value.slice none 0 0)) rfl (Step.assign rfl) ?_
  refine WL.nil ?_
  refine W.seq' ?_
  refine W.seq' ?_
  refine W.region rfl ?_
  refine WL.step (v := (Value.int .i64 0)) rfl (Step.assign rfl) ?_
  refine WL.nil ?_
  refine W.block ?_
  replace M := M.ownNil 51 6
  replace M := M.rechunk 0 (c' := own 51 6 (Value.slice none 0 0) ((l.take 0).length) ((l.take 0).flatMap verE)) rfl rfl
  replace M : Mem _ _ _ [own 51 6 (Value.slice none 0 0) ((l.take 0).length) ((l.take 0).flatMap verE)] [SlAt 6 v l.length (l.flatMap verE)] _ := M
  refine W.loop (fun kk ρ w' => ∃ (i_ : Nat) (acci_ : Value), ((i_ ≤ l.length) ∧ kk = l.length - i_) ∧ ρ.has [(0, v), (2, (Value.slice none 0 0)), (3, acci_), (4, (Value.int .i64 ↑i_))] ∧ Mem G (fun _ => False) w [own 51 6 acci_ ((l.take i_).length) ((l.take i_).flatMap verE)] [SlAt 6 v l.length (l.flatMap verE)]  w') _ ⟨0, _, ⟨(Nat.zero_le _), rfl⟩, ⟨rfl, rfl, rfl, rfl, rfl, rfl⟩, M⟩ ?_
  rintro _ ρ4 w3 ⟨i_, acci_, ⟨hi5, rfl⟩, hρ, M⟩
  obtain ⟨ρ4, rfl⟩ := hρ.know
  clear hρ
  have sl6 : IsSl acci_ := SlAt.isSl (own_slAt (M.chunk 0 rfl).inv)
  have hacl : (l.take i_).length ≤ 1000000 := by rw [List.length_take]; omega
  refine W.seq' ?_
  refine W.seq' ?_
  refine W.region rfl ?_
  refine WL.step (v := (Value.int .i64 ↑i_)) rfl (Step.move rfl) ?_
  refine WL.step (v := v) rfl (Step.move rfl) ?_
  refine WL.step (v := (Value.int .i64 ↑l.length)) rfl (Step.lenSl Try.un22 rfl (M.rep 0 rfl)) ?_
  refine WL.step (v := (Value.bool (decide ((↑i_ : Int) < (↑l.length : Int))))) rfl (Step.pure (by kernel_rfl)) ?_
  refine WL.nil ?_
  refine W.cond (t := decide ((↑i_ : Int) < (↑l.length : Int))) rfl (fun h7 => ?_) (fun h7 => ?_)
  ·
    have h7p := of_decide_eq_true h7
    refine W.skip ?_
    refine W.seq' ?_
    refine W.block ?_
    refine W.seq' ?_
    refine W.region rfl ?_
    refine WL.step (v := v) rfl (Step.move rfl) ?_
    refine WL.step (v := (Value.int .i64 ↑i_)) rfl (Step.move rfl) ?_
    obtain ⟨cap9, hb8⟩ := SlAt.base (M.rep 0 rfl) (by omega)
    obtain ⟨x10, hx10⟩ := elem_of_lt (xs := l) (i := i_) (by omega)
    refine WL.step (v := (Value.pointer (some ⟨(sBlk v), sOff v + i_ * 6, none⟩))) rfl (Step.indexAddr (i := i_) (Try.un22).run Try.el34.sized rfl rfl (by omega) hb8 (by omega)) ?_
    refine WL.step (v := (Value.pointer (some ⟨(sBlk v), sOff v + i_ * 6 + 2, none⟩))) rfl (Step.pure (by kernel_rfl)) ?_
    refine WL.step (v := (Value.agg #[(Value.int .i64 x10.agg.count), (Value.int .i64 x10.agg.sum), (Value.int .i64 x10.agg.min), (Value.int .i64 x10.agg.max)])) rfl (Step.loadEN (k := 2) (cs' := [(Value.int .i64 x10.agg.count), (Value.int .i64 x10.agg.sum), (Value.int .i64 x10.agg.min), (Value.int .i64 x10.agg.max)]) Try.ag32 (flat_ec (M.rep 0 rfl) hx10 verE_len) (by decide) rfl rfl rfl) ?_
    refine WL.alloc (c := #[(Value.int .i64 0), (Value.int .i64 0), (Value.int .i64 0), (Value.int .i64 0)]) M rfl Try.el32.zero rfl (fun b11 w12 hb11 M => ?_)
    refine WL.store (v := (Value.agg #[(Value.int .i64 x10.agg.count), (Value.int .i64 x10.agg.sum), (Value.int .i64 x10.agg.min), (Value.int .i64 x10.agg.max)])) (cs := [(Value.int .i64 x10.agg.count), (Value.int .i64 x10.agg.sum), (Value.int .i64 x10.agg.min), (Value.int .i64 x10.agg.max)]) (c' := #[(Value.int .i64 x10.agg.count), (Value.int .i64 x10.agg.sum), (Value.int .i64 x10.agg.min), (Value.int .i64 x10.agg.max)]) M 0 rfl rfl Try.el32.sized rfl rfl rfl rfl (Nat.le_of_ble_eq_true rfl) (cel_cons rfl (cel_cons rfl (cel_cons rfl (cel_cons rfl cel_nil)))) rfl rfl (fun w13 M => ?_)
    refine WL.nil ?_
    refine W.drawn M [0, 1, 2, 3, 4, 5, 6, 7, 8, 9, 10, 11, 12, 13, 14, 15, 16, 17, 18, 19, 20, 21, 22, 23] [22] [21] [blk b11 (.cells #[(Value.int .i64 x10.agg.count), (Value.int .i64 x10.agg.sum), (Value.int .i64 x10.agg.min), (Value.int .i64 x10.agg.max)] 32)] [SlAt 6 v l.length (l.flatMap verE)] (List.Sublist.cons_cons _ (List.Sublist.cons _ List.Sublist.slnil)) (fun _ h => h) Try.mixed (by kernel_rfl) ?_
    refine TW.pure (v := acci_) rfl (by decide) (by decide) rfl (fun w => (Step.move rfl)) ?_
    refine TW.pure (v := v) rfl (by decide) (by decide) rfl (fun w => (Step.move rfl)) ?_
    refine TW.pure (v := (Value.int .i64 ↑i_)) rfl (by decide) (by decide) rfl (fun w => (Step.move rfl)) ?_
    refine TW.pure (v := (Value.pointer (some ⟨(sBlk v), sOff v + i_ * 6, none⟩))) rfl (by decide) (by decide) rfl (fun w => (Step.indexAddr (i := i_) (Try.un22).run Try.el34.sized rfl rfl (by omega) hb8 (by omega))) ?_
    refine TW.pure (v := (Value.pointer (some ⟨(sBlk v), sOff v + i_ * 6, none⟩))) rfl (by decide) (by decide) rfl (fun w => (Step.pure (by kernel_rfl))) ?_
    refine TW.read (v := (Value.int .u64 x10.epoch)) rfl (by decide) (by decide) rfl (fun A w M => (Step.loadE (k := 0) Try.sc23 (flat_ec (M.rep 0 rfl) hx10 verE_len) (by decide) rfl rfl)) ?_
    refine TW.pure (v := v) rfl (by decide) (by decide) rfl (fun w => (Step.move rfl)) ?_
    refine TW.pure (v := (Value.int .i64 ↑i_)) rfl (by decide) (by decide) rfl (fun w => (Step.move rfl)) ?_
    refine TW.pure (v := (Value.pointer (some ⟨(sBlk v), sOff v + i_ * 6, none⟩))) rfl (by decide) (by decide) rfl (fun w => (Step.indexAddr (i := i_) (Try.un22).run Try.el34.sized rfl rfl (by omega) hb8 (by omega))) ?_
    refine TW.pure (v := (Value.pointer (some ⟨(sBlk v), sOff v + i_ * 6 + 1, none⟩))) rfl (by decide) (by decide) rfl (fun w => (Step.pure (by kernel_rfl))) ?_
    refine TW.read (v := (Value.bool x10.dead)) rfl (by decide) (by decide) rfl (fun A w M => (Step.loadE (k := 1) Try.sc4 (flat_ec (M.rep 0 rfl) hx10 verE_len) (by decide) rfl rfl)) ?_
    refine TW.pure (v := (Value.pointer (some ⟨b11, 0, none⟩))) rfl (by decide) (by decide) rfl (fun w => (Step.pure (by kernel_rfl))) ?_
    refine TW.read (v := (Value.int .i64 x10.agg.count)) rfl (by decide) (by decide) rfl (fun A w M => (Step.load1 Try.sc2 rfl ((M.cell 1 rfl 0).trans rfl))) ?_
    refine TW.pure (v := (Value.pointer (some ⟨b11, 1, none⟩))) rfl (by decide) (by decide) rfl (fun w => (Step.pure (by kernel_rfl))) ?_
    refine TW.read (v := (Value.int .i64 x10.agg.sum)) rfl (by decide) (by decide) rfl (fun A w M => (Step.load1 Try.sc2 rfl ((M.cell 1 rfl 1).trans rfl))) ?_
    refine TW.pure (v := (Value.pointer (some ⟨b11, 2, none⟩))) rfl (by decide) (by decide) rfl (fun w => (Step.pure (by kernel_rfl))) ?_
    refine TW.read (v := (Value.int .i64 x10.agg.min)) rfl (by decide) (by decide) rfl (fun A w M => (Step.load1 Try.sc2 rfl ((M.cell 1 rfl 2).trans rfl))) ?_
    refine TW.pure (v := (Value.pointer (some ⟨b11, 3, none⟩))) rfl (by decide) (by decide) rfl (fun w => (Step.pure (by kernel_rfl))) ?_
    refine TW.read (v := (Value.int .i64 x10.agg.max)) rfl (by decide) (by decide) rfl (fun A w M => (Step.load1 Try.sc2 rfl ((M.cell 1 rfl 3).trans rfl))) ?_
    refine TW.pure (v := (Value.agg #[(Value.int .i64 x10.agg.count), (Value.int .i64 x10.agg.sum), (Value.int .i64 x10.agg.min), (Value.int .i64 x10.agg.max)])) rfl (by decide) (by decide) rfl (fun w => (Step.pure (by kernel_rfl))) ?_
    refine TW.pure (v := (Value.agg #[(Value.int .u64 x10.epoch), (Value.bool x10.dead), (Value.int .i64 x10.agg.count), (Value.int .i64 x10.agg.sum), (Value.int .i64 x10.agg.min), (Value.int .i64 x10.agg.max)])) rfl (by decide) (by decide) rfl (fun w => (Step.pure (by kernel_rfl))) ?_
    refine TW.new (obj := .cells #[(Value.int .u64 x10.epoch), (Value.bool x10.dead), (Value.int .i64 x10.agg.count), (Value.int .i64 x10.agg.sum), (Value.int .i64 x10.agg.min), (Value.int .i64 x10.agg.max)] 51) (fun b => .slice (some ⟨b, 0, none⟩) 1 1) rfl (by decide) (by decide) rfl (fun w => Step.make (by kernel_rfl)) (fun b22 => ?_)
    refine TW.doesM (fun v_ => own 51 6 v_ (((l.take i_) ++ ([x10] : List Ver)).length) (((l.take i_) ++ ([x10] : List Ver)).flatMap verE)) 2 rfl rfl (by decide) rfl (fun v_ => (List.Sublist.cons _ (List.Sublist.cons_cons _ (List.Sublist.cons _ List.Sublist.slnil)))) (fun r h => h) (fun A w M => M.appendF' (l.take i_) ([x10] : List Ver) (sv := (Value.slice (some ⟨b22, 0, none⟩) 1 1)) 3 Try.un41 Try.el51 rfl (by decide) rfl rfl rfl (SlAt.of_blk (M.blk 1 rfl) rfl (by decide)) verE_cel (by have := hacl; simp only [maxLen, List.length_nil, List.length_cons, List.length_append]; omega) (by have := hacl; (try simp only [List.length_nil, List.length_cons, List.length_append]); omega)) (fun v23 hin => ?_)
    obtain ⟨_, _, hin⟩ := hin
    have sl25 : IsSl v23 := SlAt.isSl (own_slAt (Mem.chunk hin 3 rfl).inv)
    clear hin
    change TW _ _ _ _ _ _ _ _ (MemA _ _ _ [blk b22 (.cells #[(Value.int .u64 x10.epoch), (Value.bool x10.dead), (Value.int .i64 x10.agg.count), (Value.int .i64 x10.agg.sum), (Value.int .i64 x10.agg.min), (Value.int .i64 x10.agg.max)] 51), blk b11 (.cells #[(Value.int .i64 x10.agg.count), (Value.int .i64 x10.agg.sum), (Value.int .i64 x10.agg.min), (Value.int .i64 x10.agg.max)] 32), own 51 6 v23 (((l.take i_) ++ ([x10] : List Ver)).length) (((l.take i_) ++ ([x10] : List Ver)).flatMap verE)] [SlAt 6 v l.length (l.flatMap verE)])
    refine TW.pure (v := v23) rfl (by decide) (by decide) rfl (fun w => (Step.assign rfl)) ?_
    refine TW.done (fun w26 M => ?_)
    refine W.region rfl ?_
    refine WL.step (v := (Value.int .i64 ↑i_)) rfl (Step.move rfl) ?_
    refine WL.step (v := (Value.int .i64 (↑i_ + 1))) rfl (Step.add rfl rfl (wrap_i64 (by omega))) ?_
    refine WL.step (v := (Value.int .i64 (↑i_ + 1))) rfl (Step.assign rfl) ?_
    refine WL.nil ?_
    replace M := M.rechunk 2 (c' := own 51 6 v23 ((l.take (i_ + 1)).length) ((l.take (i_ + 1)).flatMap verE)) rfl (by rw [← take_snoc hx10])
    replace M : Mem _ _ _ [blk b22 (.cells #[(Value.int .u64 x10.epoch), (Value.bool x10.dead), (Value.int .i64 x10.agg.count), (Value.int .i64 x10.agg.sum), (Value.int .i64 x10.agg.min), (Value.int .i64 x10.agg.max)] 51), blk b11 (.cells #[(Value.int .i64 x10.agg.count), (Value.int .i64 x10.agg.sum), (Value.int .i64 x10.agg.min), (Value.int .i64 x10.agg.max)] 32), own 51 6 v23 ((l.take (i_ + 1)).length) ((l.take (i_ + 1)).flatMap verE)] [SlAt 6 v l.length (l.flatMap verE)] _ := M
    replace M := M.sel (L' := [own 51 6 v23 ((l.take (i_ + 1)).length) ((l.take (i_ + 1)).flatMap verE)]) [2] rfl (by decide)
    exact ⟨_, (by omega), i_ + 1, v23, ⟨(by omega), rfl⟩, ⟨rfl, rfl, rfl, rfl, rfl, rfl⟩, M⟩
  ·
    have h7p := of_decide_eq_false h7
    refine W.exit ?_
    refine thn_exit ?_
    refine thn_exit ?_
    refine inBlk_hit ?_
    refine W.seq' ?_
    refine W.region rfl ?_
    refine WL.step (v := acci_) rfl (Step.move rfl) ?_
    refine WL.step (v := acci_) rfl (Step.assign rfl) ?_
    refine WL.nil ?_
    refine W.ret ?_
    refine ⟨.inl rfl, acci_, ?_, ?_⟩
    · exact ⟨rfl, (Res.r1 (show RV _ _ _ (.tmp 2) acci_ from by exact rfl))⟩
    have e27 : l = l.take i_ := by
      rw [show i_ = l.length by omega, List.take_length]
    replace M := M.rechunk 0 (c' := own 51 6 acci_ l.length (l.flatMap verE)) rfl (congrArg (fun z => own 51 6 acci_ z.length (z.flatMap verE)) e27.symm)
    replace M : Mem _ _ _ [own 51 6 acci_ l.length (l.flatMap verE)] [SlAt 6 v l.length (l.flatMap verE)] _ := M
    refine ⟨acci_, ?_, M.close [0] rfl (by decide) trivial⟩
    rfl

theorem law_own {G : Nat → Prop} {w : World} (v : Value) (l : List Ver)  (hb : l.length ≤ 1000000) (M : Mem G (fun _ => False) w [] [SlAt 6 v l.length (l.flatMap verE)] w) : Rets Try.prog 23 #[v] w fun r w' => ∃ (v' : Value), r = v' ∧ Mem G (fun _ => False) w [own 34 6 v' l.length (l.flatMap verE)] [] w' := by
  refine Rets.enter 7 _ Try.func23 rfl Try.ntmps23 Try.results23 (by simp) ?_
  have hle1 := SlAt.le' (M.rep 0 rfl)
  have sl2 : IsSl v := SlAt.isSl (Mem.rep M 0 rfl)
  refine W.seq' ?_
  refine W.region rfl ?_
  refine WL.step (v := (Value.slice none 0 0)) rfl (Step.assign rfl) ?_
  refine WL.nil ?_
  refine W.seq' ?_
  refine W.region rfl ?_
  refine WL.step (v := (Value.slice none 0 0)) rfl (Step.assign rfl) ?_
  refine WL.nil ?_
  refine W.seq' ?_
  refine W.region rfl ?_
  refine WL.step (v := (Value.slice none 0 0)) rfl (Step.move rfl) ?_
  refine WL.step (v := v) rfl (Step.move rfl) ?_
  replace M := M.ownNil 34 6
  replace M : Mem _ _ _ [own 34 6 (Value.slice none 0 0) (([] : List Ver).length) (([] : List Ver).flatMap verE)] [SlAt 6 v l.length (l.flatMap verE)] _ := M
  refine WL.does rfl (M.appendF ([] : List Ver) l (sv := v) 0 Try.un22 Try.el34 rfl (by decide) rfl rfl rfl (M.rep 0 rfl) verE_cel (by have := hb; simp only [maxLen, List.length_nil, List.length_cons, List.length_append]; omega) (by have := hb; (try simp only [List.length_nil, List.length_cons, List.length_append]); omega)) ?_
  rintro v3 w4 M
  replace M : Mem _ _ _ [own 34 6 v3 l.length (l.flatMap verE)] [SlAt 6 v l.length (l.flatMap verE)] _ := M
  have sl5 : IsSl v3 := SlAt.isSl (own_slAt (M.chunk 0 rfl).inv)
  refine WL.step (v := v3) rfl (Step.assign rfl) ?_
  refine WL.nil ?_
  refine W.ret ?_
  refine ⟨.inl rfl, v3, ?_, ?_⟩
  · exact ⟨rfl, (Res.r1 (show RV _ _ _ (.tmp 2) v3 from by exact rfl))⟩
  refine ⟨v3, ?_, M.close [0] rfl (by decide) trivial⟩
  rfl

theorem law_is {G : Nat → Prop} {w : World} (a : Agg5) (b : Agg5)   (M : Mem G (fun _ => False) w [] [] w) : Rets Try.prog 28 #[(Value.agg #[(Value.int .i64 a.count), (Value.int .i64 a.sum), (Value.int .i64 a.min), (Value.int .i64 a.max)]), (Value.agg #[(Value.int .i64 b.count), (Value.int .i64 b.sum), (Value.int .i64 b.min), (Value.int .i64 b.max)])] w fun r w' => r = (Value.bool (decide (a = b))) ∧ Mem G (fun _ => False) w [] [] w' := by
  refine Rets.enter 31 _ Try.func28 rfl Try.ntmps28 Try.results28 (by simp) ?_
  refine W.seq' ?_
  refine W.region rfl ?_
  refine WL.box (v := (Value.agg #[(Value.int .i64 a.count), (Value.int .i64 a.sum), (Value.int .i64 a.min), (Value.int .i64 a.max)])) (c := #[(Value.int .i64 a.count), (Value.int .i64 a.sum), (Value.int .i64 a.min), (Value.int .i64 a.max)]) M rfl rfl rfl (fun b1 w2 hb1 M => ?_)
  refine WL.box (v := (Value.agg #[(Value.int .i64 b.count), (Value.int .i64 b.sum), (Value.int .i64 b.min), (Value.int .i64 b.max)])) (c := #[(Value.int .i64 b.count), (Value.int .i64 b.sum), (Value.int .i64 b.min), (Value.int .i64 b.max)]) M rfl rfl rfl (fun b3 w4 hb3 M => ?_)
  refine WL.step (v := (Value.bool false)) rfl (Step.assign rfl) ?_
  refine WL.nil ?_
  refine W.seq' ?_
  refine W.region rfl ?_
  refine WL.step (v := (Value.pointer (some ⟨b1, 0, none⟩))) rfl (Step.pure (by kernel_rfl)) ?_
  refine WL.step (v := (Value.int .i64 a.count)) rfl (Step.load1 Try.sc2 rfl ((M.cell 1 rfl 0).trans rfl)) ?_
  refine WL.step (v := (Value.pointer (some ⟨b3, 0, none⟩))) rfl (Step.pure (by kernel_rfl)) ?_
  refine WL.step (v := (Value.int .i64 b.count)) rfl (Step.load1 Try.sc2 rfl ((M.cell 0 rfl 0).trans rfl)) ?_
  refine WL.step (v := (Value.bool ((a.count : Int) == (b.count : Int)))) rfl (Step.pure (by kernel_rfl)) ?_
  refine WL.step (v := (Value.bool ((a.count : Int) == (b.count : Int)))) rfl (Step.move rfl) ?_
  rcases Bool.eq_false_or_eq_true ((a.count : Int) == (b.count : Int)) with h5 | h5
  ·
    have h5p : (a.count : Int) = (b.count : Int) := by simpa using h5
    rw [h5]
    refine WL.step (v := (Value.pointer (some ⟨b1, 1, none⟩))) rfl (Step.pure (by kernel_rfl)) ?_
    refine WL.step (v := (Value.int .i64 a.sum)) rfl (Step.load1 Try.sc2 rfl ((M.cell 1 rfl 1).trans rfl)) ?_
    refine WL.step (v := (Value.pointer (some ⟨b3, 1, none⟩))) rfl (Step.pure (by kernel_rfl)) ?_
    refine WL.step (v := (Value.int .i64 b.sum)) rfl (Step.load1 Try.sc2 rfl ((M.cell 0 rfl 1).trans rfl)) ?_
    refine WL.step (v := (Value.bool ((a.sum : Int) == (b.sum : Int)))) rfl (Step.pure (by kernel_rfl)) ?_
    refine WL.step (v := (Value.bool ((a.sum : Int) == (b.sum : Int)))) rfl (Step.pick (t := true) rfl rfl) ?_
    refine WL.step (v := (Value.bool ((a.sum : Int) == (b.sum : Int)))) rfl (Step.move rfl) ?_
    rcases Bool.eq_false_or_eq_true ((a.sum : Int) == (b.sum : Int)) with h6 | h6
    ·
      have h6p : (a.sum : Int) = (b.sum : Int) := by simpa using h6
      rw [h6]
      refine WL.step (v := (Value.pointer (some ⟨b1, 2, none⟩))) rfl (Step.pure (by kernel_rfl)) ?_
      refine WL.step (v := (Value.int .i64 a.min)) rfl (Step.load1 Try.sc2 rfl ((M.cell 1 rfl 2).trans rfl)) ?_
      refine WL.step (v := (Value.pointer (some ⟨b3, 2, none⟩))) rfl (Step.pure (by kernel_rfl)) ?_
      refine WL.step (v := (Value.int .i64 b.min)) rfl (Step.load1 Try.sc2 rfl ((M.cell 0 rfl 2).trans rfl)) ?_
      refine WL.step (v := (Value.bool ((a.min : Int) == (b.min : Int)))) rfl (Step.pure (by kernel_rfl)) ?_
      refine WL.step (v := (Value.bool ((a.min : Int) == (b.min : Int)))) rfl (Step.pick (t := true) rfl rfl) ?_
      refine WL.step (v := (Value.bool ((a.min : Int) == (b.min : Int)))) rfl (Step.move rfl) ?_
      rcases Bool.eq_false_or_eq_true ((a.min : Int) == (b.min : Int)) with h7 | h7
      ·
        have h7p : (a.min : Int) = (b.min : Int) := by simpa using h7
        rw [h7]
        refine WL.step (v := (Value.pointer (some ⟨b1, 3, none⟩))) rfl (Step.pure (by kernel_rfl)) ?_
        refine WL.step (v := (Value.int .i64 a.max)) rfl (Step.load1 Try.sc2 rfl ((M.cell 1 rfl 3).trans rfl)) ?_
        refine WL.step (v := (Value.pointer (some ⟨b3, 3, none⟩))) rfl (Step.pure (by kernel_rfl)) ?_
        refine WL.step (v := (Value.int .i64 b.max)) rfl (Step.load1 Try.sc2 rfl ((M.cell 0 rfl 3).trans rfl)) ?_
        refine WL.step (v := (Value.bool ((a.max : Int) == (b.max : Int)))) rfl (Step.pure (by kernel_rfl)) ?_
        refine WL.step (v := (Value.bool ((a.max : Int) == (b.max : Int)))) rfl (Step.pick (t := true) rfl rfl) ?_
        refine WL.step (v := (Value.bool ((a.max : Int) == (b.max : Int)))) rfl (Step.assign rfl) ?_
        refine WL.nil ?_
        refine W.ret ?_
        refine ⟨.inl rfl, (Value.bool ((a.max : Int) == (b.max : Int))), ?_, ?_⟩
        · exact ⟨rfl, (Res.r1 (show RV _ _ _ (.tmp 4) (Value.bool ((a.max : Int) == (b.max : Int))) from by exact rfl))⟩
        refine ⟨?_, M.close [] rfl (by decide) trivial⟩
        refine congrArg Value.bool ?_
        obtain ⟨a1, a2, a3, a4⟩ := a; obtain ⟨b1, b2, b3, b4⟩ := b
        first | rfl | (simp [h5p, h6p, h7p]; done) | (simp [h5p, h6p, h7p]; omega) | (rw [Bool.eq_iff_iff]; simp [h5p, h6p, h7p]; done) | (rw [Bool.eq_iff_iff]; simp [h5p, h6p, h7p]; omega) | grind []
      ·
        have h7p : ¬ (a.min : Int) = (b.min : Int) := by simpa using h7
        rw [h7]
        refine WL.pass rfl ?_
        refine WL.pass rfl ?_
        refine WL.pass rfl ?_
        refine WL.pass rfl ?_
        refine WL.pass rfl ?_
        refine WL.step (v := (Value.bool false)) rfl (Step.pick (t := false) rfl rfl) ?_
        refine WL.step (v := (Value.bool false)) rfl (Step.assign rfl) ?_
        refine WL.nil ?_
        refine W.ret ?_
        refine ⟨.inl rfl, (Value.bool false), ?_, ?_⟩
        · exact ⟨rfl, (Res.r1 (show RV _ _ _ (.tmp 4) (Value.bool false) from by exact rfl))⟩
        refine ⟨?_, M.close [] rfl (by decide) trivial⟩
        refine congrArg Value.bool ?_
        obtain ⟨a1, a2, a3, a4⟩ := a; obtain ⟨b1, b2, b3, b4⟩ := b
        first | rfl | (simp [h5p, h6p, h7p]; done) | (simp [h5p, h6p, h7p]; omega) | (rw [Bool.eq_iff_iff]; simp [h5p, h6p, h7p]; done) | (rw [Bool.eq_iff_iff]; simp [h5p, h6p, h7p]; omega) | grind []
    ·
      have h6p : ¬ (a.sum : Int) = (b.sum : Int) := by simpa using h6
      rw [h6]
      refine WL.pass rfl ?_
      refine WL.pass rfl ?_
      refine WL.pass rfl ?_
      refine WL.pass rfl ?_
      refine WL.pass rfl ?_
      refine WL.step (v := (Value.bool false)) rfl (Step.pick (t := false) rfl rfl) ?_
      refine WL.step (v := (Value.bool false)) rfl (Step.move rfl) ?_
      refine WL.pass rfl ?_
      refine WL.pass rfl ?_
      refine WL.pass rfl ?_
      refine WL.pass rfl ?_
      refine WL.pass rfl ?_
      refine WL.step (v := (Value.bool false)) rfl (Step.pick (t := false) rfl rfl) ?_
      refine WL.step (v := (Value.bool false)) rfl (Step.assign rfl) ?_
      refine WL.nil ?_
      refine W.ret ?_
      refine ⟨.inl rfl, (Value.bool false), ?_, ?_⟩
      · exact ⟨rfl, (Res.r1 (show RV _ _ _ (.tmp 4) (Value.bool false) from by exact rfl))⟩
      refine ⟨?_, M.close [] rfl (by decide) trivial⟩
      refine congrArg Value.bool ?_
      obtain ⟨a1, a2, a3, a4⟩ := a; obtain ⟨b1, b2, b3, b4⟩ := b
      first | rfl | (simp [h5p, h6p]; done) | (simp [h5p, h6p]; omega) | (rw [Bool.eq_iff_iff]; simp [h5p, h6p]; done) | (rw [Bool.eq_iff_iff]; simp [h5p, h6p]; omega) | grind []
  ·
    have h5p : ¬ (a.count : Int) = (b.count : Int) := by simpa using h5
    rw [h5]
    refine WL.pass rfl ?_
    refine WL.pass rfl ?_
    refine WL.pass rfl ?_
    refine WL.pass rfl ?_
    refine WL.pass rfl ?_
    refine WL.step (v := (Value.bool false)) rfl (Step.pick (t := false) rfl rfl) ?_
    refine WL.step (v := (Value.bool false)) rfl (Step.move rfl) ?_
    refine WL.pass rfl ?_
    refine WL.pass rfl ?_
    refine WL.pass rfl ?_
    refine WL.pass rfl ?_
    refine WL.pass rfl ?_
    refine WL.step (v := (Value.bool false)) rfl (Step.pick (t := false) rfl rfl) ?_
    refine WL.step (v := (Value.bool false)) rfl (Step.move rfl) ?_
    refine WL.pass rfl ?_
    refine WL.pass rfl ?_
    refine WL.pass rfl ?_
    refine WL.pass rfl ?_
    refine WL.pass rfl ?_
    refine WL.step (v := (Value.bool false)) rfl (Step.pick (t := false) rfl rfl) ?_
    refine WL.step (v := (Value.bool false)) rfl (Step.assign rfl) ?_
    refine WL.nil ?_
    refine W.ret ?_
    refine ⟨.inl rfl, (Value.bool false), ?_, ?_⟩
    · exact ⟨rfl, (Res.r1 (show RV _ _ _ (.tmp 4) (Value.bool false) from by exact rfl))⟩
    refine ⟨?_, M.close [] rfl (by decide) trivial⟩
    refine congrArg Value.bool ?_
    obtain ⟨a1, a2, a3, a4⟩ := a; obtain ⟨b1, b2, b3, b4⟩ := b
    first | rfl | (simp [h5p]; done) | (simp [h5p]; omega) | (rw [Bool.eq_iff_iff]; simp [h5p]; done) | (rw [Bool.eq_iff_iff]; simp [h5p]; omega) | grind []

theorem law_same {G : Nat → Prop} {w : World} (v : Value) (l : List Ver) (u : Value) (rs : List Ver)  (hb : l.length ≤ 1000000) (M : Mem G (fun _ => False) w [] [SlAt 6 v l.length (l.flatMap verE), SlAt 6 u rs.length (rs.flatMap verE)] w) : Rets Try.prog 33 #[v, u] w fun r w' => r = (Value.bool (decide (l = rs))) ∧ Mem G (fun _ => False) w [] [] w' := by
  refine Rets.enter 29 _ Try.func33 rfl Try.ntmps33 Try.results33 (by simp) ?_
  have hle1 := SlAt.le' (M.rep 0 rfl)
  have hle2 := SlAt.le' (M.rep 1 rfl)
  have sl3 : IsSl v := SlAt.isSl (Mem.rep M 0 rfl)
  have sl4 : IsSl u := SlAt.isSl (Mem.rep M 1 rfl)
  refine W.seq' ?_
  refine W.region rfl ?_
  refine WL.step (v := (Value.bool false)) rfl (Step.assign rfl) ?_
  refine WL.nil ?_
  refine W.seq' ?_
  refine W.region rfl ?_
  refine WL.step (v := v) rfl (Step.move rfl) ?_
  refine WL.callX rfl (law_refs v l (by first | omega | assumption | decide | (simp only [List.length_nil, List.length_cons, List.length_take, List.length_drop]; omega)) (M.enterW0 ⟨(M.wideR0 0 rfl), trivial⟩)) (CallsF.func Try.en22 rfl) ?_
  rintro v5 w6 ⟨_, rfl, m⟩
  replace M := M.leaveW0 m
  clear m
  replace M : Mem _ _ _ [own 51 6 v5 l.length (l.flatMap verE)] [SlAt 6 v l.length (l.flatMap verE), SlAt 6 u rs.length (rs.flatMap verE)] _ := M
  have sl7 : IsSl v5 := SlAt.isSl (own_slAt (Mem.chunk M 0 rfl).inv)
  have hle8 := SlAt.le' (own_slAt (Mem.chunk M 0 rfl).inv)
  refine WL.step (v := v5) rfl (Step.assign rfl) ?_
  refine WL.nil ?_
  refine W.seq' ?_
  refine W.seq' ?_
  refine W.region rfl ?_
  refine WL.step (v := v5) rfl (Step.move rfl) ?_
  refine WL.step (v := (Value.int .i64 ↑l.length)) rfl (Step.lenSl Try.un41 rfl (own_slAt (M.chunk 0 rfl).inv)) ?_
  refine WL.step (v := u) rfl (Step.move rfl) ?_
  refine WL.step (v := (Value.int .i64 ↑rs.length)) rfl (Step.lenSl Try.un41 rfl (M.rep 1 rfl)) ?_
  refine WL.step (v := (Value.bool ((↑l.length : Int) != (↑rs.length : Int)))) rfl (Step.pure (by kernel_rfl)) ?_
  refine WL.nil ?_
  refine W.cond (t := (↑l.length : Int) != (↑rs.length : Int)) rfl (fun h9 => ?_) (fun h9 => ?_)
  ·
    have h9p : ¬ (↑l.length : Int) = (↑rs.length : Int) := by simpa using h9
    refine W.seq' ?_
    refine W.region rfl ?_
    refine WL.step (v := (Value.bool false)) rfl (Step.assign rfl) ?_
    refine WL.nil ?_
    refine W.ret ?_
    refine ⟨.inl rfl, (Value.bool false), ?_, ?_⟩
    · exact ⟨rfl, (Res.r1 (show RV _ _ _ (.tmp 4) (Value.bool false) from by exact rfl))⟩
    refine ⟨?_, M.close [] rfl (by decide) trivial⟩
    refine congrArg Value.bool (Eq.symm ?_)
    exact same_len (l := l) (r := rs) (by omega)
  ·
    have h9p : (↑l.length : Int) = (↑rs.length : Int) := by simpa using h9
    refine W.skip ?_
    refine W.seq' ?_
    refine W.seq' ?_
    refine W.region rfl ?_
    refine WL.step (v := (Value.int .i64 0)) rfl (Step.assign rfl) ?_
    refine WL.nil ?_
    refine W.block ?_
    refine W.loop (fun kk ρ w' => ∃ (i_ : Nat), ((i_ ≤ l.length) ∧ (l.take i_ = rs.take i_) ∧ kk = l.length - i_) ∧ ρ.has [(1, u), (5, v5), (6, (Value.int .i64 ↑i_))] ∧ Mem G (fun _ => False) w [own 51 6 v5 l.length (l.flatMap verE)] [SlAt 6 v l.length (l.flatMap verE), SlAt 6 u rs.length (rs.flatMap verE)]  w') _ ⟨0, ⟨(Nat.zero_le _), rfl, rfl⟩, ⟨rfl, rfl, rfl, rfl, rfl⟩, M⟩ ?_
    rintro _ ρ11 w10 ⟨i_, ⟨hi12, hi13, rfl⟩, hρ, M⟩
    obtain ⟨ρ11, rfl⟩ := hρ.know
    clear hρ
    refine W.seq' ?_
    refine W.seq' ?_
    refine W.region rfl ?_
    refine WL.step (v := (Value.int .i64 ↑i_)) rfl (Step.move rfl) ?_
    refine WL.step (v := v5) rfl (Step.move rfl) ?_
    refine WL.step (v := (Value.int .i64 ↑l.length)) rfl (Step.lenSl Try.un41 rfl (own_slAt (M.chunk 0 rfl).inv)) ?_
    refine WL.step (v := (Value.bool (decide ((↑i_ : Int) < (↑l.length : Int))))) rfl (Step.pure (by kernel_rfl)) ?_
    refine WL.nil ?_
    refine W.cond (t := decide ((↑i_ : Int) < (↑l.length : Int))) rfl (fun h14 => ?_) (fun h14 => ?_)
    ·
      have h14p := of_decide_eq_true h14
      refine W.skip ?_
      refine W.seq' ?_
      refine W.block ?_
      refine W.seq' ?_
      obtain ⟨cap16, hb15⟩ := SlAt.base (own_slAt (M.chunk 0 rfl).inv) (by omega)
      obtain ⟨x17, hx17⟩ := elem_of_lt (xs := l) (i := i_) (by omega)
      obtain ⟨cap19, hb18⟩ := SlAt.base (M.rep 1 rfl) (by omega)
      obtain ⟨x20, hx20⟩ := elem_of_lt (xs := rs) (i := i_) (by omega)
      refine W.drawn M [0, 1, 2, 3, 4, 5, 6, 7, 8] [] [] [own 51 6 v5 l.length (l.flatMap verE)] [SlAt 6 v l.length (l.flatMap verE), SlAt 6 u rs.length (rs.flatMap verE)] (List.Sublist.cons_cons _ List.Sublist.slnil) (fun _ h => h) Try.mixed (by kernel_rfl) ?_
      refine TW.pure (v := v5) rfl (by decide) (by decide) rfl (fun w => (Step.move rfl)) ?_
      refine TW.pure (v := (Value.int .i64 ↑i_)) rfl (by decide) (by decide) rfl (fun w => (Step.move rfl)) ?_
      refine TW.pure (v := (Value.pointer (some ⟨(sBlk v5), sOff v5 + i_ * 6, none⟩))) rfl (by decide) (by decide) rfl (fun w => (Step.indexAddr (i := i_) (Try.un41).run Try.el51.sized rfl rfl (by omega) hb15 (by omega))) ?_
      refine TW.read (v := (Value.agg #[(Value.int .u64 x17.epoch), (Value.bool x17.dead), (Value.int .i64 x17.agg.count), (Value.int .i64 x17.agg.sum), (Value.int .i64 x17.agg.min), (Value.int .i64 x17.agg.max)])) rfl (by decide) (by decide) rfl (fun A w M => (Step.loadEN (k := 0) (cs' := [(Value.int .u64 x17.epoch), (Value.bool x17.dead), (Value.int .i64 x17.agg.count), (Value.int .i64 x17.agg.sum), (Value.int .i64 x17.agg.min), (Value.int .i64 x17.agg.max)]) Try.ag51 (flat_ec (own_slAt (M.chunk 1 rfl).inv) hx17 verE_len) (by decide) rfl rfl rfl)) ?_
      refine TW.pure (v := u) rfl (by decide) (by decide) rfl (fun w => (Step.move rfl)) ?_
      refine TW.pure (v := (Value.int .i64 ↑i_)) rfl (by decide) (by decide) rfl (fun w => (Step.move rfl)) ?_
      refine TW.pure (v := (Value.pointer (some ⟨(sBlk u), sOff u + i_ * 6, none⟩))) rfl (by decide) (by decide) rfl (fun w => (Step.indexAddr (i := i_) (Try.un41).run Try.el51.sized rfl rfl (by omega) hb18 (by omega))) ?_
      refine TW.read (v := (Value.agg #[(Value.int .u64 x20.epoch), (Value.bool x20.dead), (Value.int .i64 x20.agg.count), (Value.int .i64 x20.agg.sum), (Value.int .i64 x20.agg.min), (Value.int .i64 x20.agg.max)])) rfl (by decide) (by decide) rfl (fun A w M => (Step.loadEN (k := 0) (cs' := [(Value.int .u64 x20.epoch), (Value.bool x20.dead), (Value.int .i64 x20.agg.count), (Value.int .i64 x20.agg.sum), (Value.int .i64 x20.agg.min), (Value.int .i64 x20.agg.max)]) Try.ag51 (flat_ec (M.rep 1 rfl) hx20 verE_len) (by decide) rfl rfl rfl)) ?_
      refine TW.pure (v := (Value.bool (!decide (x17 = x20)))) rfl (by decide) (by decide) rfl (fun w => (Step.cast (congrArg (fun z => Value.bool (!z)) (ver_eqB x17 x20)) (Step.neqAgg Try.eg51 rfl rfl rfl (Try.eq51 9997 (x17.epoch : Int) x17.dead (x17.agg.count : Int) (x17.agg.sum : Int) (x17.agg.min : Int) (x17.agg.max : Int) (x20.epoch : Int) x20.dead (x20.agg.count : Int) (x20.agg.sum : Int) (x20.agg.min : Int) (x20.agg.max : Int))))) ?_
      refine TW.done (fun w21 M => ?_)
      refine W.cond (t := !decide (x17 = x20)) rfl (fun h22 => ?_) (fun h22 => ?_)
      ·
        refine W.seq' ?_
        refine W.region rfl ?_
        refine WL.step (v := (Value.bool false)) rfl (Step.assign rfl) ?_
        refine WL.nil ?_
        refine W.ret ?_
        refine ⟨.inl rfl, (Value.bool false), ?_, ?_⟩
        · exact ⟨rfl, (Res.r1 (show RV _ _ _ (.tmp 4) (Value.bool false) from by exact rfl))⟩
        refine ⟨?_, M.close [] rfl (by decide) trivial⟩
        refine congrArg Value.bool (Eq.symm ?_)
        exact same_no hx17 hx20 (by simpa using h22)
      ·
        refine W.skip ?_
        refine W.region rfl ?_
        refine WL.step (v := (Value.int .i64 ↑i_)) rfl (Step.move rfl) ?_
        refine WL.step (v := (Value.int .i64 (↑i_ + 1))) rfl (Step.add rfl rfl (wrap_i64 (by omega))) ?_
        refine WL.step (v := (Value.int .i64 (↑i_ + 1))) rfl (Step.assign rfl) ?_
        refine WL.nil ?_
        exact ⟨_, (by omega), i_ + 1, ⟨(by omega), (same_step hi13 hx17 hx20 (by simpa using h22)), rfl⟩, ⟨rfl, rfl, rfl, rfl, rfl⟩, M⟩
    ·
      have h14p := of_decide_eq_false h14
      refine W.exit ?_
      refine thn_exit ?_
      refine thn_exit ?_
      refine inBlk_hit ?_
      refine W.seq' ?_
      refine W.region rfl ?_
      refine WL.step (v := (Value.bool true)) rfl (Step.assign rfl) ?_
      refine WL.nil ?_
      refine W.ret ?_
      refine ⟨.inl rfl, (Value.bool true), ?_, ?_⟩
      · exact ⟨rfl, (Res.r1 (show RV _ _ _ (.tmp 4) (Value.bool true) from by exact rfl))⟩
      refine ⟨?_, M.close [] rfl (by decide) trivial⟩
      refine congrArg Value.bool (Eq.symm ?_)
      exact same_yes hi13 (by omega) (by omega)

theorem law_live {G : Nat → Prop} {w : World} (e : Int) (x : Int)   (M : Mem G (fun _ => False) w [] [] w) : Rets Try.prog 39 #[(Value.int .u64 e), (Value.int .i64 x)] w fun r w' => r = (Value.agg #[(Value.int .u64 ((⟨e, false, ⟨1, x, x, x⟩⟩ : Ver).epoch)), (Value.bool ((⟨e, false, ⟨1, x, x, x⟩⟩ : Ver).dead)), (Value.int .i64 ((⟨e, false, ⟨1, x, x, x⟩⟩ : Ver).agg.count)), (Value.int .i64 ((⟨e, false, ⟨1, x, x, x⟩⟩ : Ver).agg.sum)), (Value.int .i64 ((⟨e, false, ⟨1, x, x, x⟩⟩ : Ver).agg.min)), (Value.int .i64 ((⟨e, false, ⟨1, x, x, x⟩⟩ : Ver).agg.max))]) ∧ Mem G (fun _ => False) w [] [] w' := by
  refine Rets.enter 11 _ Try.func39 rfl Try.ntmps39 Try.results39 (by simp) ?_
  refine W.seq' ?_
  refine W.region rfl ?_
  refine WL.alloc (c := #[(Value.int .u64 0), (Value.bool false), (Value.int .i64 0), (Value.int .i64 0), (Value.int .i64 0), (Value.int .i64 0)]) M rfl Try.el34.zero rfl (fun b1 w2 hb1 M => ?_)
  refine WL.nil ?_
  refine W.seq' ?_
  refine W.region rfl ?_
  refine WL.step (v := (Value.int .u64 e)) rfl (Step.move rfl) ?_
  refine WL.step (v := (Value.int .i64 x)) rfl (Step.move rfl) ?_
  refine WL.step (v := (Value.int .i64 x)) rfl (Step.move rfl) ?_
  refine WL.step (v := (Value.int .i64 x)) rfl (Step.move rfl) ?_
  refine WL.step (v := (Value.agg #[(Value.int .i64 1), (Value.int .i64 x), (Value.int .i64 x), (Value.int .i64 x)])) rfl (Step.pure (by kernel_rfl)) ?_
  refine WL.step (v := (Value.agg #[(Value.int .u64 e), (Value.bool false), (Value.int .i64 1), (Value.int .i64 x), (Value.int .i64 x), (Value.int .i64 x)])) rfl (Step.pure (by kernel_rfl)) ?_
  refine WL.store (v := (Value.agg #[(Value.int .u64 e), (Value.bool false), (Value.int .i64 1), (Value.int .i64 x), (Value.int .i64 x), (Value.int .i64 x)])) (cs := [(Value.int .u64 e), (Value.bool false), (Value.int .i64 1), (Value.int .i64 x), (Value.int .i64 x), (Value.int .i64 x)]) (c' := #[(Value.int .u64 e), (Value.bool false), (Value.int .i64 1), (Value.int .i64 x), (Value.int .i64 x), (Value.int .i64 x)]) M 0 rfl rfl Try.el34.sized rfl rfl rfl rfl (Nat.le_of_ble_eq_true rfl) (cel_cons rfl (cel_cons rfl (cel_cons rfl (cel_cons rfl (cel_cons rfl (cel_cons rfl cel_nil)))))) rfl rfl (fun w3 M => ?_)
  refine WL.nil ?_
  refine W.ret ?_
  refine ⟨.inl rfl, (Value.agg #[(Value.int .u64 e), (Value.bool false), (Value.int .i64 1), (Value.int .i64 x), (Value.int .i64 x), (Value.int .i64 x)]), ?_, ?_⟩
  · exact ⟨rfl, (Res.r1 (RV.cellN Try.ag34 rfl (M.blk 0 rfl) rfl))⟩
  refine ⟨?_, M.close [] rfl (by decide) trivial⟩
  rfl

theorem law_dead {G : Nat → Prop} {w : World} (e : Int)   (M : Mem G (fun _ => False) w [] [] w) : Rets Try.prog 40 #[(Value.int .u64 e)] w fun r w' => r = (Value.agg #[(Value.int .u64 ((⟨e, true, aggZ⟩ : Ver).epoch)), (Value.bool ((⟨e, true, aggZ⟩ : Ver).dead)), (Value.int .i64 ((⟨e, true, aggZ⟩ : Ver).agg.count)), (Value.int .i64 ((⟨e, true, aggZ⟩ : Ver).agg.sum)), (Value.int .i64 ((⟨e, true, aggZ⟩ : Ver).agg.min)), (Value.int .i64 ((⟨e, true, aggZ⟩ : Ver).agg.max))]) ∧ Mem G (fun _ => False) w [] [] w' := by
  refine Rets.enter 5 _ Try.func40 rfl Try.ntmps40 Try.results40 (by simp) ?_
  refine W.seq' ?_
  refine W.region rfl ?_
  refine WL.alloc (c := #[(Value.int .u64 0), (Value.bool false), (Value.int .i64 0), (Value.int .i64 0), (Value.int .i64 0), (Value.int .i64 0)]) M rfl Try.el34.zero rfl (fun b1 w2 hb1 M => ?_)
  refine WL.nil ?_
  refine W.seq' ?_
  refine W.region rfl ?_
  refine WL.step (v := (Value.int .u64 e)) rfl (Step.move rfl) ?_
  refine WL.step (v := (Value.agg #[(Value.int .u64 e), (Value.bool true), (Value.int .i64 0), (Value.int .i64 0), (Value.int .i64 0), (Value.int .i64 0)])) rfl (Step.pure (by kernel_rfl)) ?_
  refine WL.store (v := (Value.agg #[(Value.int .u64 e), (Value.bool true), (Value.int .i64 0), (Value.int .i64 0), (Value.int .i64 0), (Value.int .i64 0)])) (cs := [(Value.int .u64 e), (Value.bool true), (Value.int .i64 0), (Value.int .i64 0), (Value.int .i64 0), (Value.int .i64 0)]) (c' := #[(Value.int .u64 e), (Value.bool true), (Value.int .i64 0), (Value.int .i64 0), (Value.int .i64 0), (Value.int .i64 0)]) M 0 rfl rfl Try.el34.sized rfl rfl rfl rfl (Nat.le_of_ble_eq_true rfl) (cel_cons rfl (cel_cons rfl (cel_cons rfl (cel_cons rfl (cel_cons rfl (cel_cons rfl cel_nil)))))) rfl rfl (fun w3 M => ?_)
  refine WL.nil ?_
  refine W.ret ?_
  refine ⟨.inl rfl, (Value.agg #[(Value.int .u64 e), (Value.bool true), (Value.int .i64 0), (Value.int .i64 0), (Value.int .i64 0), (Value.int .i64 0)]), ?_, ?_⟩
  · exact ⟨rfl, (Res.r1 (RV.cellN Try.ag34 rfl (M.blk 0 rfl) rfl))⟩
  refine ⟨?_, M.close [] rfl (by decide) trivial⟩
  rfl
end Go.Proofs
