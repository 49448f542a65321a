/- Walks. -/
import Derived.Test.YtlehkjkpgmkbiaaTrL7
set_option maxRecDepth 100000
set_option linter.all false
namespace Go.Proofs
open Go Tp
theorem Try.en95 : Enters Try.prog 95 := fun _ _ => by kernel_rfl
theorem Try.fl88 : (Try.prog.fieldsOf 88).toList = [⟨ "Id", 23, 0, false, "", "", 0⟩, ⟨ "Owner", 3, 1, false, "", "", 8⟩, ⟨ "Epoch", 23, 2, false, "", "", 16⟩, ⟨ "Until", 23, 3, false, "", "", 24⟩, ⟨ "Cursor", 4, 4, false, "", "", 32⟩] := by kernel_rfl
theorem Try.eg88 : Try.prog.eqGuardType Try.prog.depth 88 = false := by kernel_rfl
theorem Try.eq88 (d : Nat) (a0 : Int) (a1 : Int) (a2 : Int) (a3 : Int) (a4 : Bool) (b0 : Int) (b1 : Int) (b2 : Int) (b3 : Int) (b4 : Bool) : ∀ w, (Op.equalIn (d + 2) 88 (Value.agg #[(Value.int .u64 a0), (Value.int .i64 a1), (Value.int .u64 a2), (Value.int .u64 a3), (Value.bool a4)]) (Value.agg #[(Value.int .u64 b0), (Value.int .i64 b1), (Value.int .u64 b2), (Value.int .u64 b3), (Value.bool b4)])).run Try.prog w = .ok (((a0 : Int) == (b0 : Int)) && (((a1 : Int) == (b1 : Int)) && (((a2 : Int) == (b2 : Int)) && (((a3 : Int) == (b3 : Int)) && (((a4 : Bool) == (b4 : Bool)) && true))))) w :=
  (eq_struct (by kernel_rfl) (by kernel_rfl) (Try.fl88) (eqF_cons (x := (Value.int .u64 a0)) (y := (Value.int .u64 b0)) (by decide) (fun _ => by kernel_rfl) (fun _ => by kernel_rfl) (fun w => run_equalIn_int w _ _ _ .u64 _ _ (by kernel_rfl)) (eqF_cons (x := (Value.int .i64 a1)) (y := (Value.int .i64 b1)) (by decide) (fun _ => by kernel_rfl) (fun _ => by kernel_rfl) (fun w => run_equalIn_int w _ _ _ .i64 _ _ (by kernel_rfl)) (eqF_cons (x := (Value.int .u64 a2)) (y := (Value.int .u64 b2)) (by decide) (fun _ => by kernel_rfl) (fun _ => by kernel_rfl) (fun w => run_equalIn_int w _ _ _ .u64 _ _ (by kernel_rfl)) (eqF_cons (x := (Value.int .u64 a3)) (y := (Value.int .u64 b3)) (by decide) (fun _ => by kernel_rfl) (fun _ => by kernel_rfl) (fun w => run_equalIn_int w _ _ _ .u64 _ _ (by kernel_rfl)) (eqF_cons (x := (Value.bool a4)) (y := (Value.bool b4)) (by decide) (fun _ => by kernel_rfl) (fun _ => by kernel_rfl) (fun w => run_equalIn_bool' w _ _ _ _ (by kernel_rfl)) eqF_nil))))))

theorem law_ref {G : Nat → Prop} {w : World} (x : Lease)   (M : Mem G (fun _ => False) w [] [] w) : Rets Try.prog 95 #[(Value.agg #[(Value.int .u64 x.id), (Value.int .i64 x.owner), (Value.int .u64 x.epoch), (Value.int .u64 x.till), (Value.bool x.cursor)])] w fun r w' => r = (Value.agg #[(Value.int .u64 x.id), (Value.int .i64 x.owner), (Value.int .u64 x.epoch), (Value.int .u64 x.till), (Value.bool x.cursor)]) ∧ Mem G (fun _ => False) w [] [] w' := by
  refine Rets.enter 14 _ Try.func95 rfl Try.ntmps95 Try.results95 (by simp) ?_
  refine W.seq' ?_
  refine W.region rfl ?_
  refine WL.box (v := (Value.agg #[(Value.int .u64 x.id), (Value.int .i64 x.owner), (Value.int .u64 x.epoch), (Value.int .u64 x.till), (Value.bool x.cursor)])) (c := #[(Value.int .u64 x.id), (Value.int .i64 x.owner), (Value.int .u64 x.epoch), (Value.int .u64 x.till), (Value.bool x.cursor)]) M rfl rfl rfl (fun b1 w2 hb1 M => ?_)
  refine WL.alloc (c := #[(Value.int .u64 0), (Value.int .i64 0), (Value.int .u64 0), (Value.int .u64 0), (Value.bool false)]) M rfl Try.el88.zero rfl (fun b3 w4 hb3 M => ?_)
  refine WL.nil ?_
  refine W.seq' ?_
  refine W.region rfl ?_
  refine WL.step (v := (Value.pointer (some ⟨b1, 0, none⟩))) rfl (Step.pure (by kernel_rfl)) ?_
  refine WL.step (v := (Value.int .u64 x.id)) rfl (Step.load1 Try.sc23 rfl ((M.cell 1 rfl 0).trans rfl)) ?_
  refine WL.step (v := (Value.pointer (some ⟨b1, 1, none⟩))) rfl (Step.pure (by kernel_rfl)) ?_
  refine WL.step (v := (Value.int .i64 x.owner)) rfl (Step.load1 Try.sc3 rfl ((M.cell 1 rfl 1).trans rfl)) ?_
  refine WL.step (v := (Value.pointer (some ⟨b1, 2, none⟩))) rfl (Step.pure (by kernel_rfl)) ?_
  refine WL.step (v := (Value.int .u64 x.epoch)) rfl (Step.load1 Try.sc23 rfl ((M.cell 1 rfl 2).trans rfl)) ?_
  refine WL.step (v := (Value.pointer (some ⟨b1, 3, none⟩))) rfl (Step.pure (by kernel_rfl)) ?_
  refine WL.step (v := (Value.int .u64 x.till)) rfl (Step.load1 Try.sc23 rfl ((M.cell 1 rfl 3).trans rfl)) ?_
  refine WL.step (v := (Value.pointer (some ⟨b1, 4, none⟩))) rfl (Step.pure (by kernel_rfl)) ?_
  refine WL.step (v := (Value.bool x.cursor)) rfl (Step.load1 Try.sc4 rfl ((M.cell 1 rfl 4).trans rfl)) ?_
  refine WL.step (v := (Value.agg #[(Value.int .u64 x.id), (Value.int .i64 x.owner), (Value.int .u64 x.epoch), (Value.int .u64 x.till), (Value.bool x.cursor)])) rfl (Step.pure (by kernel_rfl)) ?_
  refine WL.store (v := (Value.agg #[(Value.int .u64 x.id), (Value.int .i64 x.owner), (Value.int .u64 x.epoch), (Value.int .u64 x.till), (Value.bool x.cursor)])) (cs := [(Value.int .u64 x.id), (Value.int .i64 x.owner), (Value.int .u64 x.epoch), (Value.int .u64 x.till), (Value.bool x.cursor)]) (c' := #[(Value.int .u64 x.id), (Value.int .i64 x.owner), (Value.int .u64 x.epoch), (Value.int .u64 x.till), (Value.bool x.cursor)]) M 0 rfl rfl Try.el88.sized rfl rfl rfl rfl (Nat.le_of_ble_eq_true rfl) (cel_cons rfl (cel_cons rfl (cel_cons rfl (cel_cons rfl (cel_cons rfl cel_nil))))) rfl rfl (fun w5 M => ?_)
  refine WL.nil ?_
  refine W.ret ?_
  refine ⟨.inl rfl, (Value.agg #[(Value.int .u64 x.id), (Value.int .i64 x.owner), (Value.int .u64 x.epoch), (Value.int .u64 x.till), (Value.bool x.cursor)]), ?_, ?_⟩
  · exact ⟨rfl, (Res.r1 (RV.cellN Try.ag88 rfl (M.blk 0 rfl) rfl))⟩
  refine ⟨?_, M.close [] rfl (by decide) trivial⟩
  rfl

theorem law_same0 {G : Nat → Prop} {w : World} (u : Value) (rs : List Lease)   (M : Mem G (fun _ => False) w [] [SlAt 5 u rs.length (rs.flatMap leaseE)] w) : Rets Try.prog 96 #[(Value.slice none 0 0), u] w fun r w' => r = (Value.bool (decide (([] : List Lease) = rs))) ∧ Mem G (fun _ => False) w [] [] w' := by
  refine Rets.enter 31 _ Try.func96 rfl Try.ntmps96 Try.results96 (by simp) ?_
  have hle1 := SlAt.le' (M.rep 0 rfl)
  have sl2 : IsSl u := SlAt.isSl (Mem.rep M 0 rfl)
  refine W.seq' ?_
  refine W.region rfl ?_
  refine WL.step (v := (Value.bool false)) rfl (Step.assign rfl) ?_
  refine WL.nil ?_
  refine W.seq' ?_
  refine W.seq' ?_
  refine W.region rfl ?_
  refine WL.step (v := (Value.slice none 0 0)) rfl (Step.move rfl) ?_
  refine WL.step (v := (Value.int .i64 0)) rfl (Step.lenS Try.un100 rfl rfl) ?_
  refine WL.step (v := u) rfl (Step.move rfl) ?_
  refine WL.step (v := (Value.int .i64 ↑rs.length)) rfl (Step.lenSl Try.un78 rfl (M.rep 0 rfl)) ?_
  refine WL.step (v := (Value.bool ((0 : Int) != (↑rs.length : Int)))) rfl (Step.pure (by kernel_rfl)) ?_
  refine WL.nil ?_
  refine W.cond (t := (0 : Int) != (↑rs.length : Int)) rfl (fun h3 => ?_) (fun h3 => ?_)
  ·
    have h3p : ¬ (0 : Int) = (↑rs.length : Int) := by simpa using h3
    refine W.seq' ?_
    refine W.region rfl ?_
    refine WL.step (v := (Value.bool false)) rfl (Step.assign rfl) ?_
    refine WL.nil ?_
    refine W.ret ?_
    refine ⟨.inl rfl, (Value.bool false), ?_, ?_⟩
    · exact ⟨rfl, (Res.r1 (show RV _ _ _ (.tmp 4) (Value.bool false) from by exact rfl))⟩
    refine ⟨?_, M.close [] rfl (by decide) trivial⟩
    refine congrArg Value.bool (Eq.symm ?_)
    exact same_len (l := []) (r := rs) (by simp; omega)
  ·
    have h3p : (0 : Int) = (↑rs.length : Int) := by simpa using h3
    refine W.skip ?_
    refine W.seq' ?_
    refine W.seq' ?_
    refine W.region rfl ?_
    refine WL.step (v := (Value.int .i64 0)) rfl (Step.assign rfl) ?_
    refine WL.nil ?_
    refine W.block ?_
    refine W.loop (fun kk ρ w' => ((True) ∧ kk = 0) ∧ ρ.has [(0, (Value.slice none 0 0)), (1, u), (5, (Value.int .i64 0))] ∧ Mem G (fun _ => False) w [] [SlAt 5 u rs.length (rs.flatMap leaseE)]  w') _ ⟨⟨trivial, rfl⟩, ⟨rfl, rfl, rfl, rfl, rfl⟩, M⟩ ?_
    rintro _ ρ5 w4 ⟨⟨hi6, rfl⟩, hρ, M⟩
    obtain ⟨ρ5, rfl⟩ := hρ.know
    clear hρ
    refine W.seq' ?_
    refine W.seq' ?_
    refine W.region rfl ?_
    refine WL.step (v := (Value.int .i64 0)) rfl (Step.move rfl) ?_
    refine WL.step (v := (Value.slice none 0 0)) rfl (Step.move rfl) ?_
    refine WL.step (v := (Value.int .i64 0)) rfl (Step.lenS Try.un100 rfl rfl) ?_
    refine WL.step (v := (Value.bool false)) rfl (Step.pure (by kernel_rfl)) ?_
    refine WL.nil ?_
    refine W.cond (t := false) rfl (fun h => by cases h) (fun _ => ?_)
    refine W.exit ?_
    refine thn_exit ?_
    refine thn_exit ?_
    refine inBlk_hit ?_
    refine W.seq' ?_
    refine W.region rfl ?_
    refine WL.step (v := (Value.bool true)) rfl (Step.assign rfl) ?_
    refine WL.nil ?_
    refine W.ret ?_
    refine ⟨.inl rfl, (Value.bool true), ?_, ?_⟩
    · exact ⟨rfl, (Res.r1 (show RV _ _ _ (.tmp 4) (Value.bool true) from by exact rfl))⟩
    refine ⟨?_, M.close [] rfl (by decide) trivial⟩
    refine congrArg Value.bool (Eq.symm ?_)
    have hz := List.length_eq_zero_iff.1 (show rs.length = 0 by omega)
    subst hz; rfl

theorem law_same {G X : Nat → Prop} {w : World} (v : Value) (l : List Lease) (u : Value) (rs : List Lease)   (M : Mem G X w [own 85 5 v l.length (l.flatMap leaseE)] [SlAt 5 u rs.length (rs.flatMap leaseE)] w) : Rets Try.prog 96 #[v, u] w fun r w' => r = (Value.bool (decide (l = rs))) ∧ Mem G X w [] [] w' := by
  refine Rets.enter 31 _ Try.func96 rfl Try.ntmps96 Try.results96 (by simp) ?_
  have hle1 := SlAt.le' (M.rep 0 rfl)
  have sl2 : IsSl u := SlAt.isSl (Mem.rep M 0 rfl)
  have sl3 : IsSl v := SlAt.isSl (own_slAt (Mem.chunk M 0 rfl).inv)
  have hle4 := SlAt.le' (own_slAt (Mem.chunk M 0 rfl).inv)
  refine W.seq' ?_
  refine W.region rfl ?_
  refine WL.step (v := (Value.bool false)) rfl (Step.assign rfl) ?_
  refine WL.nil ?_
  refine W.seq' ?_
  refine W.seq' ?_
  refine W.region rfl ?_
  refine WL.step (v := v) rfl (Step.move rfl) ?_
  refine WL.step (v := (Value.int .i64 ↑l.length)) rfl (Step.lenSl Try.un100 rfl (own_slAt (M.chunk 0 rfl).inv)) ?_
  refine WL.step (v := u) rfl (Step.move rfl) ?_
  refine WL.step (v := (Value.int .i64 ↑rs.length)) rfl (Step.lenSl Try.un78 rfl (M.rep 0 rfl)) ?_
  refine WL.step (v := (Value.bool ((↑l.length : Int) != (↑rs.length : Int)))) rfl (Step.pure (by kernel_rfl)) ?_
  refine WL.nil ?_
  refine W.cond (t := (↑l.length : Int) != (↑rs.length : Int)) rfl (fun h5 => ?_) (fun h5 => ?_)
  ·
    have h5p : ¬ (↑l.length : Int) = (↑rs.length : Int) := by simpa using h5
    refine W.seq' ?_
    refine W.region rfl ?_
    refine WL.step (v := (Value.bool false)) rfl (Step.assign rfl) ?_
    refine WL.nil ?_
    refine W.ret ?_
    refine ⟨.inl rfl, (Value.bool false), ?_, ?_⟩
    · exact ⟨rfl, (Res.r1 (show RV _ _ _ (.tmp 4) (Value.bool false) from by exact rfl))⟩
    refine ⟨?_, M.close [] rfl (by decide) trivial⟩
    refine congrArg Value.bool (Eq.symm ?_)
    exact same_len (l := l) (r := rs) (by omega)
  ·
    have h5p : (↑l.length : Int) = (↑rs.length : Int) := by simpa using h5
    refine W.skip ?_
    refine W.seq' ?_
    refine W.seq' ?_
    refine W.region rfl ?_
    refine WL.step (v := (Value.int .i64 0)) rfl (Step.assign rfl) ?_
    refine WL.nil ?_
    refine W.block ?_
    refine W.loop (fun kk ρ w' => ∃ (i_ : Nat) (zs_ : List Lease), ((zs_.length = l.length) ∧ (i_ ≤ l.length) ∧ (l.take i_ = rs.take i_) ∧ (zs_.drop i_ = l.drop i_) ∧ kk = l.length - i_) ∧ ρ.has [(0, v), (1, u), (5, (Value.int .i64 ↑i_))] ∧ Mem G X w [own 85 5 v zs_.length (zs_.flatMap leaseE)] [SlAt 5 u rs.length (rs.flatMap leaseE)]  w') _ ⟨0, l, ⟨rfl, (Nat.zero_le _), rfl, rfl, rfl⟩, ⟨rfl, rfl, rfl, rfl, rfl⟩, M⟩ ?_
    rintro _ ρ7 w6 ⟨i_, zs_, ⟨hi8, hi9, hi10, hi11, rfl⟩, hρ, M⟩
    obtain ⟨ρ7, rfl⟩ := hρ.know
    clear hρ
    have hzl_ := hi8
    refine W.seq' ?_
    refine W.seq' ?_
    refine W.region rfl ?_
    refine WL.step (v := (Value.int .i64 ↑i_)) rfl (Step.move rfl) ?_
    refine WL.step (v := v) rfl (Step.move rfl) ?_
    refine WL.step (v := (Value.int .i64 ↑zs_.length)) rfl (Step.lenSl Try.un100 rfl (own_slAt (M.chunk 0 rfl).inv)) ?_
    refine WL.step (v := (Value.bool (decide ((↑i_ : Int) < (↑zs_.length : Int))))) rfl (Step.pure (by kernel_rfl)) ?_
    refine WL.nil ?_
    refine W.cond (t := decide ((↑i_ : Int) < (↑zs_.length : Int))) rfl (fun h12 => ?_) (fun h12 => ?_)
    ·
      have h12p := of_decide_eq_true h12
      refine W.skip ?_
      refine W.seq' ?_
      refine W.block ?_
      refine W.seq' ?_
      refine W.seq' ?_
      obtain ⟨cap14, hb13⟩ := SlAt.base (own_slAt (M.chunk 0 rfl).inv) (by omega)
      obtain ⟨x15, hx15⟩ := elem_of_lt (xs := zs_) (i := i_) (by omega)
      obtain ⟨cap17, hb16⟩ := SlAt.base (M.rep 0 rfl) (by omega)
      obtain ⟨x18, hx18⟩ := elem_of_lt (xs := rs) (i := i_) (by omega)
      refine W.drawn M [0, 1, 2, 3, 4, 5, 6, 7, 8, 9] [4] [] [own 85 5 v zs_.length (zs_.flatMap leaseE)] [SlAt 5 u rs.length (rs.flatMap leaseE)] (List.Sublist.cons_cons _ List.Sublist.slnil) (fun _ h => h) Try.mixed (by kernel_rfl) ?_
      refine TW.pure (v := v) rfl (by decide) (by decide) rfl (fun w => (Step.move rfl)) ?_
      refine TW.pure (v := (Value.int .i64 ↑i_)) rfl (by decide) (by decide) rfl (fun w => (Step.move rfl)) ?_
      refine TW.pure (v := (Value.pointer (some ⟨(sBlk v), sOff v + i_ * 5, none⟩))) rfl (by decide) (by decide) rfl (fun w => (Step.indexAddr (i := i_) (Try.un100).run Try.el85.sized rfl rfl (by omega) hb13 (by omega))) ?_
      refine TW.read (v := (Value.agg #[(Value.int .u64 x15.id), (Value.int .i64 x15.owner), (Value.int .u64 x15.epoch), (Value.int .u64 x15.till), (Value.bool x15.cursor)])) rfl (by decide) (by decide) rfl (fun A w M => (Step.loadEN (k := 0) (cs' := [(Value.int .u64 x15.id), (Value.int .i64 x15.owner), (Value.int .u64 x15.epoch), (Value.int .u64 x15.till), (Value.bool x15.cursor)]) Try.ag85 (flat_ec (own_slAt (M.chunk 1 rfl).inv) hx15 leaseE_len) (by decide) rfl rfl rfl)) ?_
      refine TW.callX (ι := Unit) (fun jx v_ => v_ = (Value.agg #[(Value.int .u64 x15.id), (Value.int .i64 x15.owner), (Value.int .u64 x15.epoch), (Value.int .u64 x15.till), (Value.bool x15.cursor)])) (fun jx => [own 85 5 v zs_.length (zs_.flatMap leaseE)]) (fun jx => [SlAt 5 u rs.length (rs.flatMap leaseE)]) rfl (by decide) rfl (fun jx => (List.Sublist.cons_cons _ List.Sublist.slnil)) (fun jx r h => h) (fun A w M => Rets.mono (law_ref x15 (M.enterW0 trivial)) (fun v_ w_ ⟨e_, m⟩ => ⟨(), e_, (M.leaveW0 m).sel (L' := [fl A, own 85 5 v zs_.length (zs_.flatMap leaseE)]) [0, 1] rfl (by decide), fun b hb => M.keptW0 m (fl A) (List.mem_cons_self ..) b hb⟩)) (fun w => CallsF.func Try.en95 rfl) (fun jx v hp hin => ?_)
      replace hp := hp.symm; subst hp
      clear hin
      change TW _ _ _ _ _ _ _ _ (MemA _ _ _ [own 85 5 v zs_.length (zs_.flatMap leaseE)] [SlAt 5 u rs.length (rs.flatMap leaseE)])
      refine TW.pure (v := u) rfl (by decide) (by decide) rfl (fun w => (Step.move rfl)) ?_
      refine TW.pure (v := (Value.int .i64 ↑i_)) rfl (by decide) (by decide) rfl (fun w => (Step.move rfl)) ?_
      refine TW.pure (v := (Value.pointer (some ⟨(sBlk u), sOff u + i_ * 5, none⟩))) rfl (by decide) (by decide) rfl (fun w => (Step.indexAddr (i := i_) (Try.un78).run Try.el88.sized rfl rfl (by omega) hb16 (by omega))) ?_
      refine TW.read (v := (Value.agg #[(Value.int .u64 x18.id), (Value.int .i64 x18.owner), (Value.int .u64 x18.epoch), (Value.int .u64 x18.till), (Value.bool x18.cursor)])) rfl (by decide) (by decide) rfl (fun A w M => (Step.loadEN (k := 0) (cs' := [(Value.int .u64 x18.id), (Value.int .i64 x18.owner), (Value.int .u64 x18.epoch), (Value.int .u64 x18.till), (Value.bool x18.cursor)]) Try.ag88 (flat_ec (M.rep 0 rfl) hx18 leaseE_len) (by decide) rfl rfl rfl)) ?_
      refine TW.pure (v := (Value.bool (!decide (x15 = x18)))) rfl (by decide) (by decide) rfl (fun w => (Step.cast (congrArg (fun z => Value.bool (!z)) (lease_eqB x15 x18)) (Step.neqAgg Try.eg88 rfl rfl rfl (Try.eq88 9998 (x15.id : Int) (x15.owner : Int) (x15.epoch : Int) (x15.till : Int) x15.cursor (x18.id : Int) (x18.owner : Int) (x18.epoch : Int) (x18.till : Int) x18.cursor)))) ?_
      refine TW.done (fun w19 M => ?_)
      refine W.cond (t := !decide (x15 = x18)) rfl (fun h20 => ?_) (fun h20 => ?_)
      ·
        refine W.seq' ?_
        refine W.region rfl ?_
        refine WL.step (v := (Value.bool false)) rfl (Step.assign rfl) ?_
        refine WL.nil ?_
        refine W.ret ?_
        refine ⟨.inl rfl, (Value.bool false), ?_, ?_⟩
        · exact ⟨rfl, (Res.r1 (show RV _ _ _ (.tmp 4) (Value.bool false) from by exact rfl))⟩
        refine ⟨?_, M.close [] rfl (by decide) trivial⟩
        refine congrArg Value.bool (Eq.symm ?_)
        exact same_no (wipe_at hi11 hx15) hx18 (by simpa using h20)
      ·
        refine W.skip ?_
        refine W.region rfl ?_
        refine WL.step (v := v) rfl (Step.move rfl) ?_
        refine WL.step (v := (Value.int .i64 ↑i_)) rfl (Step.move rfl) ?_
        refine WL.step (v := (Value.agg #[(Value.int .u64 0), (Value.int .i64 0), (Value.int .u64 0), (Value.int .u64 0), (Value.bool false)])) rfl (Step.pure (by kernel_rfl)) ?_
        refine WL.step (v := (Value.pointer (some ⟨(sBlk v), sOff v + i_ * 5, none⟩))) rfl (Step.indexAddr (i := i_) (Try.un100).run Try.el85.sized rfl rfl (by omega) hb13 (by omega)) ?_
        obtain ⟨pre21, post22, hcs23, hpre24, hback25⟩ := flat_open leaseE_len hx15
        replace M := M.rechunk 0 (c' := own 85 5 v zs_.length (pre21 ++ ([(Value.int .u64 x15.id), (Value.int .i64 x15.owner), (Value.int .u64 x15.epoch), (Value.int .u64 x15.till), (Value.bool x15.cursor)] ++ post22))) rfl (by rw [hcs23]; rfl)
        replace M : Mem _ _ _ [own 85 5 v zs_.length (pre21 ++ ([(Value.int .u64 x15.id), (Value.int .i64 x15.owner), (Value.int .u64 x15.epoch), (Value.int .u64 x15.till), (Value.bool x15.cursor)] ++ post22))] [SlAt 5 u rs.length (rs.flatMap leaseE)] _ := M
        refine WL.act rfl (M.storeAt (cells := [(Value.int .u64 x15.id), (Value.int .i64 x15.owner), (Value.int .u64 x15.epoch), (Value.int .u64 x15.till), (Value.bool x15.cursor)]) (cells' := [(Value.int .u64 0), (Value.int .i64 0), (Value.int .u64 0), (Value.int .u64 0), (Value.bool false)]) (new := [(Value.int .u64 0), (Value.int .i64 0), (Value.int .u64 0), (Value.int .u64 0), (Value.bool false)]) (k := 0) 0 rfl hpre24 Try.el85.sized rfl rfl rfl (cel_cons rfl (cel_cons rfl (cel_cons rfl (cel_cons rfl (cel_cons rfl cel_nil))))) (by first | omega | (simp only [List.length_set, List.length_append, List.length_cons, List.length_nil]; omega)) (Nat.le_of_ble_eq_true rfl) rfl rfl) ?_
        rintro w26 ⟨M, -⟩
        replace M : Mem _ _ _ [own 85 5 v zs_.length (pre21 ++ ([(Value.int .u64 0), (Value.int .i64 0), (Value.int .u64 0), (Value.int .u64 0), (Value.bool false)] ++ post22))] [SlAt 5 u rs.length (rs.flatMap leaseE)] _ := M
        refine WL.nil ?_
        refine W.region rfl ?_
        refine WL.step (v := (Value.int .i64 ↑i_)) rfl (Step.move rfl) ?_
        refine WL.step (v := (Value.int .i64 (↑i_ + 1))) rfl (Step.add rfl rfl (wrap_i64 (by omega))) ?_
        refine WL.step (v := (Value.int .i64 (↑i_ + 1))) rfl (Step.assign rfl) ?_
        refine WL.nil ?_
        replace M := M.rechunk 0 (c' := own 85 5 v (zs_.length) ((zs_.set i_ (⟨0, 0, 0, 0, false⟩ : Lease)).flatMap leaseE)) rfl (by rw [← hback25]; rfl)
        replace M := M.rechunk 0 (c' := own 85 5 v ((zs_.set i_ (⟨0, 0, 0, 0, false⟩ : Lease)).length) ((zs_.set i_ (⟨0, 0, 0, 0, false⟩ : Lease)).flatMap leaseE)) rfl (by rw [List.length_set])
        replace M : Mem _ _ _ [own 85 5 v ((zs_.set i_ (⟨0, 0, 0, 0, false⟩ : Lease)).length) ((zs_.set i_ (⟨0, 0, 0, 0, false⟩ : Lease)).flatMap leaseE)] [SlAt 5 u rs.length (rs.flatMap leaseE)] _ := M
        exact ⟨_, (by omega), i_ + 1, zs_.set i_ (⟨0, 0, 0, 0, false⟩ : Lease), ⟨(by rw [List.length_set]; assumption), (by omega), (same_step hi10 (wipe_at hi11 hx15) hx18 (by simpa using h20)), (wipe_step hi11), rfl⟩, ⟨rfl, rfl, rfl, rfl, rfl⟩, M⟩
    ·
      have h12p := of_decide_eq_false h12
      refine W.exit ?_
      refine thn_exit ?_
      refine thn_exit ?_
      refine inBlk_hit ?_
      refine W.seq' ?_
      refine W.region rfl ?_
      refine WL.step (v := (Value.bool true)) rfl (Step.assign rfl) ?_
      refine WL.nil ?_
      refine W.ret ?_
      refine ⟨.inl rfl, (Value.bool true), ?_, ?_⟩
      · exact ⟨rfl, (Res.r1 (show RV _ _ _ (.tmp 4) (Value.bool true) from by exact rfl))⟩
      refine ⟨?_, M.close [] rfl (by decide) trivial⟩
      refine congrArg Value.bool (Eq.symm ?_)
      exact same_yes hi10 (by omega) (by omega)
end Go.Proofs
