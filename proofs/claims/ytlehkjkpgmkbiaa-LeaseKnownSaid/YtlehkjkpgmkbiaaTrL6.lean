/- Walks. -/
import Derived.Test.YtlehkjkpgmkbiaaTrL5
import Derived.Test.YtlehkjkpgmkbiaaTrLease2
set_option maxRecDepth 100000
set_option linter.all false
namespace Go.Proofs
open Go Tp
theorem Try.un78 : Und Try.prog 78 (.slice 88) := by unfold Und; kernel_rfl
theorem Try.ag80 : Aggr Try.prog 80 3 := ⟨fun _ => by kernel_rfl, fun _ => by kernel_rfl⟩
theorem Try.ag88 : Aggr Try.prog 88 5 := ⟨fun _ => by kernel_rfl, fun _ => by kernel_rfl⟩
theorem Try.el78 : Elem Try.prog 78 (Value.slice none 0 0) 1 24 := Elem.mk (by kernel_rfl)
theorem Try.el80 : Elem Try.prog 80 (Value.agg #[(Value.slice none 0 0), (Value.int .i64 0), (Value.int .u64 0)]) 3 40 := Elem.mk (by kernel_rfl)
theorem Try.el88 : Elem Try.prog 88 (Value.agg #[(Value.int .u64 0), (Value.int .i64 0), (Value.int .u64 0), (Value.int .u64 0), (Value.bool false)]) 5 40 := Elem.mk (by kernel_rfl)
theorem Try.sc78 : Scal Try.prog 78 := fun _ => by kernel_rfl

theorem ref_new {G : Nat → Prop} {w : World} (most : Int)   (M : Mem G (fun _ => False) w [] [] w) : Rets Try.prog 43 #[(Value.int .i64 most)] w fun r w' => r = (Value.agg #[(Value.slice none 0 0), (Value.int .i64 (max (0 : Int) (most : Int))), (Value.int .u64 0)]) ∧ Mem G (fun _ => False) w [] [] w' := by
  refine Rets.enter 6 _ Try.func43 rfl Try.ntmps43 Try.results43 (by simp) ?_
  refine W.seq' ?_
  refine W.region rfl ?_
  refine WL.alloc (c := #[(Value.slice none 0 0), (Value.int .i64 0), (Value.int .u64 0)]) M rfl Try.el80.zero rfl (fun b1 w2 hb1 M => ?_)
  refine WL.nil ?_
  refine W.seq' ?_
  refine W.region rfl ?_
  refine WL.step (v := (Value.int .i64 most)) rfl (Step.move rfl) ?_
  refine WL.step (v := (Value.int .i64 (max (0 : Int) (most : Int)))) rfl (Step.maxI rfl rfl) ?_
  refine WL.step (v := (Value.agg #[(Value.slice none 0 0), (Value.int .i64 (max (0 : Int) (most : Int))), (Value.int .u64 0)])) rfl (Step.pure (by kernel_rfl)) ?_
  refine WL.store (v := (Value.agg #[(Value.slice none 0 0), (Value.int .i64 (max (0 : Int) (most : Int))), (Value.int .u64 0)])) (cs := [(Value.slice none 0 0), (Value.int .i64 (max (0 : Int) (most : Int))), (Value.int .u64 0)]) (c' := #[(Value.slice none 0 0), (Value.int .i64 (max (0 : Int) (most : Int))), (Value.int .u64 0)]) M 0 rfl rfl Try.el80.sized rfl rfl rfl rfl (Nat.le_of_ble_eq_true rfl) (cel_cons rfl (cel_cons rfl (cel_cons rfl cel_nil))) rfl rfl (fun w3 M => ?_)
  refine WL.nil ?_
  refine W.ret ?_
  refine ⟨.inl rfl, (Value.agg #[(Value.slice none 0 0), (Value.int .i64 (max (0 : Int) (most : Int))), (Value.int .u64 0)]), ?_, ?_⟩
  · exact ⟨rfl, (Res.r1 (RV.cellN Try.ag80 rfl (M.blk 0 rfl) rfl))⟩
  refine ⟨?_, M.close [] rfl (by decide) trivial⟩
  rfl

theorem ref_get {G : Nat → Prop} {w : World} (v : Value) (xs : List Lease) (most : Int) (last : Int) (o : Int) (i : Int) (c : Bool)   (M : Mem G (fun _ => False) w [] [SlAt 5 v xs.length (xs.flatMap leaseE)] w) : Rets Try.prog 90 #[(Value.agg #[v, (Value.int .i64 most), (Value.int .u64 last)]), (Value.int .i64 o), (Value.int .u64 i), (Value.bool c)] w fun r w' => r = (Value.tuple #[(Value.agg #[(Value.int .u64 (((getV xs o i c).1).id)), (Value.int .i64 (((getV xs o i c).1).owner)), (Value.int .u64 (((getV xs o i c).1).epoch)), (Value.int .u64 (((getV xs o i c).1).till)), (Value.bool (((getV xs o i c).1).cursor))]), (Value.int .i64 ((getV xs o i c).2))]) ∧ Mem G (fun _ => False) w [] [] w' := by
  refine Rets.enter 54 _ Try.func90 rfl Try.ntmps90 Try.results90 (by simp) ?_
  have hle1 := SlAt.le' (M.rep 0 rfl)
  have sl2 : IsSl v := SlAt.isSl (Mem.rep M 0 rfl)
  refine W.seq' ?_
  refine W.region rfl ?_
  refine WL.box (v := (Value.agg #[v, (Value.int .i64 most), (Value.int .u64 last)])) (c := #[v, (Value.int .i64 most), (Value.int .u64 last)]) M rfl rfl rfl (fun b3 w4 hb3 M => ?_)
  refine WL.alloc (c := #[(Value.int .u64 0), (Value.int .i64 0), (Value.int .u64 0), (Value.int .u64 0), (Value.bool false)]) M rfl Try.el88.zero rfl (fun b5 w6 hb5 M => ?_)
  refine WL.step (v := (Value.int .i64 0)) rfl (Step.assign rfl) ?_
  refine WL.nil ?_
  refine W.seq' ?_
  refine W.seq' ?_
  refine W.region rfl ?_
  refine WL.step (v := (Value.int .i64 0)) rfl (Step.assign rfl) ?_
  refine WL.nil ?_
  refine W.block ?_
  refine W.loop (fun kk ρ w' => ∃ (k_ : Nat), ((k_ ≤ xs.length) ∧ (∀ (j : Nat) (u : Lease), j < k_ → xs[j]? = some u → isL o i c u = false) ∧ kk = xs.length - k_) ∧ ρ.has [(1, (Value.int .i64 o)), (2, (Value.int .u64 i)), (3, (Value.bool c)), (4, (Value.pointer (some ⟨b3, 0, none⟩))), (8, (Value.pointer (some ⟨b5, 0, none⟩))), (10, (Value.int .i64 ↑k_))] ∧ Mem G (fun _ => False) w [blk b5 (.cells #[(Value.int .u64 0), (Value.int .i64 0), (Value.int .u64 0), (Value.int .u64 0), (Value.bool false)] 88), blk b3 (.cells #[v, (Value.int .i64 most), (Value.int .u64 last)] 80)] [SlAt 5 v xs.length (xs.flatMap leaseE)]  w') _ ⟨0, ⟨(Nat.zero_le _), (fun _ _ h => absurd h (Nat.not_lt_zero _)), rfl⟩, ⟨rfl, rfl, rfl, rfl, rfl, rfl, rfl, rfl⟩, M⟩ ?_
  rintro _ ρ8 w7 ⟨k_, ⟨hi9, hi10, rfl⟩, hρ, M⟩
  obtain ⟨ρ8, rfl⟩ := hρ.know
  clear hρ
  refine W.seq' ?_
  refine W.seq' ?_
  refine W.region rfl ?_
  refine WL.step (v := (Value.int .i64 ↑k_)) rfl (Step.move rfl) ?_
  refine WL.step (v := (Value.pointer (some ⟨b3, 0, none⟩))) rfl (Step.pure (by kernel_rfl)) ?_
  refine WL.step (v := v) rfl (Step.load1 Try.sc78 rfl ((M.cell 1 rfl 0).trans rfl)) ?_
  refine WL.step (v := (Value.int .i64 ↑xs.length)) rfl (Step.lenSl Try.un78 rfl (M.rep 0 rfl)) ?_
  refine WL.step (v := (Value.bool (decide ((↑k_ : Int) < (↑xs.length : Int))))) rfl (Step.pure (by kernel_rfl)) ?_
  refine WL.nil ?_
  refine W.cond (t := decide ((↑k_ : Int) < (↑xs.length : Int))) rfl (fun h11 => ?_) (fun h11 => ?_)
  ·
    have h11p := of_decide_eq_true h11
    refine W.skip ?_
    refine W.seq' ?_
    refine W.block ?_
    refine W.seq' ?_
    refine W.region rfl ?_
    refine WL.step (v := (Value.pointer (some ⟨b3, 0, none⟩))) rfl (Step.pure (by kernel_rfl)) ?_
    refine WL.step (v := v) rfl (Step.load1 Try.sc78 rfl ((M.cell 1 rfl 0).trans rfl)) ?_
    refine WL.step (v := (Value.int .i64 ↑k_)) rfl (Step.move rfl) ?_
    obtain ⟨cap13, hb12⟩ := SlAt.base (M.rep 0 rfl) (by omega)
    obtain ⟨x14, hx14⟩ := elem_of_lt (xs := xs) (i := k_) (by omega)
    refine WL.step (v := (Value.pointer (some ⟨(sBlk v), sOff v + k_ * 5, none⟩))) rfl (Step.indexAddr (i := k_) (Try.un78).run Try.el88.sized rfl rfl (by omega) hb12 (by omega)) ?_
    refine WL.step (v := (Value.pointer (some ⟨(sBlk v), sOff v + k_ * 5, none⟩))) rfl (Step.pure (by kernel_rfl)) ?_
    refine WL.step (v := (Value.int .u64 x14.id)) rfl (Step.loadE (k := 0) Try.sc23 (flat_ec (M.rep 0 rfl) hx14 leaseE_len) (by decide) rfl rfl) ?_
    refine WL.step (v := (Value.int .u64 i)) rfl (Step.move rfl) ?_
    refine WL.step (v := (Value.bool ((x14.id : Int) == (i : Int)))) rfl (Step.pure (by kernel_rfl)) ?_
    refine WL.step (v := (Value.bool ((x14.id : Int) == (i : Int)))) rfl (Step.move rfl) ?_
    rcases Bool.eq_false_or_eq_true ((x14.id : Int) == (i : Int)) with h15 | h15
    ·
      have h15p : (x14.id : Int) = (i : Int) := by simpa using h15
      rw [h15]
      refine WL.step (v := (Value.pointer (some ⟨b3, 0, none⟩))) rfl (Step.pure (by kernel_rfl)) ?_
      refine WL.step (v := v) rfl (Step.load1 Try.sc78 rfl ((M.cell 1 rfl 0).trans rfl)) ?_
      refine WL.step (v := (Value.int .i64 ↑k_)) rfl (Step.move rfl) ?_
      refine WL.step (v := (Value.pointer (some ⟨(sBlk v), sOff v + k_ * 5, none⟩))) rfl (Step.indexAddr (i := k_) (Try.un78).run Try.el88.sized rfl rfl (by omega) hb12 (by omega)) ?_
      refine WL.step (v := (Value.pointer (some ⟨(sBlk v), sOff v + k_ * 5 + 1, none⟩))) rfl (Step.pure (by kernel_rfl)) ?_
      refine WL.step (v := (Value.int .i64 x14.owner)) rfl (Step.loadE (k := 1) Try.sc3 (flat_ec (M.rep 0 rfl) hx14 leaseE_len) (by decide) rfl rfl) ?_
      refine WL.step (v := (Value.int .i64 o)) rfl (Step.move rfl) ?_
      refine WL.step (v := (Value.bool ((x14.owner : Int) == (o : Int)))) rfl (Step.pure (by kernel_rfl)) ?_
      refine WL.step (v := (Value.bool ((x14.owner : Int) == (o : Int)))) rfl (Step.pick (t := true) rfl rfl) ?_
      refine WL.step (v := (Value.bool ((x14.owner : Int) == (o : Int)))) rfl (Step.move rfl) ?_
      rcases Bool.eq_false_or_eq_true ((x14.owner : Int) == (o : Int)) with h16 | h16
      ·
        have h16p : (x14.owner : Int) = (o : Int) := by simpa using h16
        rw [h16]
        refine WL.step (v := (Value.pointer (some ⟨b3, 0, none⟩))) rfl (Step.pure (by kernel_rfl)) ?_
        refine WL.step (v := v) rfl (Step.load1 Try.sc78 rfl ((M.cell 1 rfl 0).trans rfl)) ?_
        refine WL.step (v := (Value.int .i64 ↑k_)) rfl (Step.move rfl) ?_
        refine WL.step (v := (Value.pointer (some ⟨(sBlk v), sOff v + k_ * 5, none⟩))) rfl (Step.indexAddr (i := k_) (Try.un78).run Try.el88.sized rfl rfl (by omega) hb12 (by omega)) ?_
        refine WL.step (v := (Value.pointer (some ⟨(sBlk v), sOff v + k_ * 5 + 4, none⟩))) rfl (Step.pure (by kernel_rfl)) ?_
        refine WL.step (v := (Value.bool x14.cursor)) rfl (Step.loadE (k := 4) Try.sc4 (flat_ec (M.rep 0 rfl) hx14 leaseE_len) (by decide) rfl rfl) ?_
        refine WL.step (v := (Value.bool c)) rfl (Step.move rfl) ?_
        refine WL.step (v := (Value.bool (x14.cursor == c))) rfl (Step.pure (by kernel_rfl)) ?_
        refine WL.step (v := (Value.bool (x14.cursor == c))) rfl (Step.pick (t := true) rfl rfl) ?_
        refine WL.nil ?_
        refine W.cond (t := x14.cursor == c) rfl (fun h17 => ?_) (fun h17 => ?_)
        ·
          refine W.seq' ?_
          refine W.region rfl ?_
          refine WL.step (v := (Value.pointer (some ⟨b3, 0, none⟩))) rfl (Step.pure (by kernel_rfl)) ?_
          refine WL.step (v := v) rfl (Step.load1 Try.sc78 rfl ((M.cell 1 rfl 0).trans rfl)) ?_
          refine WL.step (v := (Value.int .i64 ↑k_)) rfl (Step.move rfl) ?_
          refine WL.step (v := (Value.pointer (some ⟨(sBlk v), sOff v + k_ * 5, none⟩))) rfl (Step.indexAddr (i := k_) (Try.un78).run Try.el88.sized rfl rfl (by omega) hb12 (by omega)) ?_
          refine WL.step (v := (Value.agg #[(Value.int .u64 x14.id), (Value.int .i64 x14.owner), (Value.int .u64 x14.epoch), (Value.int .u64 x14.till), (Value.bool x14.cursor)])) rfl (Step.loadEN (k := 0) (cs' := [(Value.int .u64 x14.id), (Value.int .i64 x14.owner), (Value.int .u64 x14.epoch), (Value.int .u64 x14.till), (Value.bool x14.cursor)]) Try.ag88 (flat_ec (M.rep 0 rfl) hx14 leaseE_len) (by decide) rfl rfl rfl) ?_
          refine WL.store (v := (Value.agg #[(Value.int .u64 x14.id), (Value.int .i64 x14.owner), (Value.int .u64 x14.epoch), (Value.int .u64 x14.till), (Value.bool x14.cursor)])) (cs := [(Value.int .u64 x14.id), (Value.int .i64 x14.owner), (Value.int .u64 x14.epoch), (Value.int .u64 x14.till), (Value.bool x14.cursor)]) (c' := #[(Value.int .u64 x14.id), (Value.int .i64 x14.owner), (Value.int .u64 x14.epoch), (Value.int .u64 x14.till), (Value.bool x14.cursor)]) M 0 rfl rfl Try.el88.sized rfl rfl rfl rfl (Nat.le_of_ble_eq_true rfl) (cel_cons rfl (cel_cons rfl (cel_cons rfl (cel_cons rfl (cel_cons rfl cel_nil))))) rfl rfl (fun w18 M => ?_)
          refine WL.step (v := (Value.int .i64 0)) rfl (Step.assign rfl) ?_
          refine WL.nil ?_
          refine W.ret ?_
          refine ⟨.inl rfl, (Value.tuple #[(Value.agg #[(Value.int .u64 x14.id), (Value.int .i64 x14.owner), (Value.int .u64 x14.epoch), (Value.int .u64 x14.till), (Value.bool x14.cursor)]), (Value.int .i64 0)]), ?_, ?_⟩
          · exact ⟨rfl, (Res.r2 (RV.cellN Try.ag88 rfl (M.blk 0 rfl) rfl) (show RV _ _ _ (.tmp 9) (Value.int .i64 0) from by exact rfl))⟩
          refine ⟨?_, M.close [] rfl (by decide) trivial⟩
          rw [get_hit hx14 (by simp [isL, h11p, hx14, h15p, h16p, h17]) hi10]
        ·
          refine W.skip ?_
          refine W.region rfl ?_
          refine WL.step (v := (Value.int .i64 ↑k_)) rfl (Step.move rfl) ?_
          refine WL.step (v := (Value.int .i64 (↑k_ + 1))) rfl (Step.add rfl rfl (wrap_i64 (by omega))) ?_
          refine WL.step (v := (Value.int .i64 (↑k_ + 1))) rfl (Step.assign rfl) ?_
          refine WL.nil ?_
          exact ⟨_, (by omega), k_ + 1, ⟨(by omega), (below_stepG hi10 hx14 (by simp [isL, h11p, hx14, h15p, h16p, h17])), rfl⟩, ⟨rfl, rfl, rfl, rfl, rfl, rfl, rfl, rfl⟩, M⟩
      ·
        have h16p : ¬ (x14.owner : Int) = (o : Int) := by simpa using h16
        rw [h16]
        refine WL.pass rfl ?_
        refine WL.pass rfl ?_
        refine WL.pass rfl ?_
        refine WL.pass rfl ?_
        refine WL.pass rfl ?_
        refine WL.pass rfl ?_
        refine WL.pass rfl ?_
        refine WL.pass rfl ?_
        refine WL.step (v := (Value.bool false)) rfl (Step.pick (t := false) rfl rfl) ?_
        refine WL.nil ?_
        refine W.cond (t := false) rfl (fun h => by cases h) (fun _ => ?_)
        refine W.skip ?_
        refine W.region rfl ?_
        refine WL.step (v := (Value.int .i64 ↑k_)) rfl (Step.move rfl) ?_
        refine WL.step (v := (Value.int .i64 (↑k_ + 1))) rfl (Step.add rfl rfl (wrap_i64 (by omega))) ?_
        refine WL.step (v := (Value.int .i64 (↑k_ + 1))) rfl (Step.assign rfl) ?_
        refine WL.nil ?_
        exact ⟨_, (by omega), k_ + 1, ⟨(by omega), (below_stepG hi10 hx14 (by simp [isL, h11p, hx14, h15p, h16p])), rfl⟩, ⟨rfl, rfl, rfl, rfl, rfl, rfl, rfl, rfl⟩, M⟩
    ·
      have h15p : ¬ (x14.id : Int) = (i : Int) := by simpa using h15
      rw [h15]
      refine WL.pass rfl ?_
      refine WL.pass rfl ?_
      refine WL.pass rfl ?_
      refine WL.pass rfl ?_
      refine WL.pass rfl ?_
      refine WL.pass rfl ?_
      refine WL.pass rfl ?_
      refine WL.pass rfl ?_
      refine WL.step (v := (Value.bool false)) rfl (Step.pick (t := false) rfl rfl) ?_
      refine WL.step (v := (Value.bool false)) rfl (Step.move rfl) ?_
      refine WL.pass rfl ?_
      refine WL.pass rfl ?_
      refine WL.pass rfl ?_
      refine WL.pass rfl ?_
      refine WL.pass rfl ?_
      refine WL.pass rfl ?_
      refine WL.pass rfl ?_
      refine WL.pass rfl ?_
      refine WL.step (v := (Value.bool false)) rfl (Step.pick (t := false) rfl rfl) ?_
      refine WL.nil ?_
      refine W.cond (t := false) rfl (fun h => by cases h) (fun _ => ?_)
      refine W.skip ?_
      refine W.region rfl ?_
      refine WL.step (v := (Value.int .i64 ↑k_)) rfl (Step.move rfl) ?_
      refine WL.step (v := (Value.int .i64 (↑k_ + 1))) rfl (Step.add rfl rfl (wrap_i64 (by omega))) ?_
      refine WL.step (v := (Value.int .i64 (↑k_ + 1))) rfl (Step.assign rfl) ?_
      refine WL.nil ?_
      exact ⟨_, (by omega), k_ + 1, ⟨(by omega), (below_stepG hi10 hx14 (by simp [isL, h11p, hx14, h15p])), rfl⟩, ⟨rfl, rfl, rfl, rfl, rfl, rfl, rfl, rfl⟩, M⟩
  ·
    have h11p := of_decide_eq_false h11
    refine W.exit ?_
    refine thn_exit ?_
    refine thn_exit ?_
    refine inBlk_hit ?_
    refine W.seq' ?_
    refine W.seq' ?_
    refine W.region rfl ?_
    refine WL.step (v := (Value.bool c)) rfl (Step.move rfl) ?_
    refine WL.nil ?_
    refine W.cond (t := c) rfl (fun h19 => ?_) (fun h19 => ?_)
    ·
      refine W.seq' ?_
      refine W.region rfl ?_
      refine WL.step (v := (Value.agg #[(Value.int .u64 0), (Value.int .i64 0), (Value.int .u64 0), (Value.int .u64 0), (Value.bool false)])) rfl (Step.pure (by kernel_rfl)) ?_
      refine WL.store (v := (Value.agg #[(Value.int .u64 0), (Value.int .i64 0), (Value.int .u64 0), (Value.int .u64 0), (Value.bool false)])) (cs := [(Value.int .u64 0), (Value.int .i64 0), (Value.int .u64 0), (Value.int .u64 0), (Value.bool false)]) (c' := #[(Value.int .u64 0), (Value.int .i64 0), (Value.int .u64 0), (Value.int .u64 0), (Value.bool false)]) M 0 rfl rfl Try.el88.sized rfl rfl rfl rfl (Nat.le_of_ble_eq_true rfl) (cel_cons rfl (cel_cons rfl (cel_cons rfl (cel_cons rfl (cel_cons rfl cel_nil))))) rfl rfl (fun w20 M => ?_)
      refine WL.step (v := (Value.int .i64 260)) rfl (Step.assign rfl) ?_
      refine WL.nil ?_
      refine W.ret ?_
      refine ⟨.inl rfl, (Value.tuple #[(Value.agg #[(Value.int .u64 0), (Value.int .i64 0), (Value.int .u64 0), (Value.int .u64 0), (Value.bool false)]), (Value.int .i64 260)]), ?_, ?_⟩
      · exact ⟨rfl, (Res.r2 (RV.cellN Try.ag88 rfl (M.blk 0 rfl) rfl) (show RV _ _ _ (.tmp 9) (Value.int .i64 260) from by exact rfl))⟩
      refine ⟨?_, M.close [] rfl (by decide) trivial⟩
      rw [get_miss hi10 (by omega)]
      simp [noE, leaseZ, h19]
    ·
      refine W.skip ?_
      refine W.seq' ?_
      refine W.region rfl ?_
      refine WL.step (v := (Value.agg #[(Value.int .u64 0), (Value.int .i64 0), (Value.int .u64 0), (Value.int .u64 0), (Value.bool false)])) rfl (Step.pure (by kernel_rfl)) ?_
      refine WL.store (v := (Value.agg #[(Value.int .u64 0), (Value.int .i64 0), (Value.int .u64 0), (Value.int .u64 0), (Value.bool false)])) (cs := [(Value.int .u64 0), (Value.int .i64 0), (Value.int .u64 0), (Value.int .u64 0), (Value.bool false)]) (c' := #[(Value.int .u64 0), (Value.int .i64 0), (Value.int .u64 0), (Value.int .u64 0), (Value.bool false)]) M 0 rfl rfl Try.el88.sized rfl rfl rfl rfl (Nat.le_of_ble_eq_true rfl) (cel_cons rfl (cel_cons rfl (cel_cons rfl (cel_cons rfl (cel_cons rfl cel_nil))))) rfl rfl (fun w21 M => ?_)
      refine WL.step (v := (Value.int .i64 220)) rfl (Step.assign rfl) ?_
      refine WL.nil ?_
      refine W.ret ?_
      refine ⟨.inl rfl, (Value.tuple #[(Value.agg #[(Value.int .u64 0), (Value.int .i64 0), (Value.int .u64 0), (Value.int .u64 0), (Value.bool false)]), (Value.int .i64 220)]), ?_, ?_⟩
      · exact ⟨rfl, (Res.r2 (RV.cellN Try.ag88 rfl (M.blk 0 rfl) rfl) (show RV _ _ _ (.tmp 9) (Value.int .i64 220) from by exact rfl))⟩
      refine ⟨?_, M.close [] rfl (by decide) trivial⟩
      rw [get_miss hi10 (by omega)]
      simp [noE, leaseZ, h19]

theorem ref_getw {G : Nat → Prop} {w : World} (v : Value) (xs : List Lease) (most : Int) (last : Int) (o : Int) (i : Int) (c : Bool)  (hc : hasL xs o i c = true) (M : Mem G (fun _ => False) w [] [SlAt 5 v xs.length (xs.flatMap leaseE)] w) : Rets Try.prog 90 #[(Value.agg #[v, (Value.int .i64 most), (Value.int .u64 last)]), (Value.int .i64 o), (Value.int .u64 i), (Value.bool c)] w fun r w' => r = (Value.tuple #[(Value.agg #[(Value.int .u64 ((theL xs o i c).id)), (Value.int .i64 ((theL xs o i c).owner)), (Value.int .u64 ((theL xs o i c).epoch)), (Value.int .u64 ((theL xs o i c).till)), (Value.bool ((theL xs o i c).cursor))]), (Value.int .i64 0)]) ∧ Mem G (fun _ => False) w [] [] w' := by
  refine Rets.enter 54 _ Try.func90 rfl Try.ntmps90 Try.results90 (by simp) ?_
  have hle1 := SlAt.le' (M.rep 0 rfl)
  have sl2 : IsSl v := SlAt.isSl (Mem.rep M 0 rfl)
  refine W.seq' ?_
  refine W.region rfl ?_
  refine WL.box (v := (Value.agg #[v, (Value.int .i64 most), (Value.int .u64 last)])) (c := #[v, (Value.int .i64 most), (Value.int .u64 last)]) M rfl rfl rfl (fun b3 w4 hb3 M => ?_)
  refine WL.alloc (c := #[(Value.int .u64 0), (Value.int .i64 0), (Value.int .u64 0), (Value.int .u64 0), (Value.bool false)]) M rfl Try.el88.zero rfl (fun b5 w6 hb5 M => ?_)
  refine WL.step (v := (Value.int .i64 0)) rfl (Step.assign rfl) ?_
  refine WL.nil ?_
  refine W.seq' ?_
  refine W.seq' ?_
  refine W.region rfl ?_
  refine WL.step (v := (Value.int .i64 0)) rfl (Step.assign rfl) ?_
  refine WL.nil ?_
  refine W.block ?_
  refine W.loop (fun kk ρ w' => ∃ (k_ : Nat), ((k_ ≤ xs.length) ∧ (∀ (j : Nat) (u : Lease), j < k_ → xs[j]? = some u → isL o i c u = false) ∧ kk = xs.length - k_) ∧ ρ.has [(1, (Value.int .i64 o)), (2, (Value.int .u64 i)), (3, (Value.bool c)), (4, (Value.pointer (some ⟨b3, 0, none⟩))), (8, (Value.pointer (some ⟨b5, 0, none⟩))), (10, (Value.int .i64 ↑k_))] ∧ Mem G (fun _ => False) w [blk b5 (.cells #[(Value.int .u64 0), (Value.int .i64 0), (Value.int .u64 0), (Value.int .u64 0), (Value.bool false)] 88), blk b3 (.cells #[v, (Value.int .i64 most), (Value.int .u64 last)] 80)] [SlAt 5 v xs.length (xs.flatMap leaseE)]  w') _ ⟨0, ⟨(Nat.zero_le _), (fun _ _ h => absurd h (Nat.not_lt_zero _)), rfl⟩, ⟨rfl, rfl, rfl, rfl, rfl, rfl, rfl, rfl⟩, M⟩ ?_
  rintro _ ρ8 w7 ⟨k_, ⟨hi9, hi10, rfl⟩, hρ, M⟩
  obtain ⟨ρ8, rfl⟩ := hρ.know
  clear hρ
  refine W.seq' ?_
  refine W.seq' ?_
  refine W.region rfl ?_
  refine WL.step (v := (Value.int .i64 ↑k_)) rfl (Step.move rfl) ?_
  refine WL.step (v := (Value.pointer (some ⟨b3, 0, none⟩))) rfl (Step.pure (by kernel_rfl)) ?_
  refine WL.step (v := v) rfl (Step.load1 Try.sc78 rfl ((M.cell 1 rfl 0).trans rfl)) ?_
  refine WL.step (v := (Value.int .i64 ↑xs.length)) rfl (Step.lenSl Try.un78 rfl (M.rep 0 rfl)) ?_
  refine WL.step (v := (Value.bool (decide ((↑k_ : Int) < (↑xs.length : Int))))) rfl (Step.pure (by kernel_rfl)) ?_
  refine WL.nil ?_
  refine W.cond (t := decide ((↑k_ : Int) < (↑xs.length : Int))) rfl (fun h11 => ?_) (fun h11 => ?_)
  ·
    have h11p := of_decide_eq_true h11
    refine W.skip ?_
    refine W.seq' ?_
    refine W.block ?_
    refine W.seq' ?_
    refine W.region rfl ?_
    refine WL.step (v := (Value.pointer (some ⟨b3, 0, none⟩))) rfl (Step.pure (by kernel_rfl)) ?_
    refine WL.step (v := v) rfl (Step.load1 Try.sc78 rfl ((M.cell 1 rfl 0).trans rfl)) ?_
    refine WL.step (v := (Value.int .i64 ↑k_)) rfl (Step.move rfl) ?_
    obtain ⟨cap13, hb12⟩ := SlAt.base (M.rep 0 rfl) (by omega)
    obtain ⟨x14, hx14⟩ := elem_of_lt (xs := xs) (i := k_) (by omega)
    refine WL.step (v := (Value.pointer (some ⟨(sBlk v), sOff v + k_ * 5, none⟩))) rfl (Step.indexAddr (i := k_) (Try.un78).run Try.el88.sized rfl rfl (by omega) hb12 (by omega)) ?_
    refine WL.step (v := (Value.pointer (some ⟨(sBlk v), sOff v + k_ * 5, none⟩))) rfl (Step.pure (by kernel_rfl)) ?_
    refine WL.step (v := (Value.int .u64 x14.id)) rfl (Step.loadE (k := 0) Try.sc23 (flat_ec (M.rep 0 rfl) hx14 leaseE_len) (by decide) rfl rfl) ?_
    refine WL.step (v := (Value.int .u64 i)) rfl (Step.move rfl) ?_
    refine WL.step (v := (Value.bool ((x14.id : Int) == (i : Int)))) rfl (Step.pure (by kernel_rfl)) ?_
    refine WL.step (v := (Value.bool ((x14.id : Int) == (i : Int)))) rfl (Step.move rfl) ?_
    rcases Bool.eq_false_or_eq_true ((x14.id : Int) == (i : Int)) with h15 | h15
    ·
      have h15p : (x14.id : Int) = (i : Int) := by simpa using h15
      rw [h15]
      refine WL.step (v := (Value.pointer (some ⟨b3, 0, none⟩))) rfl (Step.pure (by kernel_rfl)) ?_
      refine WL.step (v := v) rfl (Step.load1 Try.sc78 rfl ((M.cell 1 rfl 0).trans rfl)) ?_
      refine WL.step (v := (Value.int .i64 ↑k_)) rfl (Step.move rfl) ?_
      refine WL.step (v := (Value.pointer (some ⟨(sBlk v), sOff v + k_ * 5, none⟩))) rfl (Step.indexAddr (i := k_) (Try.un78).run Try.el88.sized rfl rfl (by omega) hb12 (by omega)) ?_
      refine WL.step (v := (Value.pointer (some ⟨(sBlk v), sOff v + k_ * 5 + 1, none⟩))) rfl (Step.pure (by kernel_rfl)) ?_
      refine WL.step (v := (Value.int .i64 x14.owner)) rfl (Step.loadE (k := 1) Try.sc3 (flat_ec (M.rep 0 rfl) hx14 leaseE_len) (by decide) rfl rfl) ?_
      refine WL.step (v := (Value.int .i64 o)) rfl (Step.move rfl) ?_
      refine WL.step (v := (Value.bool ((x14.owner : Int) == (o : Int)))) rfl (Step.pure (by kernel_rfl)) ?_
      refine WL.step (v := (Value.bool ((x14.owner : Int) == (o : Int)))) rfl (Step.pick (t := true) rfl rfl) ?_
      refine WL.step (v := (Value.bool ((x14.owner : Int) == (o : Int)))) rfl (Step.move rfl) ?_
      rcases Bool.eq_false_or_eq_true ((x14.owner : Int) == (o : Int)) with h16 | h16
      ·
        have h16p : (x14.owner : Int) = (o : Int) := by simpa using h16
        rw [h16]
        refine WL.step (v := (Value.pointer (some ⟨b3, 0, none⟩))) rfl (Step.pure (by kernel_rfl)) ?_
        refine WL.step (v := v) rfl (Step.load1 Try.sc78 rfl ((M.cell 1 rfl 0).trans rfl)) ?_
        refine WL.step (v := (Value.int .i64 ↑k_)) rfl (Step.move rfl) ?_
        refine WL.step (v := (Value.pointer (some ⟨(sBlk v), sOff v + k_ * 5, none⟩))) rfl (Step.indexAddr (i := k_) (Try.un78).run Try.el88.sized rfl rfl (by omega) hb12 (by omega)) ?_
        refine WL.step (v := (Value.pointer (some ⟨(sBlk v), sOff v + k_ * 5 + 4, none⟩))) rfl (Step.pure (by kernel_rfl)) ?_
        refine WL.step (v := (Value.bool x14.cursor)) rfl (Step.loadE (k := 4) Try.sc4 (flat_ec (M.rep 0 rfl) hx14 leaseE_len) (by decide) rfl rfl) ?_
        refine WL.step (v := (Value.bool c)) rfl (Step.move rfl) ?_
        refine WL.step (v := (Value.bool (x14.cursor == c))) rfl (Step.pure (by kernel_rfl)) ?_
        refine WL.step (v := (Value.bool (x14.cursor == c))) rfl (Step.pick (t := true) rfl rfl) ?_
        refine WL.nil ?_
        refine W.cond (t := x14.cursor == c) rfl (fun h17 => ?_) (fun h17 => ?_)
        ·
          refine W.seq' ?_
          refine W.region rfl ?_
          refine WL.step (v := (Value.pointer (some ⟨b3, 0, none⟩))) rfl (Step.pure (by kernel_rfl)) ?_
          refine WL.step (v := v) rfl (Step.load1 Try.sc78 rfl ((M.cell 1 rfl 0).trans rfl)) ?_
          refine WL.step (v := (Value.int .i64 ↑k_)) rfl (Step.move rfl) ?_
          refine WL.step (v := (Value.pointer (some ⟨(sBlk v), sOff v + k_ * 5, none⟩))) rfl (Step.indexAddr (i := k_) (Try.un78).run Try.el88.sized rfl rfl (by omega) hb12 (by omega)) ?_
          refine WL.step (v := (Value.agg #[(Value.int .u64 x14.id), (Value.int .i64 x14.owner), (Value.int .u64 x14.epoch), (Value.int .u64 x14.till), (Value.bool x14.cursor)])) rfl (Step.loadEN (k := 0) (cs' := [(Value.int .u64 x14.id), (Value.int .i64 x14.owner), (Value.int .u64 x14.epoch), (Value.int .u64 x14.till), (Value.bool x14.cursor)]) Try.ag88 (flat_ec (M.rep 0 rfl) hx14 leaseE_len) (by decide) rfl rfl rfl) ?_
          refine WL.store (v := (Value.agg #[(Value.int .u64 x14.id), (Value.int .i64 x14.owner), (Value.int .u64 x14.epoch), (Value.int .u64 x14.till), (Value.bool x14.cursor)])) (cs := [(Value.int .u64 x14.id), (Value.int .i64 x14.owner), (Value.int .u64 x14.epoch), (Value.int .u64 x14.till), (Value.bool x14.cursor)]) (c' := #[(Value.int .u64 x14.id), (Value.int .i64 x14.owner), (Value.int .u64 x14.epoch), (Value.int .u64 x14.till), (Value.bool x14.cursor)]) M 0 rfl rfl Try.el88.sized rfl rfl rfl rfl (Nat.le_of_ble_eq_true rfl) (cel_cons rfl (cel_cons rfl (cel_cons rfl (cel_cons rfl (cel_cons rfl cel_nil))))) rfl rfl (fun w18 M => ?_)
          refine WL.step (v := (Value.int .i64 0)) rfl (Step.assign rfl) ?_
          refine WL.nil ?_
          refine W.ret ?_
          refine ⟨.inl rfl, (Value.tuple #[(Value.agg #[(Value.int .u64 x14.id), (Value.int .i64 x14.owner), (Value.int .u64 x14.epoch), (Value.int .u64 x14.till), (Value.bool x14.cursor)]), (Value.int .i64 0)]), ?_, ?_⟩
          · exact ⟨rfl, (Res.r2 (RV.cellN Try.ag88 rfl (M.blk 0 rfl) rfl) (show RV _ _ _ (.tmp 9) (Value.int .i64 0) from by exact rfl))⟩
          refine ⟨?_, M.close [] rfl (by decide) trivial⟩
          have hg := get_hit hx14 (by simp [isL, h11p, hx14, h15p, h16p, h17]) hi10
          rw [(getw_tt hc hg).1]
        ·
          refine W.skip ?_
          refine W.region rfl ?_
          refine WL.step (v := (Value.int .i64 ↑k_)) rfl (Step.move rfl) ?_
          refine WL.step (v := (Value.int .i64 (↑k_ + 1))) rfl (Step.add rfl rfl (wrap_i64 (by omega))) ?_
          refine WL.step (v := (Value.int .i64 (↑k_ + 1))) rfl (Step.assign rfl) ?_
          refine WL.nil ?_
          exact ⟨_, (by omega), k_ + 1, ⟨(by omega), (below_stepG hi10 hx14 (by simp [isL, h11p, hx14, h15p, h16p, h17])), rfl⟩, ⟨rfl, rfl, rfl, rfl, rfl, rfl, rfl, rfl⟩, M⟩
      ·
        have h16p : ¬ (x14.owner : Int) = (o : Int) := by simpa using h16
        rw [h16]
        refine WL.pass rfl ?_
        refine WL.pass rfl ?_
        refine WL.pass rfl ?_
        refine WL.pass rfl ?_
        refine WL.pass rfl ?_
        refine WL.pass rfl ?_
        refine WL.pass rfl ?_
        refine WL.pass rfl ?_
        refine WL.step (v := (Value.bool false)) rfl (Step.pick (t := false) rfl rfl) ?_
        refine WL.nil ?_
        refine W.cond (t := false) rfl (fun h => by cases h) (fun _ => ?_)
        refine W.skip ?_
        refine W.region rfl ?_
        refine WL.step (v := (Value.int .i64 ↑k_)) rfl (Step.move rfl) ?_
        refine WL.step (v := (Value.int .i64 (↑k_ + 1))) rfl (Step.add rfl rfl (wrap_i64 (by omega))) ?_
        refine WL.step (v := (Value.int .i64 (↑k_ + 1))) rfl (Step.assign rfl) ?_
        refine WL.nil ?_
        exact ⟨_, (by omega), k_ + 1, ⟨(by omega), (below_stepG hi10 hx14 (by simp [isL, h11p, hx14, h15p, h16p])), rfl⟩, ⟨rfl, rfl, rfl, rfl, rfl, rfl, rfl, rfl⟩, M⟩
    ·
      have h15p : ¬ (x14.id : Int) = (i : Int) := by simpa using h15
      rw [h15]
      refine WL.pass rfl ?_
      refine WL.pass rfl ?_
      refine WL.pass rfl ?_
      refine WL.pass rfl ?_
      refine WL.pass rfl ?_
      refine WL.pass rfl ?_
      refine WL.pass rfl ?_
      refine WL.pass rfl ?_
      refine WL.step (v := (Value.bool false)) rfl (Step.pick (t := false) rfl rfl) ?_
      refine WL.step (v := (Value.bool false)) rfl (Step.move rfl) ?_
      refine WL.pass rfl ?_
      refine WL.pass rfl ?_
      refine WL.pass rfl ?_
      refine WL.pass rfl ?_
      refine WL.pass rfl ?_
      refine WL.pass rfl ?_
      refine WL.pass rfl ?_
      refine WL.pass rfl ?_
      refine WL.step (v := (Value.bool false)) rfl (Step.pick (t := false) rfl rfl) ?_
      refine WL.nil ?_
      refine W.cond (t := false) rfl (fun h => by cases h) (fun _ => ?_)
      refine W.skip ?_
      refine W.region rfl ?_
      refine WL.step (v := (Value.int .i64 ↑k_)) rfl (Step.move rfl) ?_
      refine WL.step (v := (Value.int .i64 (↑k_ + 1))) rfl (Step.add rfl rfl (wrap_i64 (by omega))) ?_
      refine WL.step (v := (Value.int .i64 (↑k_ + 1))) rfl (Step.assign rfl) ?_
      refine WL.nil ?_
      exact ⟨_, (by omega), k_ + 1, ⟨(by omega), (below_stepG hi10 hx14 (by simp [isL, h11p, hx14, h15p])), rfl⟩, ⟨rfl, rfl, rfl, rfl, rfl, rfl, rfl, rfl⟩, M⟩
  ·
    have h11p := of_decide_eq_false h11
    refine W.exit ?_
    refine thn_exit ?_
    refine thn_exit ?_
    refine inBlk_hit ?_
    refine W.seq' ?_
    refine W.seq' ?_
    refine W.region rfl ?_
    refine WL.step (v := (Value.bool c)) rfl (Step.move rfl) ?_
    refine WL.nil ?_
    refine W.cond (t := c) rfl (fun h19 => ?_) (fun h19 => ?_)
    ·
      refine W.seq' ?_
      refine W.region rfl ?_
      refine WL.step (v := (Value.agg #[(Value.int .u64 0), (Value.int .i64 0), (Value.int .u64 0), (Value.int .u64 0), (Value.bool false)])) rfl (Step.pure (by kernel_rfl)) ?_
      refine WL.store (v := (Value.agg #[(Value.int .u64 0), (Value.int .i64 0), (Value.int .u64 0), (Value.int .u64 0), (Value.bool false)])) (cs := [(Value.int .u64 0), (Value.int .i64 0), (Value.int .u64 0), (Value.int .u64 0), (Value.bool false)]) (c' := #[(Value.int .u64 0), (Value.int .i64 0), (Value.int .u64 0), (Value.int .u64 0), (Value.bool false)]) M 0 rfl rfl Try.el88.sized rfl rfl rfl rfl (Nat.le_of_ble_eq_true rfl) (cel_cons rfl (cel_cons rfl (cel_cons rfl (cel_cons rfl (cel_cons rfl cel_nil))))) rfl rfl (fun w20 M => ?_)
      refine WL.step (v := (Value.int .i64 260)) rfl (Step.assign rfl) ?_
      refine WL.nil ?_
      refine W.ret ?_
      refine ⟨.inl rfl, (Value.tuple #[(Value.agg #[(Value.int .u64 0), (Value.int .i64 0), (Value.int .u64 0), (Value.int .u64 0), (Value.bool false)]), (Value.int .i64 260)]), ?_, ?_⟩
      · exact ⟨rfl, (Res.r2 (RV.cellN Try.ag88 rfl (M.blk 0 rfl) rfl) (show RV _ _ _ (.tmp 9) (Value.int .i64 260) from by exact rfl))⟩
      refine ⟨?_, M.close [] rfl (by decide) trivial⟩
      have hg := get_miss hi10 (by omega)
      exact absurd (getw_tt hc hg).2 noE_ne
    ·
      refine W.skip ?_
      refine W.seq' ?_
      refine W.region rfl ?_
      refine WL.step (v := (Value.agg #[(Value.int .u64 0), (Value.int .i64 0), (Value.int .u64 0), (Value.int .u64 0), (Value.bool false)])) rfl (Step.pure (by kernel_rfl)) ?_
      refine WL.store (v := (Value.agg #[(Value.int .u64 0), (Value.int .i64 0), (Value.int .u64 0), (Value.int .u64 0), (Value.bool false)])) (cs := [(Value.int .u64 0), (Value.int .i64 0), (Value.int .u64 0), (Value.int .u64 0), (Value.bool false)]) (c' := #[(Value.int .u64 0), (Value.int .i64 0), (Value.int .u64 0), (Value.int .u64 0), (Value.bool false)]) M 0 rfl rfl Try.el88.sized rfl rfl rfl rfl (Nat.le_of_ble_eq_true rfl) (cel_cons rfl (cel_cons rfl (cel_cons rfl (cel_cons rfl (cel_cons rfl cel_nil))))) rfl rfl (fun w21 M => ?_)
      refine WL.step (v := (Value.int .i64 220)) rfl (Step.assign rfl) ?_
      refine WL.nil ?_
      refine W.ret ?_
      refine ⟨.inl rfl, (Value.tuple #[(Value.agg #[(Value.int .u64 0), (Value.int .i64 0), (Value.int .u64 0), (Value.int .u64 0), (Value.bool false)]), (Value.int .i64 220)]), ?_, ?_⟩
      · exact ⟨rfl, (Res.r2 (RV.cellN Try.ag88 rfl (M.blk 0 rfl) rfl) (show RV _ _ _ (.tmp 9) (Value.int .i64 220) from by exact rfl))⟩
      refine ⟨?_, M.close [] rfl (by decide) trivial⟩
      have hg := get_miss hi10 (by omega)
      exact absurd (getw_tt hc hg).2 noE_ne

theorem ref_getnow {G : Nat → Prop} {w : World} (v : Value) (xs : List Lease) (most : Int) (last : Int) (o : Int) (i : Int) (c : Bool)  (hc : hasL xs o i c = false) (M : Mem G (fun _ => False) w [] [SlAt 5 v xs.length (xs.flatMap leaseE)] w) : Rets Try.prog 90 #[(Value.agg #[v, (Value.int .i64 most), (Value.int .u64 last)]), (Value.int .i64 o), (Value.int .u64 i), (Value.bool c)] w fun r w' => r = (Value.tuple #[(Value.agg #[(Value.int .u64 leaseZ.id), (Value.int .i64 leaseZ.owner), (Value.int .u64 leaseZ.epoch), (Value.int .u64 leaseZ.till), (Value.bool leaseZ.cursor)]), (Value.int .i64 (noE c))]) ∧ Mem G (fun _ => False) w [] [] w' := by
  refine Rets.enter 54 _ Try.func90 rfl Try.ntmps90 Try.results90 (by simp) ?_
  have hle1 := SlAt.le' (M.rep 0 rfl)
  have sl2 : IsSl v := SlAt.isSl (Mem.rep M 0 rfl)
  refine W.seq' ?_
  refine W.region rfl ?_
  refine WL.box (v := (Value.agg #[v, (Value.int .i64 most), (Value.int .u64 last)])) (c := #[v, (Value.int .i64 most), (Value.int .u64 last)]) M rfl rfl rfl (fun b3 w4 hb3 M => ?_)
  refine WL.alloc (c := #[(Value.int .u64 0), (Value.int .i64 0), (Value.int .u64 0), (Value.int .u64 0), (Value.bool false)]) M rfl Try.el88.zero rfl (fun b5 w6 hb5 M => ?_)
  refine WL.step (v := (Value.int .i64 0)) rfl (Step.assign rfl) ?_
  refine WL.nil ?_
  refine W.seq' ?_
  refine W.seq' ?_
  refine W.region rfl ?_
  refine WL.step (v := (Value.int .i64 0)) rfl (Step.assign rfl) ?_
  refine WL.nil ?_
  refine W.block ?_
  refine W.loop (fun kk ρ w' => ∃ (k_ : Nat), ((k_ ≤ xs.length) ∧ (∀ (j : Nat) (u : Lease), j < k_ → xs[j]? = some u → isL o i c u = false) ∧ kk = xs.length - k_) ∧ ρ.has [(1, (Value.int .i64 o)), (2, (Value.int .u64 i)), (3, (Value.bool c)), (4, (Value.pointer (some ⟨b3, 0, none⟩))), (8, (Value.pointer (some ⟨b5, 0, none⟩))), (10, (Value.int .i64 ↑k_))] ∧ Mem G (fun _ => False) w [blk b5 (.cells #[(Value.int .u64 0), (Value.int .i64 0), (Value.int .u64 0), (Value.int .u64 0), (Value.bool false)] 88), blk b3 (.cells #[v, (Value.int .i64 most), (Value.int .u64 last)] 80)] [SlAt 5 v xs.length (xs.flatMap leaseE)]  w') _ ⟨0, ⟨(Nat.zero_le _), (fun _ _ h => absurd h (Nat.not_lt_zero _)), rfl⟩, ⟨rfl, rfl, rfl, rfl, rfl, rfl, rfl, rfl⟩, M⟩ ?_
  rintro _ ρ8 w7 ⟨k_, ⟨hi9, hi10, rfl⟩, hρ, M⟩
  obtain ⟨ρ8, rfl⟩ := hρ.know
  clear hρ
  refine W.seq' ?_
  refine W.seq' ?_
  refine W.region rfl ?_
  refine WL.step (v := (Value.int .i64 ↑k_)) rfl (Step.move rfl) ?_
  refine WL.step (v := (Value.pointer (some ⟨b3, 0, none⟩))) rfl (Step.pure (by kernel_rfl)) ?_
  refine WL.step (v := v) rfl (Step.load1 Try.sc78 rfl ((M.cell 1 rfl 0).trans rfl)) ?_
  refine WL.step (v := (Value.int .i64 ↑xs.length)) rfl (Step.lenSl Try.un78 rfl (M.rep 0 rfl)) ?_
  refine WL.step (v := (Value.bool (decide ((↑k_ : Int) < (↑xs.length : Int))))) rfl (Step.pure (by kernel_rfl)) ?_
  refine WL.nil ?_
  refine W.cond (t := decide ((↑k_ : Int) < (↑xs.length : Int))) rfl (fun h11 => ?_) (fun h11 => ?_)
  ·
    have h11p := of_decide_eq_true h11
    refine W.skip ?_
    refine W.seq' ?_
    refine W.block ?_
    refine W.seq' ?_
    refine W.region rfl ?_
    refine WL.step (v := (Value.pointer (some ⟨b3, 0, none⟩))) rfl (Step.pure (by kernel_rfl)) ?_
    refine WL.step (v := v) rfl (Step.load1 Try.sc78 rfl ((M.cell 1 rfl 0).trans rfl)) ?_
    refine WL.step (v := (Value.int .i64 ↑k_)) rfl (Step.move rfl) ?_
    obtain ⟨cap13, hb12⟩ := SlAt.base (M.rep 0 rfl) (by omega)
    obtain ⟨x14, hx14⟩ := elem_of_lt (xs := xs) (i := k_) (by omega)
    refine WL.step (v := (Value.pointer (some ⟨(sBlk v), sOff v + k_ * 5, none⟩))) rfl (Step.indexAddr (i := k_) (Try.un78).run Try.el88.sized rfl rfl (by omega) hb12 (by omega)) ?_
    refine WL.step (v := (Value.pointer (some ⟨(sBlk v), sOff v + k_ * 5, none⟩))) rfl (Step.pure (by kernel_rfl)) ?_
    refine WL.step (v := (Value.int .u64 x14.id)) rfl (Step.loadE (k := 0) Try.sc23 (flat_ec (M.rep 0 rfl) hx14 leaseE_len) (by decide) rfl rfl) ?_
    refine WL.step (v := (Value.int .u64 i)) rfl (Step.move rfl) ?_
    refine WL.step (v := (Value.bool ((x14.id : Int) == (i : Int)))) rfl (Step.pure (by kernel_rfl)) ?_
    refine WL.step (v := (Value.bool ((x14.id : Int) == (i : Int)))) rfl (Step.move rfl) ?_
    rcases Bool.eq_false_or_eq_true ((x14.id : Int) == (i : Int)) with h15 | h15
    ·
      have h15p : (x14.id : Int) = (i : Int) := by simpa using h15
      rw [h15]
      refine WL.step (v := (Value.pointer (some ⟨b3, 0, none⟩))) rfl (Step.pure (by kernel_rfl)) ?_
      refine WL.step (v := v) rfl (Step.load1 Try.sc78 rfl ((M.cell 1 rfl 0).trans rfl)) ?_
      refine WL.step (v := (Value.int .i64 ↑k_)) rfl (Step.move rfl) ?_
      refine WL.step (v := (Value.pointer (some ⟨(sBlk v), sOff v + k_ * 5, none⟩))) rfl (Step.indexAddr (i := k_) (Try.un78).run Try.el88.sized rfl rfl (by omega) hb12 (by omega)) ?_
      refine WL.step (v := (Value.pointer (some ⟨(sBlk v), sOff v + k_ * 5 + 1, none⟩))) rfl (Step.pure (by kernel_rfl)) ?_
      refine WL.step (v := (Value.int .i64 x14.owner)) rfl (Step.loadE (k := 1) Try.sc3 (flat_ec (M.rep 0 rfl) hx14 leaseE_len) (by decide) rfl rfl) ?_
      refine WL.step (v := (Value.int .i64 o)) rfl (Step.move rfl) ?_
      refine WL.step (v := (Value.bool ((x14.owner : Int) == (o : Int)))) rfl (Step.pure (by kernel_rfl)) ?_
      refine WL.step (v := (Value.bool ((x14.owner : Int) == (o : Int)))) rfl (Step.pick (t := true) rfl rfl) ?_
      refine WL.step (v := (Value.bool ((x14.owner : Int) == (o : Int)))) rfl (Step.move rfl) ?_
      rcases Bool.eq_false_or_eq_true ((x14.owner : Int) == (o : Int)) with h16 | h16
      ·
        have h16p : (x14.owner : Int) = (o : Int) := by simpa using h16
        rw [h16]
        refine WL.step (v := (Value.pointer (some ⟨b3, 0, none⟩))) rfl (Step.pure (by kernel_rfl)) ?_
        refine WL.step (v := v) rfl (Step.load1 Try.sc78 rfl ((M.cell 1 rfl 0).trans rfl)) ?_
        refine WL.step (v := (Value.int .i64 ↑k_)) rfl (Step.move rfl) ?_
        refine WL.step (v := (Value.pointer (some ⟨(sBlk v), sOff v + k_ * 5, none⟩))) rfl (Step.indexAddr (i := k_) (Try.un78).run Try.el88.sized rfl rfl (by omega) hb12 (by omega)) ?_
        refine WL.step (v := (Value.pointer (some ⟨(sBlk v), sOff v + k_ * 5 + 4, none⟩))) rfl (Step.pure (by kernel_rfl)) ?_
        refine WL.step (v := (Value.bool x14.cursor)) rfl (Step.loadE (k := 4) Try.sc4 (flat_ec (M.rep 0 rfl) hx14 leaseE_len) (by decide) rfl rfl) ?_
        refine WL.step (v := (Value.bool c)) rfl (Step.move rfl) ?_
        refine WL.step (v := (Value.bool (x14.cursor == c))) rfl (Step.pure (by kernel_rfl)) ?_
        refine WL.step (v := (Value.bool (x14.cursor == c))) rfl (Step.pick (t := true) rfl rfl) ?_
        refine WL.nil ?_
        refine W.cond (t := x14.cursor == c) rfl (fun h17 => ?_) (fun h17 => ?_)
        ·
          refine W.seq' ?_
          refine W.region rfl ?_
          refine WL.step (v := (Value.pointer (some ⟨b3, 0, none⟩))) rfl (Step.pure (by kernel_rfl)) ?_
          refine WL.step (v := v) rfl (Step.load1 Try.sc78 rfl ((M.cell 1 rfl 0).trans rfl)) ?_
          refine WL.step (v := (Value.int .i64 ↑k_)) rfl (Step.move rfl) ?_
          refine WL.step (v := (Value.pointer (some ⟨(sBlk v), sOff v + k_ * 5, none⟩))) rfl (Step.indexAddr (i := k_) (Try.un78).run Try.el88.sized rfl rfl (by omega) hb12 (by omega)) ?_
          refine WL.step (v := (Value.agg #[(Value.int .u64 x14.id), (Value.int .i64 x14.owner), (Value.int .u64 x14.epoch), (Value.int .u64 x14.till), (Value.bool x14.cursor)])) rfl (Step.loadEN (k := 0) (cs' := [(Value.int .u64 x14.id), (Value.int .i64 x14.owner), (Value.int .u64 x14.epoch), (Value.int .u64 x14.till), (Value.bool x14.cursor)]) Try.ag88 (flat_ec (M.rep 0 rfl) hx14 leaseE_len) (by decide) rfl rfl rfl) ?_
          refine WL.store (v := (Value.agg #[(Value.int .u64 x14.id), (Value.int .i64 x14.owner), (Value.int .u64 x14.epoch), (Value.int .u64 x14.till), (Value.bool x14.cursor)])) (cs := [(Value.int .u64 x14.id), (Value.int .i64 x14.owner), (Value.int .u64 x14.epoch), (Value.int .u64 x14.till), (Value.bool x14.cursor)]) (c' := #[(Value.int .u64 x14.id), (Value.int .i64 x14.owner), (Value.int .u64 x14.epoch), (Value.int .u64 x14.till), (Value.bool x14.cursor)]) M 0 rfl rfl Try.el88.sized rfl rfl rfl rfl (Nat.le_of_ble_eq_true rfl) (cel_cons rfl (cel_cons rfl (cel_cons rfl (cel_cons rfl (cel_cons rfl cel_nil))))) rfl rfl (fun w18 M => ?_)
          refine WL.step (v := (Value.int .i64 0)) rfl (Step.assign rfl) ?_
          refine WL.nil ?_
          refine W.ret ?_
          refine ⟨.inl rfl, (Value.tuple #[(Value.agg #[(Value.int .u64 x14.id), (Value.int .i64 x14.owner), (Value.int .u64 x14.epoch), (Value.int .u64 x14.till), (Value.bool x14.cursor)]), (Value.int .i64 0)]), ?_, ?_⟩
          · exact ⟨rfl, (Res.r2 (RV.cellN Try.ag88 rfl (M.blk 0 rfl) rfl) (show RV _ _ _ (.tmp 9) (Value.int .i64 0) from by exact rfl))⟩
          refine ⟨?_, M.close [] rfl (by decide) trivial⟩
          have hg := get_hit hx14 (by simp [isL, h11p, hx14, h15p, h16p, h17]) hi10
          exact absurd (getw_ff hc hg).2.symm noE_ne
        ·
          refine W.skip ?_
          refine W.region rfl ?_
          refine WL.step (v := (Value.int .i64 ↑k_)) rfl (Step.move rfl) ?_
          refine WL.step (v := (Value.int .i64 (↑k_ + 1))) rfl (Step.add rfl rfl (wrap_i64 (by omega))) ?_
          refine WL.step (v := (Value.int .i64 (↑k_ + 1))) rfl (Step.assign rfl) ?_
          refine WL.nil ?_
          exact ⟨_, (by omega), k_ + 1, ⟨(by omega), (below_stepG hi10 hx14 (by simp [isL, h11p, hx14, h15p, h16p, h17])), rfl⟩, ⟨rfl, rfl, rfl, rfl, rfl, rfl, rfl, rfl⟩, M⟩
      ·
        have h16p : ¬ (x14.owner : Int) = (o : Int) := by simpa using h16
        rw [h16]
        refine WL.pass rfl ?_
        refine WL.pass rfl ?_
        refine WL.pass rfl ?_
        refine WL.pass rfl ?_
        refine WL.pass rfl ?_
        refine WL.pass rfl ?_
        refine WL.pass rfl ?_
        refine WL.pass rfl ?_
        refine WL.step (v := (Value.bool false)) rfl (Step.pick (t := false) rfl rfl) ?_
        refine WL.nil ?_
        refine W.cond (t := false) rfl (fun h => by cases h) (fun _ => ?_)
        refine W.skip ?_
        refine W.region rfl ?_
        refine WL.step (v := (Value.int .i64 ↑k_)) rfl (Step.move rfl) ?_
        refine WL.step (v := (Value.int .i64 (↑k_ + 1))) rfl (Step.add rfl rfl (wrap_i64 (by omega))) ?_
        refine WL.step (v := (Value.int .i64 (↑k_ + 1))) rfl (Step.assign rfl) ?_
        refine WL.nil ?_
        exact ⟨_, (by omega), k_ + 1, ⟨(by omega), (below_stepG hi10 hx14 (by simp [isL, h11p, hx14, h15p, h16p])), rfl⟩, ⟨rfl, rfl, rfl, rfl, rfl, rfl, rfl, rfl⟩, M⟩
    ·
      have h15p : ¬ (x14.id : Int) = (i : Int) := by simpa using h15
      rw [h15]
      refine WL.pass rfl ?_
      refine WL.pass rfl ?_
      refine WL.pass rfl ?_
      refine WL.pass rfl ?_
      refine WL.pass rfl ?_
      refine WL.pass rfl ?_
      refine WL.pass rfl ?_
      refine WL.pass rfl ?_
      refine WL.step (v := (Value.bool false)) rfl (Step.pick (t := false) rfl rfl) ?_
      refine WL.step (v := (Value.bool false)) rfl (Step.move rfl) ?_
      refine WL.pass rfl ?_
      refine WL.pass rfl ?_
      refine WL.pass rfl ?_
      refine WL.pass rfl ?_
      refine WL.pass rfl ?_
      refine WL.pass rfl ?_
      refine WL.pass rfl ?_
      refine WL.pass rfl ?_
      refine WL.step (v := (Value.bool false)) rfl (Step.pick (t := false) rfl rfl) ?_
      refine WL.nil ?_
      refine W.cond (t := false) rfl (fun h => by cases h) (fun _ => ?_)
      refine W.skip ?_
      refine W.region rfl ?_
      refine WL.step (v := (Value.int .i64 ↑k_)) rfl (Step.move rfl) ?_
      refine WL.step (v := (Value.int .i64 (↑k_ + 1))) rfl (Step.add rfl rfl (wrap_i64 (by omega))) ?_
      refine WL.step (v := (Value.int .i64 (↑k_ + 1))) rfl (Step.assign rfl) ?_
      refine WL.nil ?_
      exact ⟨_, (by omega), k_ + 1, ⟨(by omega), (below_stepG hi10 hx14 (by simp [isL, h11p, hx14, h15p])), rfl⟩, ⟨rfl, rfl, rfl, rfl, rfl, rfl, rfl, rfl⟩, M⟩
  ·
    have h11p := of_decide_eq_false h11
    refine W.exit ?_
    refine thn_exit ?_
    refine thn_exit ?_
    refine inBlk_hit ?_
    refine W.seq' ?_
    refine W.seq' ?_
    refine W.region rfl ?_
    refine WL.step (v := (Value.bool c)) rfl (Step.move rfl) ?_
    refine WL.nil ?_
    refine W.cond (t := c) rfl (fun h19 => ?_) (fun h19 => ?_)
    ·
      refine W.seq' ?_
      refine W.region rfl ?_
      refine WL.step (v := (Value.agg #[(Value.int .u64 0), (Value.int .i64 0), (Value.int .u64 0), (Value.int .u64 0), (Value.bool false)])) rfl (Step.pure (by kernel_rfl)) ?_
      refine WL.store (v := (Value.agg #[(Value.int .u64 0), (Value.int .i64 0), (Value.int .u64 0), (Value.int .u64 0), (Value.bool false)])) (cs := [(Value.int .u64 0), (Value.int .i64 0), (Value.int .u64 0), (Value.int .u64 0), (Value.bool false)]) (c' := #[(Value.int .u64 0), (Value.int .i64 0), (Value.int .u64 0), (Value.int .u64 0), (Value.bool false)]) M 0 rfl rfl Try.el88.sized rfl rfl rfl rfl (Nat.le_of_ble_eq_true rfl) (cel_cons rfl (cel_cons rfl (cel_cons rfl (cel_cons rfl (cel_cons rfl cel_nil))))) rfl rfl (fun w20 M => ?_)
      refine WL.step (v := (Value.int .i64 260)) rfl (Step.assign rfl) ?_
      refine WL.nil ?_
      refine W.ret ?_
      refine ⟨.inl rfl, (Value.tuple #[(Value.agg #[(Value.int .u64 0), (Value.int .i64 0), (Value.int .u64 0), (Value.int .u64 0), (Value.bool false)]), (Value.int .i64 260)]), ?_, ?_⟩
      · exact ⟨rfl, (Res.r2 (RV.cellN Try.ag88 rfl (M.blk 0 rfl) rfl) (show RV _ _ _ (.tmp 9) (Value.int .i64 260) from by exact rfl))⟩
      refine ⟨?_, M.close [] rfl (by decide) trivial⟩
      have hg := get_miss hi10 (by omega)
      simp [noE, leaseZ, h19]
    ·
      refine W.skip ?_
      refine W.seq' ?_
      refine W.region rfl ?_
      refine WL.step (v := (Value.agg #[(Value.int .u64 0), (Value.int .i64 0), (Value.int .u64 0), (Value.int .u64 0), (Value.bool false)])) rfl (Step.pure (by kernel_rfl)) ?_
      refine WL.store (v := (Value.agg #[(Value.int .u64 0), (Value.int .i64 0), (Value.int .u64 0), (Value.int .u64 0), (Value.bool false)])) (cs := [(Value.int .u64 0), (Value.int .i64 0), (Value.int .u64 0), (Value.int .u64 0), (Value.bool false)]) (c' := #[(Value.int .u64 0), (Value.int .i64 0), (Value.int .u64 0), (Value.int .u64 0), (Value.bool false)]) M 0 rfl rfl Try.el88.sized rfl rfl rfl rfl (Nat.le_of_ble_eq_true rfl) (cel_cons rfl (cel_cons rfl (cel_cons rfl (cel_cons rfl (cel_cons rfl cel_nil))))) rfl rfl (fun w21 M => ?_)
      refine WL.step (v := (Value.int .i64 220)) rfl (Step.assign rfl) ?_
      refine WL.nil ?_
      refine W.ret ?_
      refine ⟨.inl rfl, (Value.tuple #[(Value.agg #[(Value.int .u64 0), (Value.int .i64 0), (Value.int .u64 0), (Value.int .u64 0), (Value.bool false)]), (Value.int .i64 220)]), ?_, ?_⟩
      · exact ⟨rfl, (Res.r2 (RV.cellN Try.ag88 rfl (M.blk 0 rfl) rfl) (show RV _ _ _ (.tmp 9) (Value.int .i64 220) from by exact rfl))⟩
      refine ⟨?_, M.close [] rfl (by decide) trivial⟩
      have hg := get_miss hi10 (by omega)
      simp [noE, leaseZ, h19]

theorem ref_grant {G : Nat → Prop} {w : World} (v : Value) (xs : List Lease) (most : Int) (last : Int) (o : Int) (e : Int) (u : Int) (c : Bool)  (hb : xs.length ≤ 1000000) (hl : 0 ≤ last ∧ last ≤ 1000000) (M : Mem G (fun _ => False) w [] [SlAt 5 v xs.length (xs.flatMap leaseE)] w) : Rets Try.prog 47 #[(Value.agg #[v, (Value.int .i64 most), (Value.int .u64 last)]), (Value.int .i64 o), (Value.int .u64 e), (Value.int .u64 u), (Value.bool c)] w fun r w' => ∃ (v' : Value), r = (Value.tuple #[(Value.agg #[v', (Value.int .i64 most), (Value.int .u64 ((grantV xs most last o e u c).2.1))]), (Value.agg #[(Value.int .u64 (((grantV xs most last o e u c).2.2.1).id)), (Value.int .i64 (((grantV xs most last o e u c).2.2.1).owner)), (Value.int .u64 (((grantV xs most last o e u c).2.2.1).epoch)), (Value.int .u64 (((grantV xs most last o e u c).2.2.1).till)), (Value.bool (((grantV xs most last o e u c).2.2.1).cursor))]), (Value.int .i64 ((grantV xs most last o e u c).2.2.2))]) ∧ Mem G (fun _ => False) w [] [SlAt 5 v' ((grantV xs most last o e u c).1).length (((grantV xs most last o e u c).1).flatMap leaseE)] w' := by
  refine Rets.enter 46 _ Try.func47 rfl Try.ntmps47 Try.results47 (by simp) ?_
  have hle1 := SlAt.le' (M.rep 0 rfl)
  have sl2 : IsSl v := SlAt.isSl (Mem.rep M 0 rfl)
  refine W.seq' ?_
  refine W.region rfl ?_
  refine WL.box (v := (Value.agg #[v, (Value.int .i64 most), (Value.int .u64 last)])) (c := #[v, (Value.int .i64 most), (Value.int .u64 last)]) M rfl rfl rfl (fun b3 w4 hb3 M => ?_)
  refine WL.alloc (c := #[(Value.slice none 0 0), (Value.int .i64 0), (Value.int .u64 0)]) M rfl Try.el80.zero rfl (fun b5 w6 hb5 M => ?_)
  refine WL.alloc (c := #[(Value.int .u64 0), (Value.int .i64 0), (Value.int .u64 0), (Value.int .u64 0), (Value.bool false)]) M rfl Try.el88.zero rfl (fun b7 w8 hb7 M => ?_)
  refine WL.step (v := (Value.int .i64 0)) rfl (Step.assign rfl) ?_
  refine WL.nil ?_
  refine W.seq' ?_
  refine W.seq' ?_
  refine W.region rfl ?_
  refine WL.step (v := (Value.pointer (some ⟨b3, 0, none⟩))) rfl (Step.pure (by kernel_rfl)) ?_
  refine WL.step (v := v) rfl (Step.load1 Try.sc78 rfl ((M.cell 2 rfl 0).trans rfl)) ?_
  refine WL.step (v := (Value.int .i64 ↑xs.length)) rfl (Step.lenSl Try.un78 rfl (M.rep 0 rfl)) ?_
  refine WL.step (v := (Value.pointer (some ⟨b3, 1, none⟩))) rfl (Step.pure (by kernel_rfl)) ?_
  refine WL.step (v := (Value.int .i64 most)) rfl (Step.load1 Try.sc3 rfl ((M.cell 2 rfl 1).trans rfl)) ?_
  refine WL.step (v := (Value.bool (decide ((↑xs.length : Int) ≥ (most : Int))))) rfl (Step.pure (by kernel_rfl)) ?_
  refine WL.nil ?_
  refine W.cond (t := decide ((↑xs.length : Int) ≥ (most : Int))) rfl (fun h9 => ?_) (fun h9 => ?_)
  ·
    have h9p := of_decide_eq_true h9
    refine W.seq' ?_
    refine W.region rfl ?_
    refine WL.step (v := (Value.agg #[v, (Value.int .i64 most), (Value.int .u64 last)])) rfl (Step.loadN Try.ag80 rfl (M.blk 2 rfl) (Nat.le_of_ble_eq_true rfl) rfl) ?_
    refine WL.step (v := (Value.agg #[(Value.int .u64 0), (Value.int .i64 0), (Value.int .u64 0), (Value.int .u64 0), (Value.bool false)])) rfl (Step.pure (by kernel_rfl)) ?_
    refine WL.store (v := (Value.agg #[v, (Value.int .i64 most), (Value.int .u64 last)])) (cs := [v, (Value.int .i64 most), (Value.int .u64 last)]) (c' := #[v, (Value.int .i64 most), (Value.int .u64 last)]) M 1 rfl rfl Try.el80.sized rfl rfl rfl rfl (Nat.le_of_ble_eq_true rfl) (cel_cons (IsSl.cel sl2) (cel_cons rfl (cel_cons rfl cel_nil))) rfl rfl (fun w10 M => ?_)
    refine WL.store (v := (Value.agg #[(Value.int .u64 0), (Value.int .i64 0), (Value.int .u64 0), (Value.int .u64 0), (Value.bool false)])) (cs := [(Value.int .u64 0), (Value.int .i64 0), (Value.int .u64 0), (Value.int .u64 0), (Value.bool false)]) (c' := #[(Value.int .u64 0), (Value.int .i64 0), (Value.int .u64 0), (Value.int .u64 0), (Value.bool false)]) M 0 rfl rfl Try.el88.sized rfl rfl rfl rfl (Nat.le_of_ble_eq_true rfl) (cel_cons rfl (cel_cons rfl (cel_cons rfl (cel_cons rfl (cel_cons rfl cel_nil))))) rfl rfl (fun w11 M => ?_)
    refine WL.step (v := (Value.int .i64 280)) rfl (Step.assign rfl) ?_
    refine WL.nil ?_
    refine W.ret ?_
    refine ⟨.inl rfl, (Value.tuple #[(Value.agg #[v, (Value.int .i64 most), (Value.int .u64 last)]), (Value.agg #[(Value.int .u64 0), (Value.int .i64 0), (Value.int .u64 0), (Value.int .u64 0), (Value.bool false)]), (Value.int .i64 280)]), ?_, ?_⟩
    · exact ⟨rfl, (Res.r3 (RV.cellN Try.ag80 rfl (M.blk 1 rfl) rfl) (RV.cellN Try.ag88 rfl (M.blk 0 rfl) rfl) (show RV _ _ _ (.tmp 12) (Value.int .i64 280) from by exact rfl))⟩
    have e12 : (grantV xs most last o e u c).1 = xs := by
      simp [grantV, leaseZ, h9p]
    have hf13 := Sh.reList e12 (M.shr' 0 rfl)
    refine ⟨v, ?_, M.close [] rfl (by decide) ⟨hf13, trivial⟩⟩
    simp [grantV, leaseZ, h9p]
  ·
    have h9p := of_decide_eq_false h9
    refine W.skip ?_
    refine W.seq' ?_
    refine W.region rfl ?_
    refine WL.step (v := (Value.pointer (some ⟨b3, 2, none⟩))) rfl (Step.pure (by kernel_rfl)) ?_
    refine WL.step (v := (Value.int .u64 last)) rfl (Step.load1 Try.sc23 rfl ((M.cell 2 rfl 2).trans rfl)) ?_
    refine WL.step (v := (Value.int .u64 (last + 1))) rfl (Step.add rfl rfl (wrap_u64 (by omega))) ?_
    refine WL.step (v := (Value.int .i64 o)) rfl (Step.move rfl) ?_
    refine WL.step (v := (Value.int .u64 e)) rfl (Step.move rfl) ?_
    refine WL.step (v := (Value.int .u64 u)) rfl (Step.move rfl) ?_
    refine WL.step (v := (Value.bool c)) rfl (Step.move rfl) ?_
    refine WL.step (v := (Value.agg #[(Value.int .u64 (last + 1)), (Value.int .i64 o), (Value.int .u64 e), (Value.int .u64 u), (Value.bool c)])) rfl (Step.pure (by kernel_rfl)) ?_
    refine WL.alloc (c := #[(Value.int .u64 0), (Value.int .i64 0), (Value.int .u64 0), (Value.int .u64 0), (Value.bool false)]) M rfl Try.el88.zero rfl (fun b14 w15 hb14 M => ?_)
    refine WL.store (v := (Value.agg #[(Value.int .u64 (last + 1)), (Value.int .i64 o), (Value.int .u64 e), (Value.int .u64 u), (Value.bool c)])) (cs := [(Value.int .u64 (last + 1)), (Value.int .i64 o), (Value.int .u64 e), (Value.int .u64 u), (Value.bool c)]) (c' := #[(Value.int .u64 (last + 1)), (Value.int .i64 o), (Value.int .u64 e), (Value.int .u64 u), (Value.bool c)]) M 0 rfl rfl Try.el88.sized rfl rfl rfl rfl (Nat.le_of_ble_eq_true rfl) (cel_cons rfl (cel_cons rfl (cel_cons rfl (cel_cons rfl (cel_cons rfl cel_nil))))) rfl rfl (fun w16 M => ?_)
    refine WL.nil ?_
    refine W.seq' ?_
    refine W.region rfl ?_
    refine WL.step (v := (Value.slice none 0 0)) rfl (Step.assign rfl) ?_
    refine WL.nil ?_
    refine W.seq' ?_
    refine W.region rfl ?_
    refine WL.step (v := (Value.slice none 0 0)) rfl (Step.move rfl) ?_
    refine WL.step (v := (Value.pointer (some ⟨b3, 0, none⟩))) rfl (Step.pure (by kernel_rfl)) ?_
    refine WL.step (v := v) rfl (Step.load1 Try.sc78 rfl ((M.cell 3 rfl 0).trans rfl)) ?_
    replace M := M.ownNil 88 5
    replace M : Mem _ _ _ [own 88 5 (Value.slice none 0 0) (([] : List Lease).length) (([] : List Lease).flatMap leaseE), blk b14 (.cells #[(Value.int .u64 (last + 1)), (Value.int .i64 o), (Value.int .u64 e), (Value.int .u64 u), (Value.bool c)] 88), blk b7 (.cells #[(Value.int .u64 0), (Value.int .i64 0), (Value.int .u64 0), (Value.int .u64 0), (Value.bool false)] 88), blk b5 (.cells #[(Value.slice none 0 0), (Value.int .i64 0), (Value.int .u64 0)] 80), blk b3 (.cells #[v, (Value.int .i64 most), (Value.int .u64 last)] 80)] [SlAt 5 v xs.length (xs.flatMap leaseE)] _ := M
    refine WL.does rfl (M.appendF ([] : List Lease) xs (sv := v) 0 Try.un78 Try.el88 rfl (by decide) rfl rfl rfl (M.rep 0 rfl) leaseE_cel (by have := hb; simp only [maxLen, List.length_nil, List.length_cons, List.length_append]; omega) (by have := hb; (try simp only [List.length_nil, List.length_cons, List.length_append]); omega)) ?_
    rintro v17 w18 M
    replace M : Mem _ _ _ [own 88 5 v17 xs.length (xs.flatMap leaseE), blk b14 (.cells #[(Value.int .u64 (last + 1)), (Value.int .i64 o), (Value.int .u64 e), (Value.int .u64 u), (Value.bool c)] 88), blk b7 (.cells #[(Value.int .u64 0), (Value.int .i64 0), (Value.int .u64 0), (Value.int .u64 0), (Value.bool false)] 88), blk b5 (.cells #[(Value.slice none 0 0), (Value.int .i64 0), (Value.int .u64 0)] 80), blk b3 (.cells #[v, (Value.int .i64 most), (Value.int .u64 last)] 80)] [SlAt 5 v xs.length (xs.flatMap leaseE)] _ := M
    have sl19 : IsSl v17 := SlAt.isSl (own_slAt (M.chunk 0 rfl).inv)
    refine WL.step (v := v17) rfl (Step.assign rfl) ?_
    refine WL.nil ?_
    refine W.seq' ?_
    refine W.drawn M [0, 1, 4, 5, 6, 7, 8, 10, 2, 3, 9, 11, 12, 13] [3, 11, 12] [2] [blk b14 (.cells #[(Value.int .u64 (last + 1)), (Value.int .i64 o), (Value.int .u64 e), (Value.int .u64 u), (Value.bool c)] 88), blk b3 (.cells #[v, (Value.int .i64 most), (Value.int .u64 last)] 80)] [SlAt 5 v xs.length (xs.flatMap leaseE)] (List.Sublist.cons _ (List.Sublist.cons_cons _ (List.Sublist.cons _ (List.Sublist.cons _ (List.Sublist.cons_cons _ List.Sublist.slnil))))) (fun _ h => h) Try.mixed (by kernel_rfl) ?_
    refine TW.pure (v := v17) rfl (by decide) (by decide) rfl (fun w => (Step.move rfl)) ?_
    refine TW.read (v := (Value.agg #[(Value.int .u64 (last + 1)), (Value.int .i64 o), (Value.int .u64 e), (Value.int .u64 u), (Value.bool c)])) rfl (by decide) (by decide) rfl (fun A w M => (Step.loadN Try.ag88 rfl (M.blk 1 rfl) (Nat.le_of_ble_eq_true rfl) rfl)) ?_
    refine TW.pure (v := (Value.pointer (some ⟨b3, 1, none⟩))) rfl (by decide) (by decide) rfl (fun w => (Step.pure (by kernel_rfl))) ?_
    refine TW.read (v := (Value.int .i64 most)) rfl (by decide) (by decide) rfl (fun A w M => (Step.load1 Try.sc3 rfl ((M.cell 2 rfl 1).trans rfl))) ?_
    refine TW.pure (v := (Value.pointer (some ⟨b3, 2, none⟩))) rfl (by decide) (by decide) rfl (fun w => (Step.pure (by kernel_rfl))) ?_
    refine TW.read (v := (Value.int .u64 last)) rfl (by decide) (by decide) rfl (fun A w M => (Step.load1 Try.sc23 rfl ((M.cell 2 rfl 2).trans rfl))) ?_
    refine TW.pure (v := (Value.int .u64 (last + 1))) rfl (by decide) (by decide) rfl (fun w => (Step.add rfl rfl (wrap_u64 (by omega)))) ?_
    refine TW.read (v := (Value.agg #[(Value.int .u64 (last + 1)), (Value.int .i64 o), (Value.int .u64 e), (Value.int .u64 u), (Value.bool c)])) rfl (by decide) (by decide) rfl (fun A w M => (Step.loadN Try.ag88 rfl (M.blk 1 rfl) (Nat.le_of_ble_eq_true rfl) rfl)) ?_
    refine TW.new (obj := .cells #[(Value.int .u64 (last + 1)), (Value.int .i64 o), (Value.int .u64 e), (Value.int .u64 u), (Value.bool c)] 88) (fun b => .slice (some ⟨b, 0, none⟩) 1 1) rfl (by decide) (by decide) rfl (fun w => Step.make (by kernel_rfl)) (fun b32 => ?_)
    refine TW.doesM (fun v_ => own 88 5 v_ ((xs ++ ([(⟨last + 1, o, e, u, c⟩ : Lease)] : List Lease)).length) ((xs ++ ([(⟨last + 1, o, e, u, c⟩ : Lease)] : List Lease)).flatMap leaseE)) 1 rfl rfl (by decide) rfl (fun v_ => (List.Sublist.cons _ (List.Sublist.cons _ (List.Sublist.cons_cons _ (List.Sublist.cons _ (List.Sublist.cons _ (List.Sublist.cons_cons _ List.Sublist.slnil))))))) (fun r h => h) (fun A w M => M.appendF' xs ([(⟨last + 1, o, e, u, c⟩ : Lease)] : List Lease) (sv := (Value.slice (some ⟨b32, 0, none⟩) 1 1)) 2 Try.un78 Try.el88 rfl (by decide) rfl rfl rfl (SlAt.of_blk (M.blk 1 rfl) rfl (by decide)) leaseE_cel (by have := hb; simp only [maxLen, List.length_nil, List.length_cons, List.length_append]; omega) (by have := hb; (try simp only [List.length_nil, List.length_cons, List.length_append]); omega)) (fun v33 hin => ?_)
    obtain ⟨_, _, hin⟩ := hin
    have sl35 : IsSl v33 := SlAt.isSl (own_slAt (Mem.chunk hin 2 rfl).inv)
    clear hin
    change TW _ _ _ _ _ _ _ _ (MemA _ _ _ [blk b32 (.cells #[(Value.int .u64 (last + 1)), (Value.int .i64 o), (Value.int .u64 e), (Value.int .u64 u), (Value.bool c)] 88), own 88 5 v33 ((xs ++ ([(⟨last + 1, o, e, u, c⟩ : Lease)] : List Lease)).length) ((xs ++ ([(⟨last + 1, o, e, u, c⟩ : Lease)] : List Lease)).flatMap leaseE), blk b14 (.cells #[(Value.int .u64 (last + 1)), (Value.int .i64 o), (Value.int .u64 e), (Value.int .u64 u), (Value.bool c)] 88), blk b7 (.cells #[(Value.int .u64 0), (Value.int .i64 0), (Value.int .u64 0), (Value.int .u64 0), (Value.bool false)] 88), blk b5 (.cells #[(Value.slice none 0 0), (Value.int .i64 0), (Value.int .u64 0)] 80), blk b3 (.cells #[v, (Value.int .i64 most), (Value.int .u64 last)] 80)] [SlAt 5 v xs.length (xs.flatMap leaseE)])
    refine TW.pure (v := (Value.agg #[v33, (Value.int .i64 most), (Value.int .u64 (last + 1))])) rfl (by decide) (by decide) rfl (fun w => (by obtain ⟨_, _, _, e⟩ := sl35; subst e; exact (Step.pure (by kernel_rfl)))) ?_
    refine TW.store (v := (Value.agg #[v33, (Value.int .i64 most), (Value.int .u64 (last + 1))])) (cs := [v33, (Value.int .i64 most), (Value.int .u64 (last + 1))]) (c' := #[v33, (Value.int .i64 most), (Value.int .u64 (last + 1))]) 4 rfl rfl (by decide) rfl Try.el80.sized rfl rfl rfl rfl (Nat.le_of_ble_eq_true rfl) (cel_cons (IsSl.cel sl35) (cel_cons rfl (cel_cons rfl cel_nil))) rfl rfl (List.Sublist.cons _ (List.Sublist.cons _ (List.Sublist.cons_cons _ (List.Sublist.cons _ (List.Sublist.cons _ (List.Sublist.cons_cons _ List.Sublist.slnil)))))) (fun r h => h) ?_
    refine TW.store (v := (Value.agg #[(Value.int .u64 (last + 1)), (Value.int .i64 o), (Value.int .u64 e), (Value.int .u64 u), (Value.bool c)])) (cs := [(Value.int .u64 (last + 1)), (Value.int .i64 o), (Value.int .u64 e), (Value.int .u64 u), (Value.bool c)]) (c' := #[(Value.int .u64 (last + 1)), (Value.int .i64 o), (Value.int .u64 e), (Value.int .u64 u), (Value.bool c)]) 3 rfl rfl (by decide) rfl Try.el88.sized rfl rfl rfl rfl (Nat.le_of_ble_eq_true rfl) (cel_cons rfl (cel_cons rfl (cel_cons rfl (cel_cons rfl (cel_cons rfl cel_nil))))) rfl rfl (List.Sublist.cons _ (List.Sublist.cons _ (List.Sublist.cons_cons _ (List.Sublist.cons _ (List.Sublist.cons _ (List.Sublist.cons_cons _ List.Sublist.slnil)))))) (fun r h => h) ?_
    refine TW.pure (v := (Value.int .i64 0)) rfl (by decide) (by decide) rfl (fun w => (Step.assign rfl)) ?_
    refine TW.done (fun w36 M => ?_)
    refine W.ret ?_
    refine ⟨.inl rfl, (Value.tuple #[(Value.agg #[v33, (Value.int .i64 most), (Value.int .u64 (last + 1))]), (Value.agg #[(Value.int .u64 (last + 1)), (Value.int .i64 o), (Value.int .u64 e), (Value.int .u64 u), (Value.bool c)]), (Value.int .i64 0)]), ?_, ?_⟩
    · exact ⟨rfl, (Res.r3 (RV.cellN Try.ag80 rfl (M.blk 4 rfl) rfl) (RV.cellN Try.ag88 rfl (M.blk 3 rfl) rfl) (show RV _ _ _ (.tmp 12) (Value.int .i64 0) from by exact rfl))⟩
    replace M := M.shareOwn 1 rfl
    replace M : Mem _ _ _ [blk b32 (.cells #[(Value.int .u64 (last + 1)), (Value.int .i64 o), (Value.int .u64 e), (Value.int .u64 u), (Value.bool c)] 88), blk b14 (.cells #[(Value.int .u64 (last + 1)), (Value.int .i64 o), (Value.int .u64 e), (Value.int .u64 u), (Value.bool c)] 88), blk b7 (.cells #[(Value.int .u64 (last + 1)), (Value.int .i64 o), (Value.int .u64 e), (Value.int .u64 u), (Value.bool c)] 88), blk b5 (.cells #[v33, (Value.int .i64 most), (Value.int .u64 (last + 1))] 80), blk b3 (.cells #[v, (Value.int .i64 most), (Value.int .u64 last)] 80)] [SlAt 5 v33 (xs ++ ([(⟨last + 1, o, e, u, c⟩ : Lease)] : List Lease)).length ((xs ++ ([(⟨last + 1, o, e, u, c⟩ : Lease)] : List Lease)).flatMap leaseE), SlAt 5 v xs.length (xs.flatMap leaseE)] _ := M
    have e37 : (grantV xs most last o e u c).1 = xs ++ ([(⟨last + 1, o, e, u, c⟩ : Lease)] : List Lease) := by
      simp [grantV, leaseZ, h9p]
    have hf38 := Sh.reList e37 (M.shr' 0 rfl)
    refine ⟨v33, ?_, M.close [] rfl (by decide) ⟨hf38, trivial⟩⟩
    simp [grantV, leaseZ, h9p]

theorem ref_put {G : Nat → Prop} {w : World} (v : Value) (xs : List Lease) (most : Int) (last : Int) (x : Lease)  (hb : xs.length ≤ 1000000) (M : Mem G (fun _ => False) w [] [SlAt 5 v xs.length (xs.flatMap leaseE)] w) : Rets Try.prog 125 #[(Value.agg #[v, (Value.int .i64 most), (Value.int .u64 last)]), (Value.agg #[(Value.int .u64 x.id), (Value.int .i64 x.owner), (Value.int .u64 x.epoch), (Value.int .u64 x.till), (Value.bool x.cursor)])] w fun r w' => ∃ (v' : Value), r = (Value.agg #[v', (Value.int .i64 most), (Value.int .u64 last)]) ∧ Mem G (fun _ => False) w [] [SlAt 5 v' (putV xs x).length ((putV xs x).flatMap leaseE)] w' := by
  refine Rets.enter 45 _ Try.func125 rfl Try.ntmps125 Try.results125 (by simp) ?_
  have hle1 := SlAt.le' (M.rep 0 rfl)
  have sl2 : IsSl v := SlAt.isSl (Mem.rep M 0 rfl)
  refine W.seq' ?_
  refine W.region rfl ?_
  refine WL.box (v := (Value.agg #[v, (Value.int .i64 most), (Value.int .u64 last)])) (c := #[v, (Value.int .i64 most), (Value.int .u64 last)]) M rfl rfl rfl (fun b3 w4 hb3 M => ?_)
  refine WL.box (v := (Value.agg #[(Value.int .u64 x.id), (Value.int .i64 x.owner), (Value.int .u64 x.epoch), (Value.int .u64 x.till), (Value.bool x.cursor)])) (c := #[(Value.int .u64 x.id), (Value.int .i64 x.owner), (Value.int .u64 x.epoch), (Value.int .u64 x.till), (Value.bool x.cursor)]) M rfl rfl rfl (fun b5 w6 hb5 M => ?_)
  refine WL.alloc (c := #[(Value.slice none 0 0), (Value.int .i64 0), (Value.int .u64 0)]) M rfl Try.el80.zero rfl (fun b7 w8 hb7 M => ?_)
  refine WL.nil ?_
  refine W.seq' ?_
  refine W.region rfl ?_
  refine WL.step (v := (Value.pointer (some ⟨b3, 1, none⟩))) rfl (Step.pure (by kernel_rfl)) ?_
  refine WL.step (v := (Value.int .i64 most)) rfl (Step.load1 Try.sc3 rfl ((M.cell 2 rfl 1).trans rfl)) ?_
  refine WL.step (v := (Value.pointer (some ⟨b3, 2, none⟩))) rfl (Step.pure (by kernel_rfl)) ?_
  refine WL.step (v := (Value.int .u64 last)) rfl (Step.load1 Try.sc23 rfl ((M.cell 2 rfl 2).trans rfl)) ?_
  refine WL.step (v := (Value.agg #[(Value.slice none 0 0), (Value.int .i64 most), (Value.int .u64 last)])) rfl (Step.pure (by kernel_rfl)) ?_
  refine WL.alloc (c := #[(Value.slice none 0 0), (Value.int .i64 0), (Value.int .u64 0)]) M rfl Try.el80.zero rfl (fun b9 w10 hb9 M => ?_)
  refine WL.store (v := (Value.agg #[(Value.slice none 0 0), (Value.int .i64 most), (Value.int .u64 last)])) (cs := [(Value.slice none 0 0), (Value.int .i64 most), (Value.int .u64 last)]) (c' := #[(Value.slice none 0 0), (Value.int .i64 most), (Value.int .u64 last)]) M 0 rfl rfl Try.el80.sized rfl rfl rfl rfl (Nat.le_of_ble_eq_true rfl) (cel_cons rfl (cel_cons rfl (cel_cons rfl cel_nil))) rfl rfl (fun w11 M => ?_)
  refine WL.nil ?_
  refine W.seq' ?_
  refine W.seq' ?_
  refine W.region rfl ?_
  refine WL.step (v := (Value.int .i64 0)) rfl (Step.assign rfl) ?_
  refine WL.nil ?_
  refine W.block ?_
  replace M := M.ownNil 88 5
  replace M := M.rechunk 0 (c' := own 88 5 (Value.slice none 0 0) ((putV (xs.take 0) x).length) ((putV (xs.take 0) x).flatMap leaseE)) rfl rfl
  replace M : Mem _ _ _ [own 88 5 (Value.slice none 0 0) ((putV (xs.take 0) x).length) ((putV (xs.take 0) x).flatMap leaseE), blk b9 (.cells #[(Value.slice none 0 0), (Value.int .i64 most), (Value.int .u64 last)] 80), blk b7 (.cells #[(Value.slice none 0 0), (Value.int .i64 0), (Value.int .u64 0)] 80), blk b5 (.cells #[(Value.int .u64 x.id), (Value.int .i64 x.owner), (Value.int .u64 x.epoch), (Value.int .u64 x.till), (Value.bool x.cursor)] 88), blk b3 (.cells #[v, (Value.int .i64 most), (Value.int .u64 last)] 80)] [SlAt 5 v xs.length (xs.flatMap leaseE)] _ := M
  replace M := M.sel (L' := [blk b9 (.cells #[(Value.slice none 0 0), (Value.int .i64 most), (Value.int .u64 last)] 80), own 88 5 (Value.slice none 0 0) ((putV (xs.take 0) x).length) ((putV (xs.take 0) x).flatMap leaseE), blk b7 (.cells #[(Value.slice none 0 0), (Value.int .i64 0), (Value.int .u64 0)] 80), blk b5 (.cells #[(Value.int .u64 x.id), (Value.int .i64 x.owner), (Value.int .u64 x.epoch), (Value.int .u64 x.till), (Value.bool x.cursor)] 88), blk b3 (.cells #[v, (Value.int .i64 most), (Value.int .u64 last)] 80)]) [1, 0, 2, 3, 4] rfl (by decide)
  replace M : Mem _ _ _ [blk b9 (.cells #[(Value.slice none 0 0), (Value.int .i64 most), (Value.int .u64 last)] 80), own 88 5 (Value.slice none 0 0) ((putV (xs.take 0) x).length) ((putV (xs.take 0) x).flatMap leaseE), blk b7 (.cells #[(Value.slice none 0 0), (Value.int .i64 0), (Value.int .u64 0)] 80), blk b5 (.cells #[(Value.int .u64 x.id), (Value.int .i64 x.owner), (Value.int .u64 x.epoch), (Value.int .u64 x.till), (Value.bool x.cursor)] 88), blk b3 (.cells #[v, (Value.int .i64 most), (Value.int .u64 last)] 80)] [SlAt 5 v xs.length (xs.flatMap leaseE)] _ := M
  refine W.loop (fun kk ρ w' => ∃ (k_ : Nat) (v_ : Value), ((k_ ≤ xs.length) ∧ kk = xs.length - k_) ∧ ρ.has [(2, (Value.pointer (some ⟨b3, 0, none⟩))), (3, (Value.pointer (some ⟨b5, 0, none⟩))), (4, (Value.pointer (some ⟨b7, 0, none⟩))), (5, (Value.pointer (some ⟨b9, 0, none⟩))), (6, (Value.int .i64 ↑k_))] ∧ Mem G (fun _ => False) w [blk b9 (.cells #[v_, (Value.int .i64 most), (Value.int .u64 last)] 80), own 88 5 v_ ((putV (xs.take k_) x).length) ((putV (xs.take k_) x).flatMap leaseE), blk b7 (.cells #[(Value.slice none 0 0), (Value.int .i64 0), (Value.int .u64 0)] 80), blk b5 (.cells #[(Value.int .u64 x.id), (Value.int .i64 x.owner), (Value.int .u64 x.epoch), (Value.int .u64 x.till), (Value.bool x.cursor)] 88), blk b3 (.cells #[v, (Value.int .i64 most), (Value.int .u64 last)] 80)] [SlAt 5 v xs.length (xs.flatMap leaseE)]  w') _ ⟨0, _, ⟨(Nat.zero_le _), rfl⟩, ⟨rfl, rfl, rfl, rfl, rfl, rfl, rfl⟩, M⟩ ?_
  rintro _ ρ13 w12 ⟨k_, v_, ⟨hi14, rfl⟩, hρ, M⟩
  obtain ⟨ρ13, rfl⟩ := hρ.know
  clear hρ
  have sl15 : IsSl v_ := SlAt.isSl (own_slAt (M.chunk 1 rfl).inv)
  have hacl : (putV (xs.take k_) x).length ≤ 1000000 := by rw [put_len, List.length_take]; omega
  refine W.seq' ?_
  refine W.seq' ?_
  refine W.region rfl ?_
  refine WL.step (v := (Value.int .i64 ↑k_)) rfl (Step.move rfl) ?_
  refine WL.step (v := (Value.pointer (some ⟨b3, 0, none⟩))) rfl (Step.pure (by kernel_rfl)) ?_
  refine WL.step (v := v) rfl (Step.load1 Try.sc78 rfl ((M.cell 4 rfl 0).trans rfl)) ?_
  refine WL.step (v := (Value.int .i64 ↑xs.length)) rfl (Step.lenSl Try.un78 rfl (M.rep 0 rfl)) ?_
  refine WL.step (v := (Value.bool (decide ((↑k_ : Int) < (↑xs.length : Int))))) rfl (Step.pure (by kernel_rfl)) ?_
  refine WL.nil ?_
  refine W.cond (t := decide ((↑k_ : Int) < (↑xs.length : Int))) rfl (fun h16 => ?_) (fun h16 => ?_)
  ·
    have h16p := of_decide_eq_true h16
    refine W.skip ?_
    refine W.seq' ?_
    refine W.block ?_
    refine W.seq' ?_
    obtain ⟨cap18, hb17⟩ := SlAt.base (M.rep 0 rfl) (by omega)
    obtain ⟨x19, hx19⟩ := elem_of_lt (xs := xs) (i := k_) (by omega)
    refine W.drawn M [0, 1, 2, 3, 4, 5, 6, 7, 8] [] [] [blk b9 (.cells #[v_, (Value.int .i64 most), (Value.int .u64 last)] 80), own 88 5 v_ ((putV (xs.take k_) x).length) ((putV (xs.take k_) x).flatMap leaseE), blk b7 (.cells #[(Value.slice none 0 0), (Value.int .i64 0), (Value.int .u64 0)] 80), blk b5 (.cells #[(Value.int .u64 x.id), (Value.int .i64 x.owner), (Value.int .u64 x.epoch), (Value.int .u64 x.till), (Value.bool x.cursor)] 88), blk b3 (.cells #[v, (Value.int .i64 most), (Value.int .u64 last)] 80)] [SlAt 5 v xs.length (xs.flatMap leaseE)] (List.Sublist.cons_cons _ (List.Sublist.cons_cons _ (List.Sublist.cons_cons _ (List.Sublist.cons_cons _ (List.Sublist.cons_cons _ List.Sublist.slnil))))) (fun _ h => h) Try.mixed (by kernel_rfl) ?_
    refine TW.pure (v := (Value.pointer (some ⟨b3, 0, none⟩))) rfl (by decide) (by decide) rfl (fun w => (Step.pure (by kernel_rfl))) ?_
    refine TW.read (v := v) rfl (by decide) (by decide) rfl (fun A w M => (Step.load1 Try.sc78 rfl ((M.cell 5 rfl 0).trans rfl))) ?_
    refine TW.pure (v := (Value.int .i64 ↑k_)) rfl (by decide) (by decide) rfl (fun w => (Step.move rfl)) ?_
    refine TW.pure (v := (Value.pointer (some ⟨(sBlk v), sOff v + k_ * 5, none⟩))) rfl (by decide) (by decide) rfl (fun w => (Step.indexAddr (i := k_) (Try.un78).run Try.el88.sized rfl rfl (by omega) hb17 (by omega))) ?_
    refine TW.pure (v := (Value.pointer (some ⟨(sBlk v), sOff v + k_ * 5, none⟩))) rfl (by decide) (by decide) rfl (fun w => (Step.pure (by kernel_rfl))) ?_
    refine TW.read (v := (Value.int .u64 x19.id)) rfl (by decide) (by decide) rfl (fun A w M => (Step.loadE (k := 0) Try.sc23 (flat_ec (M.rep 0 rfl) hx19 leaseE_len) (by decide) rfl rfl)) ?_
    refine TW.pure (v := (Value.pointer (some ⟨b5, 0, none⟩))) rfl (by decide) (by decide) rfl (fun w => (Step.pure (by kernel_rfl))) ?_
    refine TW.read (v := (Value.int .u64 x.id)) rfl (by decide) (by decide) rfl (fun A w M => (Step.load1 Try.sc23 rfl ((M.cell 4 rfl 0).trans rfl))) ?_
    refine TW.pure (v := (Value.bool ((x19.id : Int) == (x.id : Int)))) rfl (by decide) (by decide) rfl (fun w => (Step.pure (by kernel_rfl))) ?_
    refine TW.done (fun w20 M => ?_)
    refine W.cond (t := (x19.id : Int) == (x.id : Int)) rfl (fun h21 => ?_) (fun h21 => ?_)
    ·
      have h21p : (x19.id : Int) = (x.id : Int) := by simpa using h21
      refine W.region rfl ?_
      refine WL.step (v := (Value.pointer (some ⟨b9, 0, none⟩))) rfl (Step.pure (by kernel_rfl)) ?_
      refine WL.step (v := v_) rfl (Step.load1 Try.sc78 rfl ((M.cell 0 rfl 0).trans rfl)) ?_
      refine WL.step (v := (Value.agg #[(Value.int .u64 x.id), (Value.int .i64 x.owner), (Value.int .u64 x.epoch), (Value.int .u64 x.till), (Value.bool x.cursor)])) rfl (Step.loadN Try.ag88 rfl (M.blk 3 rfl) (Nat.le_of_ble_eq_true rfl) rfl) ?_
      refine WL.new (obj := .cells #[(Value.int .u64 x.id), (Value.int .i64 x.owner), (Value.int .u64 x.epoch), (Value.int .u64 x.till), (Value.bool x.cursor)] 88) (fun b => .slice (some ⟨b, 0, none⟩) 1 1) M rfl (fun w => Step.make (by kernel_rfl)) (fun b22 w23 hb22 M => ?_)
      refine WL.does rfl (M.appendF (putV (xs.take k_) x) ([x] : List Lease) (sv := (Value.slice (some ⟨b22, 0, none⟩) 1 1)) 2 Try.un78 Try.el88 rfl (by decide) rfl rfl rfl (SlAt.of_blk (M.blk 0 rfl) rfl (by decide)) leaseE_cel (by have := hacl; simp only [maxLen, List.length_nil, List.length_cons, List.length_append]; omega) (by have := hacl; (try simp only [List.length_nil, List.length_cons, List.length_append]); omega)) ?_
      rintro v24 w25 M
      replace M : Mem _ _ _ [blk b22 (.cells #[(Value.int .u64 x.id), (Value.int .i64 x.owner), (Value.int .u64 x.epoch), (Value.int .u64 x.till), (Value.bool x.cursor)] 88), blk b9 (.cells #[v_, (Value.int .i64 most), (Value.int .u64 last)] 80), own 88 5 v24 (((putV (xs.take k_) x) ++ ([x] : List Lease)).length) (((putV (xs.take k_) x) ++ ([x] : List Lease)).flatMap leaseE), blk b7 (.cells #[(Value.slice none 0 0), (Value.int .i64 0), (Value.int .u64 0)] 80), blk b5 (.cells #[(Value.int .u64 x.id), (Value.int .i64 x.owner), (Value.int .u64 x.epoch), (Value.int .u64 x.till), (Value.bool x.cursor)] 88), blk b3 (.cells #[v, (Value.int .i64 most), (Value.int .u64 last)] 80)] [SlAt 5 v xs.length (xs.flatMap leaseE)] _ := M
      have sl26 : IsSl v24 := SlAt.isSl (own_slAt (M.chunk 2 rfl).inv)
      refine WL.step (v := (Value.pointer (some ⟨b9, 0, none⟩))) rfl (Step.pure (by kernel_rfl)) ?_
      refine WL.store (v := v24) (cs := [v24]) (c' := #[v24, (Value.int .i64 most), (Value.int .u64 last)]) M 1 rfl rfl Try.el78.sized rfl rfl (IsSl.list sl26) rfl (Nat.le_of_ble_eq_true rfl) (cel_cons (IsSl.cel sl26) cel_nil) rfl rfl (fun w27 M => ?_)
      refine WL.nil ?_
      refine W.region rfl ?_
      refine WL.step (v := (Value.int .i64 ↑k_)) rfl (Step.move rfl) ?_
      refine WL.step (v := (Value.int .i64 (↑k_ + 1))) rfl (Step.add rfl rfl (wrap_i64 (by omega))) ?_
      refine WL.step (v := (Value.int .i64 (↑k_ + 1))) rfl (Step.assign rfl) ?_
      refine WL.nil ?_
      replace M := M.rechunk 2 (c' := own 88 5 v24 ((putV (xs.take (k_ + 1)) x).length) ((putV (xs.take (k_ + 1)) x).flatMap leaseE)) rfl (by rw [put_snoc hx19, h21]; rfl)
      replace M : Mem _ _ _ [blk b22 (.cells #[(Value.int .u64 x.id), (Value.int .i64 x.owner), (Value.int .u64 x.epoch), (Value.int .u64 x.till), (Value.bool x.cursor)] 88), blk b9 (.cells #[v24, (Value.int .i64 most), (Value.int .u64 last)] 80), own 88 5 v24 ((putV (xs.take (k_ + 1)) x).length) ((putV (xs.take (k_ + 1)) x).flatMap leaseE), blk b7 (.cells #[(Value.slice none 0 0), (Value.int .i64 0), (Value.int .u64 0)] 80), blk b5 (.cells #[(Value.int .u64 x.id), (Value.int .i64 x.owner), (Value.int .u64 x.epoch), (Value.int .u64 x.till), (Value.bool x.cursor)] 88), blk b3 (.cells #[v, (Value.int .i64 most), (Value.int .u64 last)] 80)] [SlAt 5 v xs.length (xs.flatMap leaseE)] _ := M
      replace M := M.sel (L' := [blk b9 (.cells #[v24, (Value.int .i64 most), (Value.int .u64 last)] 80), own 88 5 v24 ((putV (xs.take (k_ + 1)) x).length) ((putV (xs.take (k_ + 1)) x).flatMap leaseE), blk b7 (.cells #[(Value.slice none 0 0), (Value.int .i64 0), (Value.int .u64 0)] 80), blk b5 (.cells #[(Value.int .u64 x.id), (Value.int .i64 x.owner), (Value.int .u64 x.epoch), (Value.int .u64 x.till), (Value.bool x.cursor)] 88), blk b3 (.cells #[v, (Value.int .i64 most), (Value.int .u64 last)] 80)]) [1, 2, 3, 4, 5] rfl (by decide)
      exact ⟨_, (by omega), k_ + 1, _, ⟨(by omega), rfl⟩, ⟨rfl, rfl, rfl, rfl, rfl, rfl, rfl⟩, M⟩
    ·
      have h21p : ¬ (x19.id : Int) = (x.id : Int) := by simpa using h21
      refine W.drawn M [0, 1, 2, 3, 4, 5, 6, 7, 8, 9, 10] [1, 8, 10] [7] [blk b7 (.cells #[(Value.slice none 0 0), (Value.int .i64 0), (Value.int .u64 0)] 80), blk b5 (.cells #[(Value.int .u64 x.id), (Value.int .i64 x.owner), (Value.int .u64 x.epoch), (Value.int .u64 x.till), (Value.bool x.cursor)] 88), blk b3 (.cells #[v, (Value.int .i64 most), (Value.int .u64 last)] 80)] [SlAt 5 v xs.length (xs.flatMap leaseE)] (List.Sublist.cons _ (List.Sublist.cons _ (List.Sublist.cons_cons _ (List.Sublist.cons_cons _ (List.Sublist.cons_cons _ List.Sublist.slnil))))) (fun _ h => h) Try.mixed (by kernel_rfl) ?_
      refine TW.pure (v := (Value.pointer (some ⟨b9, 0, none⟩))) rfl (by decide) (by decide) rfl (fun w => (Step.pure (by kernel_rfl))) ?_
      refine TW.readL (v := v_) rfl (by decide) rfl (List.Sublist.cons _ (List.Sublist.cons _ (List.Sublist.cons_cons _ (List.Sublist.cons_cons _ (List.Sublist.cons_cons _ List.Sublist.slnil))))) (fun r h => h) (fun A w M => (Step.load1 Try.sc78 rfl ((M.cell 1 rfl 0).trans rfl))) ?_
      refine TW.pure (v := (Value.pointer (some ⟨b3, 0, none⟩))) rfl (by decide) (by decide) rfl (fun w => (Step.pure (by kernel_rfl))) ?_
      refine TW.read (v := v) rfl (by decide) (by decide) rfl (fun A w M => (Step.load1 Try.sc78 rfl ((M.cell 3 rfl 0).trans rfl))) ?_
      refine TW.pure (v := (Value.int .i64 ↑k_)) rfl (by decide) (by decide) rfl (fun w => (Step.move rfl)) ?_
      refine TW.pure (v := (Value.pointer (some ⟨(sBlk v), sOff v + k_ * 5, none⟩))) rfl (by decide) (by decide) rfl (fun w => (Step.indexAddr (i := k_) (Try.un78).run Try.el88.sized rfl rfl (by omega) hb17 (by omega))) ?_
      refine TW.read (v := (Value.agg #[(Value.int .u64 x19.id), (Value.int .i64 x19.owner), (Value.int .u64 x19.epoch), (Value.int .u64 x19.till), (Value.bool x19.cursor)])) rfl (by decide) (by decide) rfl (fun A w M => (Step.loadEN (k := 0) (cs' := [(Value.int .u64 x19.id), (Value.int .i64 x19.owner), (Value.int .u64 x19.epoch), (Value.int .u64 x19.till), (Value.bool x19.cursor)]) Try.ag88 (flat_ec (M.rep 0 rfl) hx19 leaseE_len) (by decide) rfl rfl rfl)) ?_
      refine TW.new (obj := .cells #[(Value.int .u64 x19.id), (Value.int .i64 x19.owner), (Value.int .u64 x19.epoch), (Value.int .u64 x19.till), (Value.bool x19.cursor)] 88) (fun b => .slice (some ⟨b, 0, none⟩) 1 1) rfl (by decide) (by decide) rfl (fun w => Step.make (by kernel_rfl)) (fun b38 => ?_)
      refine TW.doesM (fun v_ => own 88 5 v_ (((putV (xs.take k_) x) ++ ([x19] : List Lease)).length) (((putV (xs.take k_) x) ++ ([x19] : List Lease)).flatMap leaseE)) 2 rfl rfl (by decide) rfl (fun v_ => (List.Sublist.cons _ (List.Sublist.cons _ (List.Sublist.cons _ (List.Sublist.cons_cons _ (List.Sublist.cons_cons _ (List.Sublist.cons_cons _ List.Sublist.slnil))))))) (fun r h => h) (fun A w M => M.appendF' (putV (xs.take k_) x) ([x19] : List Lease) (sv := (Value.slice (some ⟨b38, 0, none⟩) 1 1)) 3 Try.un78 Try.el88 rfl (by decide) rfl rfl rfl (SlAt.of_blk (M.blk 1 rfl) rfl (by decide)) leaseE_cel (by have := hacl; simp only [maxLen, List.length_nil, List.length_cons, List.length_append]; omega) (by have := hacl; (try simp only [List.length_nil, List.length_cons, List.length_append]); omega)) (fun v39 hin => ?_)
      obtain ⟨_, _, hin⟩ := hin
      have sl41 : IsSl v39 := SlAt.isSl (own_slAt (Mem.chunk hin 3 rfl).inv)
      clear hin
      change TW _ _ _ _ _ _ _ _ (MemA _ _ _ [blk b38 (.cells #[(Value.int .u64 x19.id), (Value.int .i64 x19.owner), (Value.int .u64 x19.epoch), (Value.int .u64 x19.till), (Value.bool x19.cursor)] 88), blk b9 (.cells #[v_, (Value.int .i64 most), (Value.int .u64 last)] 80), own 88 5 v39 (((putV (xs.take k_) x) ++ ([x19] : List Lease)).length) (((putV (xs.take k_) x) ++ ([x19] : List Lease)).flatMap leaseE), blk b7 (.cells #[(Value.slice none 0 0), (Value.int .i64 0), (Value.int .u64 0)] 80), blk b5 (.cells #[(Value.int .u64 x.id), (Value.int .i64 x.owner), (Value.int .u64 x.epoch), (Value.int .u64 x.till), (Value.bool x.cursor)] 88), blk b3 (.cells #[v, (Value.int .i64 most), (Value.int .u64 last)] 80)] [SlAt 5 v xs.length (xs.flatMap leaseE)])
      refine TW.pure (v := (Value.pointer (some ⟨b9, 0, none⟩))) rfl (by decide) (by decide) rfl (fun w => (Step.pure (by kernel_rfl))) ?_
      refine TW.store (v := v39) (cs := [v39]) (c' := #[v39, (Value.int .i64 most), (Value.int .u64 last)]) 1 rfl rfl (by decide) rfl Try.el78.sized rfl rfl (IsSl.list sl41) rfl (Nat.le_of_ble_eq_true rfl) (cel_cons (IsSl.cel sl41) cel_nil) rfl rfl (List.Sublist.cons _ (List.Sublist.cons _ (List.Sublist.cons _ (List.Sublist.cons_cons _ (List.Sublist.cons_cons _ (List.Sublist.cons_cons _ List.Sublist.slnil)))))) (fun r h => h) ?_
      refine TW.done (fun w42 M => ?_)
      refine W.region rfl ?_
      refine WL.step (v := (Value.int .i64 ↑k_)) rfl (Step.move rfl) ?_
      refine WL.step (v := (Value.int .i64 (↑k_ + 1))) rfl (Step.add rfl rfl (wrap_i64 (by omega))) ?_
      refine WL.step (v := (Value.int .i64 (↑k_ + 1))) rfl (Step.assign rfl) ?_
      refine WL.nil ?_
      replace M := M.rechunk 2 (c' := own 88 5 v39 ((putV (xs.take (k_ + 1)) x).length) ((putV (xs.take (k_ + 1)) x).flatMap leaseE)) rfl (by rw [put_snoc hx19, h21]; rfl)
      replace M : Mem _ _ _ [blk b38 (.cells #[(Value.int .u64 x19.id), (Value.int .i64 x19.owner), (Value.int .u64 x19.epoch), (Value.int .u64 x19.till), (Value.bool x19.cursor)] 88), blk b9 (.cells #[v39, (Value.int .i64 most), (Value.int .u64 last)] 80), own 88 5 v39 ((putV (xs.take (k_ + 1)) x).length) ((putV (xs.take (k_ + 1)) x).flatMap leaseE), blk b7 (.cells #[(Value.slice none 0 0), (Value.int .i64 0), (Value.int .u64 0)] 80), blk b5 (.cells #[(Value.int .u64 x.id), (Value.int .i64 x.owner), (Value.int .u64 x.epoch), (Value.int .u64 x.till), (Value.bool x.cursor)] 88), blk b3 (.cells #[v, (Value.int .i64 most), (Value.int .u64 last)] 80)] [SlAt 5 v xs.length (xs.flatMap leaseE)] _ := M
      replace M := M.sel (L' := [blk b9 (.cells #[v39, (Value.int .i64 most), (Value.int .u64 last)] 80), own 88 5 v39 ((putV (xs.take (k_ + 1)) x).length) ((putV (xs.take (k_ + 1)) x).flatMap leaseE), blk b7 (.cells #[(Value.slice none 0 0), (Value.int .i64 0), (Value.int .u64 0)] 80), blk b5 (.cells #[(Value.int .u64 x.id), (Value.int .i64 x.owner), (Value.int .u64 x.epoch), (Value.int .u64 x.till), (Value.bool x.cursor)] 88), blk b3 (.cells #[v, (Value.int .i64 most), (Value.int .u64 last)] 80)]) [1, 2, 3, 4, 5] rfl (by decide)
      exact ⟨_, (by omega), k_ + 1, _, ⟨(by omega), rfl⟩, ⟨rfl, rfl, rfl, rfl, rfl, rfl, rfl⟩, M⟩
  ·
    have h16p := of_decide_eq_false h16
    refine W.exit ?_
    refine thn_exit ?_
    refine thn_exit ?_
    refine inBlk_hit ?_
    refine W.seq' ?_
    refine W.region rfl ?_
    refine WL.step (v := (Value.agg #[v_, (Value.int .i64 most), (Value.int .u64 last)])) rfl (Step.loadN Try.ag80 rfl (M.blk 0 rfl) (Nat.le_of_ble_eq_true rfl) rfl) ?_
    refine WL.store (v := (Value.agg #[v_, (Value.int .i64 most), (Value.int .u64 last)])) (cs := [v_, (Value.int .i64 most), (Value.int .u64 last)]) (c' := #[v_, (Value.int .i64 most), (Value.int .u64 last)]) M 2 rfl rfl Try.el80.sized rfl rfl rfl rfl (Nat.le_of_ble_eq_true rfl) (cel_cons (IsSl.cel sl15) (cel_cons rfl (cel_cons rfl cel_nil))) rfl rfl (fun w43 M => ?_)
    refine WL.nil ?_
    refine W.ret ?_
    refine ⟨.inl rfl, (Value.agg #[v_, (Value.int .i64 most), (Value.int .u64 last)]), ?_, ?_⟩
    · exact ⟨rfl, (Res.r1 (RV.cellN Try.ag80 rfl (M.blk 2 rfl) rfl))⟩
    replace M := M.shareOwn 1 rfl
    replace M : Mem _ _ _ [blk b9 (.cells #[v_, (Value.int .i64 most), (Value.int .u64 last)] 80), blk b7 (.cells #[v_, (Value.int .i64 most), (Value.int .u64 last)] 80), blk b5 (.cells #[(Value.int .u64 x.id), (Value.int .i64 x.owner), (Value.int .u64 x.epoch), (Value.int .u64 x.till), (Value.bool x.cursor)] 88), blk b3 (.cells #[v, (Value.int .i64 most), (Value.int .u64 last)] 80)] [SlAt 5 v_ (putV (xs.take k_) x).length ((putV (xs.take k_) x).flatMap leaseE), SlAt 5 v xs.length (xs.flatMap leaseE)] _ := M
    have e44 : putV xs x = putV (xs.take k_) x := by
      rw [show k_ = xs.length by omega, List.take_length]
    have hf45 := Sh.reList e44 (M.shr' 0 rfl)
    refine ⟨v_, ?_, M.close [] rfl (by decide) ⟨hf45, trivial⟩⟩
    rfl
end Go.Proofs
