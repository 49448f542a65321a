/- Walks. -/
import Derived.Test.YtlehkjkpgmkbiaaTrC7
import Derived.Test.YtlehkjkpgmkbiaaTrChain
set_option maxRecDepth 100000
set_option linter.all false
namespace Go.Proofs
open Go Tp
theorem Try.el45 : Elem Try.prog 45 (Value.agg #[(Value.int .i64 0), (Value.int .i64 0), (Value.int .i64 0), (Value.int .i64 0)]) 4 32 := Elem.mk (by kernel_rfl)
theorem Try.en25 : Enters Try.prog 25 := fun _ _ => by kernel_rfl

theorem ref_at {G : Nat → Prop} {w : World} (v : Value) (l : List Ver) (e : Int)  (hc : chainP l) (M : Mem G (fun _ => False) w [] [SlAt 6 v l.length (l.flatMap verE)] w) : Rets Try.prog 25 #[v, (Value.int .u64 e)] w fun r w' => r = (Value.tuple #[(Value.agg #[(Value.int .i64 ((atV l e).count)), (Value.int .i64 ((atV l e).sum)), (Value.int .i64 ((atV l e).min)), (Value.int .i64 ((atV l e).max))]), (Value.bool (!decide (atV l e = aggZ)))]) ∧ Mem G (fun _ => False) w [] [] w' := by
  refine Rets.enter 33 _ Try.func25 rfl Try.ntmps25 Try.results25 (by simp) ?_
  have hle1 := SlAt.le' (M.rep 0 rfl)
  have sl2 : IsSl v := SlAt.isSl (Mem.rep M 0 rfl)
  refine W.seq' ?_
  refine W.region rfl ?_
  refine WL.alloc (c := #[(Value.int .i64 0), (Value.int .i64 0), (Value.int .i64 0), (Value.int .i64 0)]) M rfl Try.el45.zero rfl (fun b3 w4 hb3 M => ?_)
  refine WL.step (v := (Value.bool false)) rfl (Step.assign rfl) ?_
  refine WL.nil ?_
  refine W.seq' ?_
  refine W.seq' ?_
  refine W.region rfl ?_
  refine WL.step (v := v) rfl (Step.move rfl) ?_
  refine WL.step (v := (Value.int .i64 ↑l.length)) rfl (Step.lenSl Try.un41 rfl (M.rep 0 rfl)) ?_
  refine WL.step (v := (Value.int .i64 ((↑l.length : Int) - 1))) rfl (Step.sub rfl rfl (wrap_i64 (by omega))) ?_
  refine WL.step (v := (Value.int .i64 ((↑l.length : Int) - 1))) rfl (Step.assign rfl) ?_
  refine WL.nil ?_
  refine W.block ?_
  refine W.loop (fun kk ρ w' => ∃ (m_ : Nat), ((m_ ≤ l.length) ∧ (∀ (j : Nat) (u : Ver), m_ ≤ j → l[j]? = some u → ¬ u.epoch ≤ e) ∧ kk = m_ + 1) ∧ ρ.has [(0, v), (1, (Value.int .u64 e)), (4, (Value.pointer (some ⟨b3, 0, none⟩))), (6, (Value.int .i64 ((↑m_ : Int) - 1)))] ∧ Mem G (fun _ => False) w [blk b3 (.cells #[(Value.int .i64 0), (Value.int .i64 0), (Value.int .i64 0), (Value.int .i64 0)] 45)] [SlAt 6 v l.length (l.flatMap verE)]  w') _ ⟨l.length, ⟨(Nat.le_refl _), (fun j u hj hu => absurd (List.getElem?_eq_some_iff.1 hu).1 (by omega)), rfl⟩, ⟨rfl, rfl, rfl, rfl, rfl, rfl⟩, M⟩ ?_
  rintro _ ρ6 w5 ⟨m_, ⟨hi7, hi8, rfl⟩, hρ, M⟩
  obtain ⟨ρ6, rfl⟩ := hρ.know
  clear hρ
  refine W.seq' ?_
  refine W.seq' ?_
  refine W.region rfl ?_
  refine WL.step (v := (Value.int .i64 ((↑m_ : Int) - 1))) rfl (Step.move rfl) ?_
  refine WL.step (v := (Value.bool (decide (((↑m_ : Int) - 1 : Int) ≥ (0 : Int))))) rfl (Step.pure (by kernel_rfl)) ?_
  refine WL.nil ?_
  refine W.cond (t := decide (((↑m_ : Int) - 1 : Int) ≥ (0 : Int))) rfl (fun h9 => ?_) (fun h9 => ?_)
  ·
    have h9p := of_decide_eq_true h9
    refine W.skip ?_
    refine W.seq' ?_
    refine W.block ?_
    refine W.seq' ?_
    refine W.region rfl ?_
    refine WL.step (v := v) rfl (Step.move rfl) ?_
    refine WL.step (v := (Value.int .i64 ((↑m_ : Int) - 1))) rfl (Step.move rfl) ?_
    obtain ⟨cap11, hb10⟩ := SlAt.base (M.rep 0 rfl) (by omega)
    obtain ⟨x12, hx12⟩ := elem_of_lt (xs := l) (i := m_ - 1) (by omega)
    refine WL.step (v := (Value.pointer (some ⟨(sBlk v), sOff v + (m_ - 1) * 6, none⟩))) rfl (Step.indexAddr (i := m_ - 1) (Try.un41).run Try.el51.sized rfl rfl (by omega) hb10 (by omega)) ?_
    refine WL.step (v := (Value.pointer (some ⟨(sBlk v), sOff v + (m_ - 1) * 6, none⟩))) rfl (Step.pure (by kernel_rfl)) ?_
    refine WL.step (v := (Value.int .u64 x12.epoch)) rfl (Step.loadE (k := 0) Try.sc23 (flat_ec (M.rep 0 rfl) hx12 verE_len) (by decide) rfl rfl) ?_
    refine WL.step (v := (Value.int .u64 e)) rfl (Step.move rfl) ?_
    refine WL.step (v := (Value.bool (decide ((x12.epoch : Int) ≤ (e : Int))))) rfl (Step.pure (by kernel_rfl)) ?_
    refine WL.nil ?_
    refine W.cond (t := decide ((x12.epoch : Int) ≤ (e : Int))) rfl (fun h13 => ?_) (fun h13 => ?_)
    ·
      have h13p := of_decide_eq_true h13
      refine W.seq' ?_
      refine W.drawn M [0, 1, 2, 3, 4, 5, 6, 7, 8, 9, 10, 11, 12] [11] [] [] [SlAt 6 v l.length (l.flatMap verE)] (List.Sublist.cons _ List.Sublist.slnil) (fun _ h => h) Try.mixed (by kernel_rfl) ?_
      refine TW.pure (v := v) rfl (by decide) (by decide) rfl (fun w => (Step.move rfl)) ?_
      refine TW.pure (v := (Value.int .i64 ((↑m_ : Int) - 1))) rfl (by decide) (by decide) rfl (fun w => (Step.move rfl)) ?_
      refine TW.pure (v := (Value.pointer (some ⟨(sBlk v), sOff v + (m_ - 1) * 6, none⟩))) rfl (by decide) (by decide) rfl (fun w => (Step.indexAddr (i := m_ - 1) (Try.un41).run Try.el51.sized rfl rfl (by omega) hb10 (by omega))) ?_
      refine TW.pure (v := (Value.pointer (some ⟨(sBlk v), sOff v + (m_ - 1) * 6 + 2, none⟩))) rfl (by decide) (by decide) rfl (fun w => (Step.pure (by kernel_rfl))) ?_
      refine TW.read (v := (Value.agg #[(Value.int .i64 x12.agg.count), (Value.int .i64 x12.agg.sum), (Value.int .i64 x12.agg.min), (Value.int .i64 x12.agg.max)])) rfl (by decide) (by decide) rfl (fun A w M => (Step.loadEN (k := 2) (cs' := [(Value.int .i64 x12.agg.count), (Value.int .i64 x12.agg.sum), (Value.int .i64 x12.agg.min), (Value.int .i64 x12.agg.max)]) Try.ag45 (flat_ec (M.rep 0 rfl) hx12 verE_len) (by decide) rfl rfl rfl)) ?_
      refine TW.pure (v := v) rfl (by decide) (by decide) rfl (fun w => (Step.move rfl)) ?_
      refine TW.pure (v := (Value.int .i64 ((↑m_ : Int) - 1))) rfl (by decide) (by decide) rfl (fun w => (Step.move rfl)) ?_
      refine TW.pure (v := (Value.pointer (some ⟨(sBlk v), sOff v + (m_ - 1) * 6, none⟩))) rfl (by decide) (by decide) rfl (fun w => (Step.indexAddr (i := m_ - 1) (Try.un41).run Try.el51.sized rfl rfl (by omega) hb10 (by omega))) ?_
      refine TW.pure (v := (Value.pointer (some ⟨(sBlk v), sOff v + (m_ - 1) * 6 + 1, none⟩))) rfl (by decide) (by decide) rfl (fun w => (Step.pure (by kernel_rfl))) ?_
      refine TW.read (v := (Value.bool x12.dead)) rfl (by decide) (by decide) rfl (fun A w M => (Step.loadE (k := 1) Try.sc4 (flat_ec (M.rep 0 rfl) hx12 verE_len) (by decide) rfl rfl)) ?_
      refine TW.pure (v := (Value.bool !x12.dead)) rfl (by decide) (by decide) rfl (fun w => (Step.pure (by kernel_rfl))) ?_
      refine TW.store (v := (Value.agg #[(Value.int .i64 x12.agg.count), (Value.int .i64 x12.agg.sum), (Value.int .i64 x12.agg.min), (Value.int .i64 x12.agg.max)])) (cs := [(Value.int .i64 x12.agg.count), (Value.int .i64 x12.agg.sum), (Value.int .i64 x12.agg.min), (Value.int .i64 x12.agg.max)]) (c' := #[(Value.int .i64 x12.agg.count), (Value.int .i64 x12.agg.sum), (Value.int .i64 x12.agg.min), (Value.int .i64 x12.agg.max)]) 0 rfl rfl (by decide) rfl Try.el45.sized rfl rfl rfl rfl (Nat.le_of_ble_eq_true rfl) (cel_cons rfl (cel_cons rfl (cel_cons rfl (cel_cons rfl cel_nil)))) rfl rfl (List.Sublist.cons _ List.Sublist.slnil) (fun r h => h) ?_
      refine TW.pure (v := (Value.bool !x12.dead)) rfl (by decide) (by decide) rfl (fun w => (Step.assign rfl)) ?_
      refine TW.done (fun w16 M => ?_)
      refine W.ret ?_
      refine ⟨.inl rfl, (Value.tuple #[(Value.agg #[(Value.int .i64 x12.agg.count), (Value.int .i64 x12.agg.sum), (Value.int .i64 x12.agg.min), (Value.int .i64 x12.agg.max)]), (Value.bool !x12.dead)]), ?_, ?_⟩
      · exact ⟨rfl, (Res.r2 (RV.cellN Try.ag45 rfl (M.blk 0 rfl) rfl) (show RV _ _ _ (.tmp 5) (Value.bool !x12.dead) from by exact rfl))⟩
      refine ⟨?_, M.close [] rfl (by decide) trivial⟩
      rw [atV_hit hx12 h13p (fun j u hj => hi8 j u (by omega))]
      rw [← rightV_dead (hc.right hx12)]
    ·
      have h13p := of_decide_eq_false h13
      refine W.skip ?_
      refine W.region rfl ?_
      refine WL.step (v := (Value.int .i64 ((↑m_ : Int) - 1))) rfl (Step.move rfl) ?_
      refine WL.step (v := (Value.int .i64 ((↑(m_ - 1) : Int) - 1))) rfl (Step.cast (congrArg (Value.int .i64) (by omega)) (Step.sub rfl rfl (wrap_i64 (by omega)))) ?_
      refine WL.step (v := (Value.int .i64 ((↑(m_ - 1) : Int) - 1))) rfl (Step.cast (congrArg (Value.int .i64) (by omega)) (Step.assign rfl)) ?_
      refine WL.nil ?_
      exact ⟨_, (by omega), m_ - 1, ⟨(by omega), (above_step hi8 hx12 h13p), rfl⟩, ⟨rfl, rfl, rfl, rfl, rfl, rfl⟩, M⟩
  ·
    have h9p := of_decide_eq_false h9
    refine W.exit ?_
    refine thn_exit ?_
    refine thn_exit ?_
    refine inBlk_hit ?_
    refine W.seq' ?_
    refine W.region rfl ?_
    refine WL.step (v := (Value.agg #[(Value.int .i64 0), (Value.int .i64 0), (Value.int .i64 0), (Value.int .i64 0)])) rfl (Step.pure (by kernel_rfl)) ?_
    refine WL.store (v := (Value.agg #[(Value.int .i64 0), (Value.int .i64 0), (Value.int .i64 0), (Value.int .i64 0)])) (cs := [(Value.int .i64 0), (Value.int .i64 0), (Value.int .i64 0), (Value.int .i64 0)]) (c' := #[(Value.int .i64 0), (Value.int .i64 0), (Value.int .i64 0), (Value.int .i64 0)]) M 0 rfl rfl Try.el45.sized rfl rfl rfl rfl (Nat.le_of_ble_eq_true rfl) (cel_cons rfl (cel_cons rfl (cel_cons rfl (cel_cons rfl cel_nil)))) rfl rfl (fun w17 M => ?_)
    refine WL.step (v := (Value.bool false)) rfl (Step.assign rfl) ?_
    refine WL.nil ?_
    refine W.ret ?_
    refine ⟨.inl rfl, (Value.tuple #[(Value.agg #[(Value.int .i64 0), (Value.int .i64 0), (Value.int .i64 0), (Value.int .i64 0)]), (Value.bool false)]), ?_, ?_⟩
    · exact ⟨rfl, (Res.r2 (RV.cellN Try.ag45 rfl (M.blk 0 rfl) rfl) (show RV _ _ _ (.tmp 5) (Value.bool false) from by exact rfl))⟩
    refine ⟨?_, M.close [] rfl (by decide) trivial⟩
    rw [atV_none (fun j u => hi8 j u (by omega))]
    rfl

theorem ref_next {G : Nat → Prop} {w : World} (v : Value) (l : List Ver) (e : Int)   (M : Mem G (fun _ => False) w [] [SlAt 6 v l.length (l.flatMap verE)] w) : Rets Try.prog 27 #[v, (Value.int .u64 e)] w fun r w' => r = (Value.tuple #[(Value.agg #[(Value.int .u64 (((nextV l e).1).epoch)), (Value.bool (((nextV l e).1).dead)), (Value.int .i64 (((nextV l e).1).agg.count)), (Value.int .i64 (((nextV l e).1).agg.sum)), (Value.int .i64 (((nextV l e).1).agg.min)), (Value.int .i64 (((nextV l e).1).agg.max))]), (Value.bool ((nextV l e).2))]) ∧ Mem G (fun _ => False) w [] [] w' := by
  refine Rets.enter 25 _ Try.func27 rfl Try.ntmps27 Try.results27 (by simp) ?_
  have hle1 := SlAt.le' (M.rep 0 rfl)
  have sl2 : IsSl v := SlAt.isSl (Mem.rep M 0 rfl)
  refine W.seq' ?_
  refine W.region rfl ?_
  refine WL.alloc (c := #[(Value.int .u64 0), (Value.bool false), (Value.int .i64 0), (Value.int .i64 0), (Value.int .i64 0), (Value.int .i64 0)]) M rfl Try.el51.zero rfl (fun b3 w4 hb3 M => ?_)
  refine WL.step (v := (Value.bool false)) rfl (Step.assign rfl) ?_
  refine WL.nil ?_
  refine W.seq' ?_
  refine W.seq' ?_
  refine W.region rfl ?_
  refine WL.step (v := (Value.int .i64 0)) rfl (Step.assign rfl) ?_
  refine WL.nil ?_
  refine W.block ?_
  refine W.loop (fun kk ρ w' => ∃ (i_ : Nat), ((i_ ≤ l.length) ∧ (∀ (j : Nat) (u : Ver), j < i_ → l[j]? = some u → (fun v => decide (v.epoch > e)) u = false) ∧ kk = l.length - i_) ∧ ρ.has [(0, v), (1, (Value.int .u64 e)), (4, (Value.pointer (some ⟨b3, 0, none⟩))), (6, (Value.int .i64 ↑i_))] ∧ Mem G (fun _ => False) w [blk b3 (.cells #[(Value.int .u64 0), (Value.bool false), (Value.int .i64 0), (Value.int .i64 0), (Value.int .i64 0), (Value.int .i64 0)] 51)] [SlAt 6 v l.length (l.flatMap verE)]  w') _ ⟨0, ⟨(Nat.zero_le _), (fun _ _ h => absurd h (Nat.not_lt_zero _)), rfl⟩, ⟨rfl, rfl, rfl, rfl, rfl, rfl⟩, M⟩ ?_
  rintro _ ρ6 w5 ⟨i_, ⟨hi7, hi8, rfl⟩, hρ, M⟩
  obtain ⟨ρ6, rfl⟩ := hρ.know
  clear hρ
  refine W.seq' ?_
  refine W.seq' ?_
  refine W.region rfl ?_
  refine WL.step (v := (Value.int .i64 ↑i_)) rfl (Step.move rfl) ?_
  refine WL.step (v := v) rfl (Step.move rfl) ?_
  refine WL.step (v := (Value.int .i64 ↑l.length)) rfl (Step.lenSl Try.un41 rfl (M.rep 0 rfl)) ?_
  refine WL.step (v := (Value.bool (decide ((↑i_ : Int) < (↑l.length : Int))))) rfl (Step.pure (by kernel_rfl)) ?_
  refine WL.nil ?_
  refine W.cond (t := decide ((↑i_ : Int) < (↑l.length : Int))) rfl (fun h9 => ?_) (fun h9 => ?_)
  ·
    have h9p := of_decide_eq_true h9
    refine W.skip ?_
    refine W.seq' ?_
    refine W.block ?_
    refine W.seq' ?_
    refine W.region rfl ?_
    refine WL.step (v := v) rfl (Step.move rfl) ?_
    refine WL.step (v := (Value.int .i64 ↑i_)) rfl (Step.move rfl) ?_
    obtain ⟨cap11, hb10⟩ := SlAt.base (M.rep 0 rfl) (by omega)
    obtain ⟨x12, hx12⟩ := elem_of_lt (xs := l) (i := i_) (by omega)
    refine WL.step (v := (Value.pointer (some ⟨(sBlk v), sOff v + i_ * 6, none⟩))) rfl (Step.indexAddr (i := i_) (Try.un41).run Try.el51.sized rfl rfl (by omega) hb10 (by omega)) ?_
    refine WL.step (v := (Value.pointer (some ⟨(sBlk v), sOff v + i_ * 6, none⟩))) rfl (Step.pure (by kernel_rfl)) ?_
    refine WL.step (v := (Value.int .u64 x12.epoch)) rfl (Step.loadE (k := 0) Try.sc23 (flat_ec (M.rep 0 rfl) hx12 verE_len) (by decide) rfl rfl) ?_
    refine WL.step (v := (Value.int .u64 e)) rfl (Step.move rfl) ?_
    refine WL.step (v := (Value.bool (decide ((x12.epoch : Int) > (e : Int))))) rfl (Step.pure (by kernel_rfl)) ?_
    refine WL.nil ?_
    refine W.cond (t := decide ((x12.epoch : Int) > (e : Int))) rfl (fun h13 => ?_) (fun h13 => ?_)
    ·
      have h13p := of_decide_eq_true h13
      refine W.seq' ?_
      refine W.region rfl ?_
      refine WL.step (v := v) rfl (Step.move rfl) ?_
      refine WL.step (v := (Value.int .i64 ↑i_)) rfl (Step.move rfl) ?_
      refine WL.step (v := (Value.pointer (some ⟨(sBlk v), sOff v + i_ * 6, none⟩))) rfl (Step.indexAddr (i := i_) (Try.un41).run Try.el51.sized rfl rfl (by omega) hb10 (by omega)) ?_
      refine WL.step (v := (Value.agg #[(Value.int .u64 x12.epoch), (Value.bool x12.dead), (Value.int .i64 x12.agg.count), (Value.int .i64 x12.agg.sum), (Value.int .i64 x12.agg.min), (Value.int .i64 x12.agg.max)])) rfl (Step.loadEN (k := 0) (cs' := [(Value.int .u64 x12.epoch), (Value.bool x12.dead), (Value.int .i64 x12.agg.count), (Value.int .i64 x12.agg.sum), (Value.int .i64 x12.agg.min), (Value.int .i64 x12.agg.max)]) Try.ag51 (flat_ec (M.rep 0 rfl) hx12 verE_len) (by decide) rfl rfl rfl) ?_
      refine WL.store (v := (Value.agg #[(Value.int .u64 x12.epoch), (Value.bool x12.dead), (Value.int .i64 x12.agg.count), (Value.int .i64 x12.agg.sum), (Value.int .i64 x12.agg.min), (Value.int .i64 x12.agg.max)])) (cs := [(Value.int .u64 x12.epoch), (Value.bool x12.dead), (Value.int .i64 x12.agg.count), (Value.int .i64 x12.agg.sum), (Value.int .i64 x12.agg.min), (Value.int .i64 x12.agg.max)]) (c' := #[(Value.int .u64 x12.epoch), (Value.bool x12.dead), (Value.int .i64 x12.agg.count), (Value.int .i64 x12.agg.sum), (Value.int .i64 x12.agg.min), (Value.int .i64 x12.agg.max)]) M 0 rfl rfl Try.el51.sized rfl rfl rfl rfl (Nat.le_of_ble_eq_true rfl) (cel_cons rfl (cel_cons rfl (cel_cons rfl (cel_cons rfl (cel_cons rfl (cel_cons rfl cel_nil)))))) rfl rfl (fun w14 M => ?_)
      refine WL.step (v := (Value.bool true)) rfl (Step.assign rfl) ?_
      refine WL.nil ?_
      refine W.ret ?_
      refine ⟨.inl rfl, (Value.tuple #[(Value.agg #[(Value.int .u64 x12.epoch), (Value.bool x12.dead), (Value.int .i64 x12.agg.count), (Value.int .i64 x12.agg.sum), (Value.int .i64 x12.agg.min), (Value.int .i64 x12.agg.max)]), (Value.bool true)]), ?_, ?_⟩
      · exact ⟨rfl, (Res.r2 (RV.cellN Try.ag51 rfl (M.blk 0 rfl) rfl) (show RV _ _ _ (.tmp 5) (Value.bool true) from by exact rfl))⟩
      refine ⟨?_, M.close [] rfl (by decide) trivial⟩
      rw [show nextV l e = (_, true) from firstV_hit hx12 h13 hi8]
    ·
      have h13p := of_decide_eq_false h13
      refine W.skip ?_
      refine W.region rfl ?_
      refine WL.step (v := (Value.int .i64 ↑i_)) rfl (Step.move rfl) ?_
      refine WL.step (v := (Value.int .i64 (↑i_ + 1))) rfl (Step.add rfl rfl (wrap_i64 (by omega))) ?_
      refine WL.step (v := (Value.int .i64 (↑i_ + 1))) rfl (Step.assign rfl) ?_
      refine WL.nil ?_
      exact ⟨_, (by omega), i_ + 1, ⟨(by omega), (below_stepG hi8 hx12 (by simpa using h13)), rfl⟩, ⟨rfl, rfl, rfl, rfl, rfl, rfl⟩, M⟩
  ·
    have h9p := of_decide_eq_false h9
    refine W.exit ?_
    refine thn_exit ?_
    refine thn_exit ?_
    refine inBlk_hit ?_
    refine W.seq' ?_
    refine W.region rfl ?_
    refine WL.step (v := (Value.agg #[(Value.int .u64 0), (Value.bool false), (Value.int .i64 0), (Value.int .i64 0), (Value.int .i64 0), (Value.int .i64 0)])) rfl (Step.pure (by kernel_rfl)) ?_
    refine WL.store (v := (Value.agg #[(Value.int .u64 0), (Value.bool false), (Value.int .i64 0), (Value.int .i64 0), (Value.int .i64 0), (Value.int .i64 0)])) (cs := [(Value.int .u64 0), (Value.bool false), (Value.int .i64 0), (Value.int .i64 0), (Value.int .i64 0), (Value.int .i64 0)]) (c' := #[(Value.int .u64 0), (Value.bool false), (Value.int .i64 0), (Value.int .i64 0), (Value.int .i64 0), (Value.int .i64 0)]) M 0 rfl rfl Try.el51.sized rfl rfl rfl rfl (Nat.le_of_ble_eq_true rfl) (cel_cons rfl (cel_cons rfl (cel_cons rfl (cel_cons rfl (cel_cons rfl (cel_cons rfl cel_nil)))))) rfl rfl (fun w15 M => ?_)
    refine WL.step (v := (Value.bool false)) rfl (Step.assign rfl) ?_
    refine WL.nil ?_
    refine W.ret ?_
    refine ⟨.inl rfl, (Value.tuple #[(Value.agg #[(Value.int .u64 0), (Value.bool false), (Value.int .i64 0), (Value.int .i64 0), (Value.int .i64 0), (Value.int .i64 0)]), (Value.bool false)]), ?_, ?_⟩
    · exact ⟨rfl, (Res.r2 (RV.cellN Try.ag51 rfl (M.blk 0 rfl) rfl) (show RV _ _ _ (.tmp 5) (Value.bool false) from by exact rfl))⟩
    refine ⟨?_, M.close [] rfl (by decide) trivial⟩
    rw [show nextV l e = (verZ, false) from firstV_none hi8 (by omega)]
    try rfl

theorem ref_differs {G : Nat → Prop} {w : World} (v : Value) (l : List Ver) (a : Int) (b : Int)  (hc : chainP l) (M : Mem G (fun _ => False) w [] [SlAt 6 v l.length (l.flatMap verE)] w) : Rets Try.prog 30 #[v, (Value.int .u64 a), (Value.int .u64 b)] w fun r w' => r = (Value.bool (!decide (atV l a = atV l b))) ∧ Mem G (fun _ => False) w [] [] w' := by
  refine Rets.enter 34 _ Try.func30 rfl Try.ntmps30 Try.results30 (by simp) ?_
  have hle1 := SlAt.le' (M.rep 0 rfl)
  have sl2 : IsSl v := SlAt.isSl (Mem.rep M 0 rfl)
  refine W.seq' ?_
  refine W.region rfl ?_
  refine WL.step (v := (Value.bool false)) rfl (Step.assign rfl) ?_
  refine WL.nil ?_
  refine W.seq' ?_
  refine W.region rfl ?_
  refine WL.step (v := v) rfl (Step.move rfl) ?_
  refine WL.step (v := (Value.int .u64 a)) rfl (Step.move rfl) ?_
  refine WL.callX rfl (ref_at v l a (by assumption) (M.enterW0 ⟨(M.wideR0 0 rfl), trivial⟩)) (CallsF.func Try.en25 rfl) ?_
  rintro _ w3 ⟨rfl, m⟩
  replace M := M.leaveW0 m
  clear m
  replace M : Mem _ _ _ [] [SlAt 6 v l.length (l.flatMap verE)] _ := M
  refine WL.step (v := (Value.tuple #[(Value.agg #[(Value.int .i64 ((atV l a).count)), (Value.int .i64 ((atV l a).sum)), (Value.int .i64 ((atV l a).min)), (Value.int .i64 ((atV l a).max))]), (Value.bool (!decide (atV l a = aggZ)))])) rfl (Step.move rfl) ?_
  refine WL.step (v := (Value.agg #[(Value.int .i64 ((atV l a).count)), (Value.int .i64 ((atV l a).sum)), (Value.int .i64 ((atV l a).min)), (Value.int .i64 ((atV l a).max))])) rfl (Step.pure (by kernel_rfl)) ?_
  refine WL.step (v := (Value.bool (!decide (atV l a = aggZ)))) rfl (Step.pure (by kernel_rfl)) ?_
  refine WL.alloc (c := #[(Value.int .i64 0), (Value.int .i64 0), (Value.int .i64 0), (Value.int .i64 0)]) M rfl Try.el45.zero rfl (fun b4 w5 hb4 M => ?_)
  refine WL.store (v := (Value.agg #[(Value.int .i64 ((atV l a).count)), (Value.int .i64 ((atV l a).sum)), (Value.int .i64 ((atV l a).min)), (Value.int .i64 ((atV l a).max))])) (cs := [(Value.int .i64 ((atV l a).count)), (Value.int .i64 ((atV l a).sum)), (Value.int .i64 ((atV l a).min)), (Value.int .i64 ((atV l a).max))]) (c' := #[(Value.int .i64 ((atV l a).count)), (Value.int .i64 ((atV l a).sum)), (Value.int .i64 ((atV l a).min)), (Value.int .i64 ((atV l a).max))]) M 0 rfl rfl Try.el45.sized rfl rfl rfl rfl (Nat.le_of_ble_eq_true rfl) (cel_cons rfl (cel_cons rfl (cel_cons rfl (cel_cons rfl cel_nil)))) rfl rfl (fun w6 M => ?_)
  refine WL.step (v := (Value.bool (!decide (atV l a = aggZ)))) rfl (Step.assign rfl) ?_
  refine WL.nil ?_
  refine W.seq' ?_
  refine W.region rfl ?_
  refine WL.step (v := v) rfl (Step.move rfl) ?_
  refine WL.step (v := (Value.int .u64 b)) rfl (Step.move rfl) ?_
  refine WL.callX rfl (ref_at v l b (by assumption) (M.enterW0 ⟨(M.wideR0 0 rfl), trivial⟩)) (CallsF.func Try.en25 rfl) ?_
  rintro _ w7 ⟨rfl, m⟩
  replace M := M.leaveW0 m
  clear m
  replace M : Mem _ _ _ [blk b4 (.cells #[(Value.int .i64 ((atV l a).count)), (Value.int .i64 ((atV l a).sum)), (Value.int .i64 ((atV l a).min)), (Value.int .i64 ((atV l a).max))] 45)] [SlAt 6 v l.length (l.flatMap verE)] _ := M
  refine WL.step (v := (Value.tuple #[(Value.agg #[(Value.int .i64 ((atV l b).count)), (Value.int .i64 ((atV l b).sum)), (Value.int .i64 ((atV l b).min)), (Value.int .i64 ((atV l b).max))]), (Value.bool (!decide (atV l b = aggZ)))])) rfl (Step.move rfl) ?_
  refine WL.step (v := (Value.agg #[(Value.int .i64 ((atV l b).count)), (Value.int .i64 ((atV l b).sum)), (Value.int .i64 ((atV l b).min)), (Value.int .i64 ((atV l b).max))])) rfl (Step.pure (by kernel_rfl)) ?_
  refine WL.step (v := (Value.bool (!decide (atV l b = aggZ)))) rfl (Step.pure (by kernel_rfl)) ?_
  refine WL.alloc (c := #[(Value.int .i64 0), (Value.int .i64 0), (Value.int .i64 0), (Value.int .i64 0)]) M rfl Try.el45.zero rfl (fun b8 w9 hb8 M => ?_)
  refine WL.store (v := (Value.agg #[(Value.int .i64 ((atV l b).count)), (Value.int .i64 ((atV l b).sum)), (Value.int .i64 ((atV l b).min)), (Value.int .i64 ((atV l b).max))])) (cs := [(Value.int .i64 ((atV l b).count)), (Value.int .i64 ((atV l b).sum)), (Value.int .i64 ((atV l b).min)), (Value.int .i64 ((atV l b).max))]) (c' := #[(Value.int .i64 ((atV l b).count)), (Value.int .i64 ((atV l b).sum)), (Value.int .i64 ((atV l b).min)), (Value.int .i64 ((atV l b).max))]) M 0 rfl rfl Try.el45.sized rfl rfl rfl rfl (Nat.le_of_ble_eq_true rfl) (cel_cons rfl (cel_cons rfl (cel_cons rfl (cel_cons rfl cel_nil)))) rfl rfl (fun w10 M => ?_)
  refine WL.step (v := (Value.bool (!decide (atV l b = aggZ)))) rfl (Step.assign rfl) ?_
  refine WL.nil ?_
  refine W.seq' ?_
  refine W.region rfl ?_
  refine WL.step (v := (Value.bool (!decide (atV l a = aggZ)))) rfl (Step.move rfl) ?_
  refine WL.step (v := (Value.bool (!decide (atV l b = aggZ)))) rfl (Step.move rfl) ?_
  refine WL.step (v := (Value.bool (!((!decide (atV l a = aggZ)) == (!decide (atV l b = aggZ)))))) rfl (Step.pure (by kernel_rfl)) ?_
  refine WL.step (v := (Value.bool (!((!decide (atV l a = aggZ)) == (!decide (atV l b = aggZ)))))) rfl (Step.move rfl) ?_
  rcases Bool.eq_false_or_eq_true (!((!decide (atV l a = aggZ)) == (!decide (atV l b = aggZ)))) with h11 | h11
  ·
    rw [h11]
    refine WL.pass rfl ?_
    refine WL.pass rfl ?_
    refine WL.pass rfl ?_
    refine WL.pass rfl ?_
    refine WL.pass rfl ?_
    refine WL.pass rfl ?_
    refine WL.step (v := (Value.bool true)) rfl (Step.pick (t := true) rfl rfl) ?_
    refine WL.step (v := (Value.bool true)) rfl (Step.assign rfl) ?_
    refine WL.nil ?_
    refine W.ret ?_
    refine ⟨.inl rfl, (Value.bool true), ?_, ?_⟩
    · exact ⟨rfl, (Res.r1 (show RV _ _ _ (.tmp 6) (Value.bool true) from by exact rfl))⟩
    refine ⟨?_, M.close [] rfl (by decide) trivial⟩
    refine congrArg Value.bool ?_
    rcases Classical.em (atV l a = aggZ) with ha_ | ha_ <;> rcases Classical.em (atV l b = aggZ) with hb_ | hb_ <;> simp_all <;> exact fun h => by simp_all
  ·
    rw [h11]
    refine WL.step (v := (Value.bool (!decide (atV l a = aggZ)))) rfl (Step.move rfl) ?_
    refine WL.step (v := (Value.bool (!decide (atV l a = aggZ)))) rfl (Step.move rfl) ?_
    rcases Bool.eq_false_or_eq_true (!decide (atV l a = aggZ)) with h12 | h12
    ·
      rw [h12]
      refine WL.step (v := (Value.agg #[(Value.int .i64 ((atV l a).count)), (Value.int .i64 ((atV l a).sum)), (Value.int .i64 ((atV l a).min)), (Value.int .i64 ((atV l a).max))])) rfl (Step.loadN Try.ag45 rfl (M.blk 1 rfl) (Nat.le_of_ble_eq_true rfl) rfl) ?_
      refine WL.step (v := (Value.agg #[(Value.int .i64 ((atV l b).count)), (Value.int .i64 ((atV l b).sum)), (Value.int .i64 ((atV l b).min)), (Value.int .i64 ((atV l b).max))])) rfl (Step.loadN Try.ag45 rfl (M.blk 0 rfl) (Nat.le_of_ble_eq_true rfl) rfl) ?_
      refine WL.step (v := (Value.bool (!decide ((atV l a) = (atV l b))))) rfl (Step.cast (congrArg (fun z => Value.bool (!z)) (agg_eqB (atV l a) (atV l b))) (Step.neqAgg Try.eg45 rfl rfl rfl (Try.eq45 9998 ((atV l a).count : Int) ((atV l a).sum : Int) ((atV l a).min : Int) ((atV l a).max : Int) ((atV l b).count : Int) ((atV l b).sum : Int) ((atV l b).min : Int) ((atV l b).max : Int)))) ?_
      refine WL.step (v := (Value.bool (!decide ((atV l a) = (atV l b))))) rfl (Step.pick (t := true) rfl rfl) ?_
      refine WL.step (v := (Value.bool (!decide ((atV l a) = (atV l b))))) rfl (Step.pick (t := false) rfl rfl) ?_
      refine WL.step (v := (Value.bool (!decide ((atV l a) = (atV l b))))) rfl (Step.assign rfl) ?_
      refine WL.nil ?_
      refine W.ret ?_
      refine ⟨.inl rfl, (Value.bool (!decide ((atV l a) = (atV l b)))), ?_, ?_⟩
      · exact ⟨rfl, (Res.r1 (show RV _ _ _ (.tmp 6) (Value.bool (!decide ((atV l a) = (atV l b)))) from by exact rfl))⟩
      refine ⟨?_, M.close [] rfl (by decide) trivial⟩
      refine congrArg Value.bool ?_
      rcases Classical.em (atV l a = aggZ) with ha_ | ha_ <;> rcases Classical.em (atV l b = aggZ) with hb_ | hb_ <;> simp_all <;> exact fun h => by simp_all
    ·
      rw [h12]
      refine WL.pass rfl ?_
      refine WL.pass rfl ?_
      refine WL.pass rfl ?_
      refine WL.step (v := (Value.bool false)) rfl (Step.pick (t := false) rfl rfl) ?_
      refine WL.step (v := (Value.bool false)) rfl (Step.pick (t := false) rfl rfl) ?_
      refine WL.step (v := (Value.bool false)) rfl (Step.assign rfl) ?_
      refine WL.nil ?_
      refine W.ret ?_
      refine ⟨.inl rfl, (Value.bool false), ?_, ?_⟩
      · exact ⟨rfl, (Res.r1 (show RV _ _ _ (.tmp 6) (Value.bool false) from by exact rfl))⟩
      refine ⟨?_, M.close [] rfl (by decide) trivial⟩
      refine congrArg Value.bool ?_
      rcases Classical.em (atV l a = aggZ) with ha_ | ha_ <;> rcases Classical.em (atV l b = aggZ) with hb_ | hb_ <;> simp_all <;> exact fun h => by simp_all

theorem ref_garb {G : Nat → Prop} {w : World} (v : Value) (l : List Ver) (e : Int) (f : Int)  (hc : chainP l) (M : Mem G (fun _ => False) w [] [SlAt 6 v l.length (l.flatMap verE)] w) : Rets Try.prog 31 #[v, (Value.int .u64 e), (Value.int .u64 f)] w fun r w' => r = (Value.bool (garb l e f)) ∧ Mem G (fun _ => False) w [] [] w' := by
  refine Rets.enter 50 _ Try.func31 rfl Try.ntmps31 Try.results31 (by simp) ?_
  have hle1 := SlAt.le' (M.rep 0 rfl)
  have sl2 : IsSl v := SlAt.isSl (Mem.rep M 0 rfl)
  refine W.seq' ?_
  refine W.region rfl ?_
  refine WL.step (v := (Value.bool false)) rfl (Step.assign rfl) ?_
  refine WL.nil ?_
  refine W.seq' ?_
  refine W.seq' ?_
  refine W.region rfl ?_
  refine WL.step (v := (Value.int .i64 0)) rfl (Step.assign rfl) ?_
  refine WL.nil ?_
  refine W.block ?_
  refine W.loop (fun kk ρ w' => ∃ (i_ : Nat), ((i_ ≤ l.length) ∧ (∀ (j : Nat) (u : Ver), j < i_ → l[j]? = some u → (fun v => v.epoch == e) u = false) ∧ kk = l.length - i_) ∧ ρ.has [(0, v), (1, (Value.int .u64 e)), (2, (Value.int .u64 f)), (7, (Value.int .i64 ↑i_))] ∧ Mem G (fun _ => False) w [] [SlAt 6 v l.length (l.flatMap verE)]  w') _ ⟨0, ⟨(Nat.zero_le _), (fun _ _ h => absurd h (Nat.not_lt_zero _)), rfl⟩, ⟨rfl, rfl, rfl, rfl, rfl, rfl⟩, M⟩ ?_
  rintro _ ρ4 w3 ⟨i_, ⟨hi5, hi6, rfl⟩, hρ, M⟩
  obtain ⟨ρ4, rfl⟩ := hρ.know
  clear hρ
  refine W.seq' ?_
  refine W.seq' ?_
  refine W.region rfl ?_
  refine WL.step (v := (Value.int .i64 ↑i_)) rfl (Step.move rfl) ?_
  refine WL.step (v := v) rfl (Step.move rfl) ?_
  refine WL.step (v := (Value.int .i64 ↑l.length)) rfl (Step.lenSl Try.un41 rfl (M.rep 0 rfl)) ?_
  refine WL.step (v := (Value.bool (decide ((↑i_ : Int) < (↑l.length : Int))))) rfl (Step.pure (by kernel_rfl)) ?_
  refine WL.nil ?_
  refine W.cond (t := decide ((↑i_ : Int) < (↑l.length : Int))) rfl (fun h7 => ?_) (fun h7 => ?_)
  ·
    have h7p := of_decide_eq_true h7
    refine W.skip ?_
    refine W.seq' ?_
    refine W.block ?_
    refine W.seq' ?_
    refine W.seq' ?_
    refine W.region rfl ?_
    refine WL.step (v := v) rfl (Step.move rfl) ?_
    refine WL.step (v := (Value.int .i64 ↑i_)) rfl (Step.move rfl) ?_
    obtain ⟨cap9, hb8⟩ := SlAt.base (M.rep 0 rfl) (by omega)
    obtain ⟨x10, hx10⟩ := elem_of_lt (xs := l) (i := i_) (by omega)
    refine WL.step (v := (Value.pointer (some ⟨(sBlk v), sOff v + i_ * 6, none⟩))) rfl (Step.indexAddr (i := i_) (Try.un41).run Try.el51.sized rfl rfl (by omega) hb8 (by omega)) ?_
    refine WL.step (v := (Value.pointer (some ⟨(sBlk v), sOff v + i_ * 6, none⟩))) rfl (Step.pure (by kernel_rfl)) ?_
    refine WL.step (v := (Value.int .u64 x10.epoch)) rfl (Step.loadE (k := 0) Try.sc23 (flat_ec (M.rep 0 rfl) hx10 verE_len) (by decide) rfl rfl) ?_
    refine WL.step (v := (Value.int .u64 e)) rfl (Step.move rfl) ?_
    refine WL.step (v := (Value.bool ((x10.epoch : Int) != (e : Int)))) rfl (Step.pure (by kernel_rfl)) ?_
    refine WL.nil ?_
    refine W.cond (t := (x10.epoch : Int) != (e : Int)) rfl (fun h11 => ?_) (fun h11 => ?_)
    ·
      have h11p : ¬ (x10.epoch : Int) = (e : Int) := by simpa using h11
      refine W.exit ?_
      refine thn_exit ?_
      refine inBlk_hit ?_
      refine W.region rfl ?_
      refine WL.step (v := (Value.int .i64 ↑i_)) rfl (Step.move rfl) ?_
      refine WL.step (v := (Value.int .i64 (↑i_ + 1))) rfl (Step.add rfl rfl (wrap_i64 (by omega))) ?_
      refine WL.step (v := (Value.int .i64 (↑i_ + 1))) rfl (Step.assign rfl) ?_
      refine WL.nil ?_
      exact ⟨_, (by omega), i_ + 1, ⟨(by omega), (below_stepG hi6 hx10 (by simpa using h11)), rfl⟩, ⟨rfl, rfl, rfl, rfl, rfl, rfl⟩, M⟩
    ·
      have h11p : (x10.epoch : Int) = (e : Int) := by simpa using h11
      refine W.skip ?_
      refine W.seq' ?_
      refine W.seq' ?_
      refine W.region rfl ?_
      refine WL.step (v := (Value.int .i64 ↑i_)) rfl (Step.move rfl) ?_
      refine WL.step (v := (Value.int .i64 (↑i_ + 1))) rfl (Step.add rfl rfl (wrap_i64 (by omega))) ?_
      refine WL.step (v := v) rfl (Step.move rfl) ?_
      refine WL.step (v := (Value.int .i64 ↑l.length)) rfl (Step.lenSl Try.un41 rfl (M.rep 0 rfl)) ?_
      refine WL.step (v := (Value.bool (decide ((↑i_ + 1 : Int) < (↑l.length : Int))))) rfl (Step.pure (by kernel_rfl)) ?_
      refine WL.step (v := (Value.bool (decide ((↑i_ + 1 : Int) < (↑l.length : Int))))) rfl (Step.move rfl) ?_
      rcases Bool.eq_false_or_eq_true (decide ((↑i_ + 1 : Int) < (↑l.length : Int))) with h12 | h12
      ·
        have h12p := of_decide_eq_true h12
        rw [h12]
        refine WL.step (v := v) rfl (Step.move rfl) ?_
        refine WL.step (v := (Value.int .i64 ↑i_)) rfl (Step.move rfl) ?_
        refine WL.step (v := (Value.int .i64 (↑i_ + 1))) rfl (Step.add rfl rfl (wrap_i64 (by omega))) ?_
        obtain ⟨x13, hx13⟩ := elem_of_lt (xs := l) (i := i_ + 1) (by omega)
        refine WL.step (v := (Value.pointer (some ⟨(sBlk v), sOff v + (i_ + 1) * 6, none⟩))) rfl (Step.indexAddr (i := i_ + 1) (Try.un41).run Try.el51.sized rfl rfl (by omega) hb8 (by omega)) ?_
        refine WL.step (v := (Value.pointer (some ⟨(sBlk v), sOff v + (i_ + 1) * 6, none⟩))) rfl (Step.pure (by kernel_rfl)) ?_
        refine WL.step (v := (Value.int .u64 x13.epoch)) rfl (Step.loadE (k := 0) Try.sc23 (flat_ec (M.rep 0 rfl) hx13 verE_len) (by decide) rfl rfl) ?_
        refine WL.step (v := (Value.int .u64 f)) rfl (Step.move rfl) ?_
        refine WL.step (v := (Value.bool (decide ((x13.epoch : Int) ≤ (f : Int))))) rfl (Step.pure (by kernel_rfl)) ?_
        refine WL.step (v := (Value.bool (decide ((x13.epoch : Int) ≤ (f : Int))))) rfl (Step.pick (t := true) rfl rfl) ?_
        refine WL.nil ?_
        refine W.cond (t := decide ((x13.epoch : Int) ≤ (f : Int))) rfl (fun h14 => ?_) (fun h14 => ?_)
        ·
          have h14p := of_decide_eq_true h14
          refine W.seq' ?_
          refine W.region rfl ?_
          refine WL.step (v := (Value.bool true)) rfl (Step.assign rfl) ?_
          refine WL.nil ?_
          refine W.ret ?_
          refine ⟨.inl rfl, (Value.bool true), ?_, ?_⟩
          · exact ⟨rfl, (Res.r1 (show RV _ _ _ (.tmp 6) (Value.bool true) from by exact rfl))⟩
          refine ⟨?_, M.close [] rfl (by decide) trivial⟩
          rw [← h11p]
          rw [garb_yes hc hx10 hx13 h14p]
        ·
          have h14p := of_decide_eq_false h14
          refine W.skip ?_
          refine W.seq' ?_
          refine W.region rfl ?_
          refine WL.step (v := (Value.int .i64 ↑i_)) rfl (Step.move rfl) ?_
          refine WL.step (v := (Value.bool ((↑i_ : Int) == (0 : Int)))) rfl (Step.pure (by kernel_rfl)) ?_
          refine WL.step (v := (Value.bool ((↑i_ : Int) == (0 : Int)))) rfl (Step.move rfl) ?_
          rcases Bool.eq_false_or_eq_true ((↑i_ : Int) == (0 : Int)) with h15 | h15
          ·
            have h15p : (↑i_ : Int) = (0 : Int) := by simpa using h15
            rw [h15]
            refine WL.step (v := v) rfl (Step.move rfl) ?_
            refine WL.step (v := (Value.int .i64 ↑i_)) rfl (Step.move rfl) ?_
            refine WL.step (v := (Value.pointer (some ⟨(sBlk v), sOff v + i_ * 6, none⟩))) rfl (Step.indexAddr (i := i_) (Try.un41).run Try.el51.sized rfl rfl (by omega) hb8 (by omega)) ?_
            refine WL.step (v := (Value.pointer (some ⟨(sBlk v), sOff v + i_ * 6 + 1, none⟩))) rfl (Step.pure (by kernel_rfl)) ?_
            refine WL.step (v := (Value.bool x10.dead)) rfl (Step.loadE (k := 1) Try.sc4 (flat_ec (M.rep 0 rfl) hx10 verE_len) (by decide) rfl rfl) ?_
            refine WL.step (v := (Value.bool x10.dead)) rfl (Step.pick (t := true) rfl rfl) ?_
            refine WL.step (v := (Value.bool x10.dead)) rfl (Step.move rfl) ?_
            rcases Bool.eq_false_or_eq_true (x10.dead) with h16 | h16
            ·
              rw [h16]
              refine WL.step (v := (Value.int .u64 e)) rfl (Step.move rfl) ?_
              refine WL.step (v := (Value.int .u64 f)) rfl (Step.move rfl) ?_
              refine WL.step (v := (Value.bool (decide ((e : Int) ≤ (f : Int))))) rfl (Step.pure (by kernel_rfl)) ?_
              refine WL.step (v := (Value.bool (decide ((e : Int) ≤ (f : Int))))) rfl (Step.pick (t := true) rfl rfl) ?_
              refine WL.step (v := (Value.bool (decide ((e : Int) ≤ (f : Int))))) rfl (Step.assign rfl) ?_
              refine WL.nil ?_
              refine W.ret ?_
              refine ⟨.inl rfl, (Value.bool (decide ((e : Int) ≤ (f : Int)))), ?_, ?_⟩
              · exact ⟨rfl, (Res.r1 (show RV _ _ _ (.tmp 6) (Value.bool (decide ((e : Int) ≤ (f : Int)))) from by exact rfl))⟩
              refine ⟨?_, M.close [] rfl (by decide) trivial⟩
              rw [← h11p]
              rw [garb_first hc hx10 (fun w hw => by rw [hx13] at hw; cases hw; exact h14p)]
              have hi0_ : decide (i_ = 0) = true := decide_eq_true (by omega)
              simp [hi0_, h16]
            ·
              rw [h16]
              refine WL.pass rfl ?_
              refine WL.pass rfl ?_
              refine WL.pass rfl ?_
              refine WL.step (v := (Value.bool false)) rfl (Step.pick (t := false) rfl rfl) ?_
              refine WL.step (v := (Value.bool false)) rfl (Step.assign rfl) ?_
              refine WL.nil ?_
              refine W.ret ?_
              refine ⟨.inl rfl, (Value.bool false), ?_, ?_⟩
              · exact ⟨rfl, (Res.r1 (show RV _ _ _ (.tmp 6) (Value.bool false) from by exact rfl))⟩
              refine ⟨?_, M.close [] rfl (by decide) trivial⟩
              rw [← h11p]
              rw [garb_first hc hx10 (fun w hw => by rw [hx13] at hw; cases hw; exact h14p)]
              have hi0_ : decide (i_ = 0) = true := decide_eq_true (by omega)
              simp [hi0_, h16]
          ·
            have h15p : ¬ (↑i_ : Int) = (0 : Int) := by simpa using h15
            rw [h15]
            refine WL.pass rfl ?_
            refine WL.pass rfl ?_
            refine WL.pass rfl ?_
            refine WL.pass rfl ?_
            refine WL.pass rfl ?_
            refine WL.step (v := (Value.bool false)) rfl (Step.pick (t := false) rfl rfl) ?_
            refine WL.step (v := (Value.bool false)) rfl (Step.move rfl) ?_
            refine WL.pass rfl ?_
            refine WL.pass rfl ?_
            refine WL.pass rfl ?_
            refine WL.step (v := (Value.bool false)) rfl (Step.pick (t := false) rfl rfl) ?_
            refine WL.step (v := (Value.bool false)) rfl (Step.assign rfl) ?_
            refine WL.nil ?_
            refine W.ret ?_
            refine ⟨.inl rfl, (Value.bool false), ?_, ?_⟩
            · exact ⟨rfl, (Res.r1 (show RV _ _ _ (.tmp 6) (Value.bool false) from by exact rfl))⟩
            refine ⟨?_, M.close [] rfl (by decide) trivial⟩
            rw [← h11p]
            rw [garb_first hc hx10 (fun w hw => by rw [hx13] at hw; cases hw; exact h14p)]
            have hi0_ : decide (i_ = 0) = false := decide_eq_false (by omega)
            simp [hi0_]
      ·
        have h12p := of_decide_eq_false h12
        rw [h12]
        refine WL.pass rfl ?_
        refine WL.pass rfl ?_
        refine WL.pass rfl ?_
        refine WL.pass rfl ?_
        refine WL.pass rfl ?_
        refine WL.pass rfl ?_
        refine WL.pass rfl ?_
        refine WL.pass rfl ?_
        refine WL.step (v := (Value.bool false)) rfl (Step.pick (t := false) rfl rfl) ?_
        refine WL.nil ?_
        refine W.cond (t := false) rfl (fun h => by cases h) (fun _ => ?_)
        refine W.skip ?_
        refine W.seq' ?_
        refine W.region rfl ?_
        refine WL.step (v := (Value.int .i64 ↑i_)) rfl (Step.move rfl) ?_
        refine WL.step (v := (Value.bool ((↑i_ : Int) == (0 : Int)))) rfl (Step.pure (by kernel_rfl)) ?_
        refine WL.step (v := (Value.bool ((↑i_ : Int) == (0 : Int)))) rfl (Step.move rfl) ?_
        rcases Bool.eq_false_or_eq_true ((↑i_ : Int) == (0 : Int)) with h17 | h17
        ·
          have h17p : (↑i_ : Int) = (0 : Int) := by simpa using h17
          rw [h17]
          refine WL.step (v := v) rfl (Step.move rfl) ?_
          refine WL.step (v := (Value.int .i64 ↑i_)) rfl (Step.move rfl) ?_
          refine WL.step (v := (Value.pointer (some ⟨(sBlk v), sOff v + i_ * 6, none⟩))) rfl (Step.indexAddr (i := i_) (Try.un41).run Try.el51.sized rfl rfl (by omega) hb8 (by omega)) ?_
          refine WL.step (v := (Value.pointer (some ⟨(sBlk v), sOff v + i_ * 6 + 1, none⟩))) rfl (Step.pure (by kernel_rfl)) ?_
          refine WL.step (v := (Value.bool x10.dead)) rfl (Step.loadE (k := 1) Try.sc4 (flat_ec (M.rep 0 rfl) hx10 verE_len) (by decide) rfl rfl) ?_
          refine WL.step (v := (Value.bool x10.dead)) rfl (Step.pick (t := true) rfl rfl) ?_
          refine WL.step (v := (Value.bool x10.dead)) rfl (Step.move rfl) ?_
          rcases Bool.eq_false_or_eq_true (x10.dead) with h18 | h18
          ·
            rw [h18]
            refine WL.step (v := (Value.int .u64 e)) rfl (Step.move rfl) ?_
            refine WL.step (v := (Value.int .u64 f)) rfl (Step.move rfl) ?_
            refine WL.step (v := (Value.bool (decide ((e : Int) ≤ (f : Int))))) rfl (Step.pure (by kernel_rfl)) ?_
            refine WL.step (v := (Value.bool (decide ((e : Int) ≤ (f : Int))))) rfl (Step.pick (t := true) rfl rfl) ?_
            refine WL.step (v := (Value.bool (decide ((e : Int) ≤ (f : Int))))) rfl (Step.assign rfl) ?_
            refine WL.nil ?_
            refine W.ret ?_
            refine ⟨.inl rfl, (Value.bool (decide ((e : Int) ≤ (f : Int)))), ?_, ?_⟩
            · exact ⟨rfl, (Res.r1 (show RV _ _ _ (.tmp 6) (Value.bool (decide ((e : Int) ≤ (f : Int)))) from by exact rfl))⟩
            refine ⟨?_, M.close [] rfl (by decide) trivial⟩
            rw [← h11p]
            rw [garb_first hc hx10 (fun w hw => absurd (List.getElem?_eq_some_iff.1 hw).1 (by omega))]
            have hi0_ : decide (i_ = 0) = true := decide_eq_true (by omega)
            simp [hi0_, h18]
          ·
            rw [h18]
            refine WL.pass rfl ?_
            refine WL.pass rfl ?_
            refine WL.pass rfl ?_
            refine WL.step (v := (Value.bool false)) rfl (Step.pick (t := false) rfl rfl) ?_
            refine WL.step (v := (Value.bool false)) rfl (Step.assign rfl) ?_
            refine WL.nil ?_
            refine W.ret ?_
            refine ⟨.inl rfl, (Value.bool false), ?_, ?_⟩
            · exact ⟨rfl, (Res.r1 (show RV _ _ _ (.tmp 6) (Value.bool false) from by exact rfl))⟩
            refine ⟨?_, M.close [] rfl (by decide) trivial⟩
            rw [← h11p]
            rw [garb_first hc hx10 (fun w hw => absurd (List.getElem?_eq_some_iff.1 hw).1 (by omega))]
            have hi0_ : decide (i_ = 0) = true := decide_eq_true (by omega)
            simp [hi0_, h18]
        ·
          have h17p : ¬ (↑i_ : Int) = (0 : Int) := by simpa using h17
          rw [h17]
          refine WL.pass rfl ?_
          refine WL.pass rfl ?_
          refine WL.pass rfl ?_
          refine WL.pass rfl ?_
          refine WL.pass rfl ?_
          refine WL.step (v := (Value.bool false)) rfl (Step.pick (t := false) rfl rfl) ?_
          refine WL.step (v := (Value.bool false)) rfl (Step.move rfl) ?_
          refine WL.pass rfl ?_
          refine WL.pass rfl ?_
          refine WL.pass rfl ?_
          refine WL.step (v := (Value.bool false)) rfl (Step.pick (t := false) rfl rfl) ?_
          refine WL.step (v := (Value.bool false)) rfl (Step.assign rfl) ?_
          refine WL.nil ?_
          refine W.ret ?_
          refine ⟨.inl rfl, (Value.bool false), ?_, ?_⟩
          · exact ⟨rfl, (Res.r1 (show RV _ _ _ (.tmp 6) (Value.bool false) from by exact rfl))⟩
          refine ⟨?_, M.close [] rfl (by decide) trivial⟩
          rw [← h11p]
          rw [garb_first hc hx10 (fun w hw => absurd (List.getElem?_eq_some_iff.1 hw).1 (by omega))]
          have hi0_ : decide (i_ = 0) = false := decide_eq_false (by omega)
          simp [hi0_]
  ·
    have h7p := of_decide_eq_false h7
    refine W.exit ?_
    refine thn_exit ?_
    refine thn_exit ?_
    refine inBlk_hit ?_
    refine W.seq' ?_
    refine W.region rfl ?_
    refine WL.step (v := (Value.bool false)) rfl (Step.assign rfl) ?_
    refine WL.nil ?_
    refine W.ret ?_
    refine ⟨.inl rfl, (Value.bool false), ?_, ?_⟩
    · exact ⟨rfl, (Res.r1 (show RV _ _ _ (.tmp 6) (Value.bool false) from by exact rfl))⟩
    refine ⟨?_, M.close [] rfl (by decide) trivial⟩
    rw [garb_none hi6 (by omega)]
end Go.Proofs
