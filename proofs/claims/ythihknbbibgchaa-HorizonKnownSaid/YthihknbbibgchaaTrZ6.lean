/- Walks. -/
import Derived.Test.YthihknbbibgchaaTrZ5
set_option maxRecDepth 100000
set_option linter.all false
namespace Go.Proofs
open Go Tp
theorem Try.un125 : Und Try.prog 125 (.slice 3) := by unfold Und; kernel_rfl
theorem Try.el3 : Elem Try.prog 3 (Value.int .i64 0) 1 8 := Elem.mk (by kernel_rfl)
theorem Try.en49 : Enters Try.prog 49 := fun _ _ => by kernel_rfl
theorem Try.en50 : Enters Try.prog 50 := fun _ _ => by kernel_rfl
theorem Try.en51 : Enters Try.prog 51 := fun _ _ => by kernel_rfl
theorem Try.en52 : Enters Try.prog 52 := fun _ _ => by kernel_rfl
theorem Try.en71 : Enters Try.prog 71 := fun _ _ => by kernel_rfl
theorem Try.en72 : Enters Try.prog 72 := fun _ _ => by kernel_rfl
theorem Try.en75 : Enters Try.prog 75 := fun _ _ => by kernel_rfl
theorem Try.en76 : Enters Try.prog 76 := fun _ _ => by kernel_rfl
theorem Try.sc3 : Scal Try.prog 3 := fun _ => by kernel_rfl

theorem ref23_drop {G : Nat → Prop} {w : World} (rv : Value) (rs : List PinH) (rf : Int) (s : Int) (i : Int)  (hbd : rs.length ≤ 900000) (M : Mem G (fun _ => False) w [] [SlAt 3 rv rs.length (rs.flatMap pinE)] w) : Rets Try.prog 45 #[(Value.agg #[rv, (Value.int .u64 rf)]), (Value.int .u8 s), (Value.int .u64 i)] w fun r w' => ∃ (rv' : Value), r = (Value.tuple #[(Value.agg #[rv', (Value.int .u64 rf)]), (Value.bool (heldB s i rs))]) ∧ Mem G (fun _ => False) w [] [SlAt 3 rv' (drR rs s i).length ((drR rs s i).flatMap pinE)] w' := by
  refine Rets.enter 24 _ Try.func45 rfl Try.ntmps45 Try.results45 (by simp) ?_
  have hle1 := SlAt.le' (M.rep 0 rfl)
  have sl2 : IsSl rv := SlAt.isSl (Mem.rep M 0 rfl)
  refine W.seq' ?_
  refine W.region rfl ?_
  refine WL.box (v := (Value.agg #[rv, (Value.int .u64 rf)])) (c := #[rv, (Value.int .u64 rf)]) M rfl rfl rfl (fun b3 w4 hb3 M => ?_)
  refine WL.alloc (c := #[(Value.slice none 0 0), (Value.int .u64 0)]) M rfl Try.el30.zero rfl (fun b5 w6 hb5 M => ?_)
  refine WL.step (v := (Value.bool false)) rfl (Step.assign rfl) ?_
  refine WL.nil ?_
  refine W.seq' ?_
  refine W.region rfl ?_
  refine WL.step (v := (Value.pointer (some ⟨b3, 0, none⟩))) rfl (Step.pure (by kernel_rfl)) ?_
  refine WL.step (v := rv) rfl (Step.load1 Try.sc28 rfl ((M.cell 1 rfl 0).trans rfl)) ?_
  refine WL.step (v := (Value.int .u8 s)) rfl (Step.move rfl) ?_
  refine WL.step (v := (Value.int .u64 i)) rfl (Step.move rfl) ?_
  refine WL.callX rfl (ref23_find rv rs s i (M.enterW0 ⟨(M.wideR0 0 rfl), trivial⟩)) (CallsF.func Try.en53 rfl) ?_
  rintro _ w7 ⟨rfl, m⟩
  replace M := M.leaveW0 m
  clear m
  replace M : Mem _ _ _ [blk b5 (.cells #[(Value.slice none 0 0), (Value.int .u64 0)] 30), blk b3 (.cells #[rv, (Value.int .u64 rf)] 30)] [SlAt 3 rv rs.length (rs.flatMap pinE)] _ := M
  refine WL.step (v := (Value.int .i64 (ixF (isP s i) rs))) rfl (Step.assign rfl) ?_
  refine WL.nil ?_
  refine W.seq' ?_
  refine W.seq' ?_
  refine W.region rfl ?_
  refine WL.step (v := (Value.int .i64 (ixF (isP s i) rs))) rfl (Step.move rfl) ?_
  refine WL.step (v := (Value.bool (decide ((ixF (isP s i) rs : Int) < (0 : Int))))) rfl (Step.pure (by kernel_rfl)) ?_
  refine WL.nil ?_
  refine W.cond (t := decide ((ixF (isP s i) rs : Int) < (0 : Int))) rfl (fun h8 => ?_) (fun h8 => ?_)
  ·
    have h8p := of_decide_eq_true h8
    refine W.seq' ?_
    refine W.region rfl ?_
    refine WL.step (v := (Value.agg #[rv, (Value.int .u64 rf)])) rfl (Step.loadN Try.ag30 rfl (M.blk 1 rfl) (Nat.le_of_ble_eq_true rfl) rfl) ?_
    refine WL.store (v := (Value.agg #[rv, (Value.int .u64 rf)])) (cs := [rv, (Value.int .u64 rf)]) (c' := #[rv, (Value.int .u64 rf)]) M 0 rfl rfl Try.el30.sized rfl rfl rfl rfl (Nat.le_of_ble_eq_true rfl) (cel_cons (IsSl.cel sl2) (cel_cons rfl cel_nil)) rfl rfl (fun w9 M => ?_)
    refine WL.step (v := (Value.bool false)) rfl (Step.assign rfl) ?_
    refine WL.nil ?_
    refine W.ret ?_
    refine ⟨.inl rfl, (Value.tuple #[(Value.agg #[rv, (Value.int .u64 rf)]), (Value.bool false)]), ?_, ?_⟩
    · exact ⟨rfl, (Res.r2 (RV.cellN Try.ag30 rfl (M.blk 0 rfl) rfl) (show RV _ _ _ (.tmp 7) (Value.bool false) from by exact rfl))⟩
    have e10 : drR rs s i = rs := by
      unfold drR; rw [ixP_no.1 h8p]; rfl
    have hf11 := Sh.reList e10 (M.shr' 0 rfl)
    refine ⟨rv, ?_, M.close [] rfl (by decide) ⟨hf11, trivial⟩⟩
    rw [ixP_no.1 h8p]
  ·
    have h8p := of_decide_eq_false h8
    obtain ⟨n_, hn_⟩ : ∃ n_ : Nat, ixF (isP s i) rs = ↑n_ := ⟨(ixF (isP s i) rs).toNat, by omega⟩
    obtain ⟨q_, hq_, hqk_, hqh_, hqf_⟩ := ixP_at hn_
    have hnl_ := (List.getElem?_eq_some_iff.1 hq_).1
    have hel_ := List.length_eraseIdx_le rs n_
    refine W.skip ?_
    refine W.seq' ?_
    refine W.drawn M [0, 1, 2, 3, 4, 5, 6, 7, 8] [3, 7] [] [blk b3 (.cells #[rv, (Value.int .u64 rf)] 30)] [SlAt 3 rv rs.length (rs.flatMap pinE)] (List.Sublist.cons _ (List.Sublist.cons_cons _ List.Sublist.slnil)) (fun _ h => h) Try.mixed (by kernel_rfl) ?_
    refine TW.pure (v := (Value.pointer (some ⟨b3, 0, none⟩))) rfl (by decide) (by decide) rfl (fun w => (Step.pure (by kernel_rfl))) ?_
    refine TW.read (v := rv) rfl (by decide) (by decide) rfl (fun A w M => (Step.load1 Try.sc28 rfl ((M.cell 1 rfl 0).trans rfl))) ?_
    refine TW.pure (v := (Value.int .i64 ↑n_)) rfl (by decide) (by decide) rfl (fun w => (Step.cast (congrArg (Value.int .i64) hn_) (Step.move rfl))) ?_
    refine TW.callX (ι := Value) (fun jx v_ => v_ = jx) (fun jx => [own 90 3 jx ((rs.eraseIdx n_).length) ((rs.eraseIdx n_).flatMap pinE), blk b5 (.cells #[(Value.slice none 0 0), (Value.int .u64 0)] 30), blk b3 (.cells #[rv, (Value.int .u64 rf)] 30)]) (fun jx => [SlAt 3 rv rs.length (rs.flatMap pinE)]) rfl (by decide) rfl (fun jx => (List.Sublist.cons _ (List.Sublist.cons _ (List.Sublist.cons_cons _ List.Sublist.slnil)))) (fun jx r h => h) (fun A w M => Rets.mono (ref23_without rv rs n_ (by omega) (M.enterW0 ⟨(M.wideR0 0 rfl), trivial⟩)) (fun v_ w_ ⟨v16, e_, m⟩ => ⟨v16, e_, (M.leaveW0 m).sel (L' := [fl A, own 90 3 v16 ((rs.eraseIdx n_).length) ((rs.eraseIdx n_).flatMap pinE), blk b5 (.cells #[(Value.slice none 0 0), (Value.int .u64 0)] 30), blk b3 (.cells #[rv, (Value.int .u64 rf)] 30)]) [1, 0, 2, 3] rfl (by decide), fun b hb => M.keptW0 m (fl A) (List.mem_cons_self ..) b hb⟩)) (fun w => CallsF.func Try.en72 rfl) (fun v16 v hp hin => ?_)
    replace hp := hp.symm; subst hp
    obtain ⟨_, _, hin⟩ := hin
    have sl17 : IsSl v16 := SlAt.isSl (own_slAt (Mem.chunk hin 1 rfl).inv)
    have hle18 := SlAt.le' (own_slAt (Mem.chunk hin 1 rfl).inv)
    clear hin
    change TW _ _ _ _ _ _ _ _ (MemA _ _ _ [own 90 3 v16 ((rs.eraseIdx n_).length) ((rs.eraseIdx n_).flatMap pinE), blk b5 (.cells #[(Value.slice none 0 0), (Value.int .u64 0)] 30), blk b3 (.cells #[rv, (Value.int .u64 rf)] 30)] [SlAt 3 rv rs.length (rs.flatMap pinE)])
    refine TW.pure (v := (Value.pointer (some ⟨b3, 1, none⟩))) rfl (by decide) (by decide) rfl (fun w => (Step.pure (by kernel_rfl))) ?_
    refine TW.read (v := (Value.int .u64 rf)) rfl (by decide) (by decide) rfl (fun A w M => (Step.load1 Try.sc23 rfl ((M.cell 1 rfl 1).trans rfl))) ?_
    refine TW.pure (v := (Value.agg #[v16, (Value.int .u64 rf)])) rfl (by decide) (by decide) rfl (fun w => (by obtain ⟨_, _, _, e⟩ := sl17; subst e; exact (Step.pure (by kernel_rfl)))) ?_
    refine TW.store (v := (Value.agg #[v16, (Value.int .u64 rf)])) (cs := [v16, (Value.int .u64 rf)]) (c' := #[v16, (Value.int .u64 rf)]) 1 rfl rfl (by decide) rfl Try.el30.sized rfl rfl rfl rfl (Nat.le_of_ble_eq_true rfl) (cel_cons (IsSl.cel sl17) (cel_cons rfl cel_nil)) rfl rfl (List.Sublist.cons _ (List.Sublist.cons _ (List.Sublist.cons_cons _ List.Sublist.slnil))) (fun r h => h) ?_
    refine TW.pure (v := (Value.bool true)) rfl (by decide) (by decide) rfl (fun w => (Step.assign rfl)) ?_
    refine TW.done (fun w19 M => ?_)
    refine W.ret ?_
    refine ⟨.inl rfl, (Value.tuple #[(Value.agg #[v16, (Value.int .u64 rf)]), (Value.bool true)]), ?_, ?_⟩
    · exact ⟨rfl, (Res.r2 (RV.cellN Try.ag30 rfl (M.blk 1 rfl) rfl) (show RV _ _ _ (.tmp 7) (Value.bool true) from by exact rfl))⟩
    replace M := M.shareOwn 0 rfl
    replace M : Mem _ _ _ [blk b5 (.cells #[v16, (Value.int .u64 rf)] 30), blk b3 (.cells #[rv, (Value.int .u64 rf)] 30)] [SlAt 3 v16 (rs.eraseIdx n_).length ((rs.eraseIdx n_).flatMap pinE), SlAt 3 rv rs.length (rs.flatMap pinE)] _ := M
    have e20 : drR rs s i = rs.eraseIdx n_ := by
      have hhb_ : heldB s i rs = true := by rw [← heldV_B, hqh_]
      unfold drR; rw [hhb_, hn_, Int.toNat_natCast]; rfl
    have hf21 := Sh.reList e20 (M.shr' 0 rfl)
    refine ⟨v16, ?_, M.close [] rfl (by decide) ⟨hf21, trivial⟩⟩
    have hhb_ : heldB s i rs = true := by rw [← heldV_B, hqh_]
    rw [hhb_]

theorem ref23_move {G : Nat → Prop} {w : World} (rv : Value) (rs : List PinH) (rf : Int) (p : PinH)  (hbd : rs.length ≤ 900000) (M : Mem G (fun _ => False) w [] [SlAt 3 rv rs.length (rs.flatMap pinE)] w) : Rets Try.prog 43 #[(Value.agg #[rv, (Value.int .u64 rf)]), (Value.agg #[(Value.int .u8 p.sort), (Value.int .u64 p.id), (Value.int .u64 p.epoch)])] w fun r w' => ∃ (rv' : Value), r = (Value.tuple #[(Value.agg #[rv', (Value.int .u64 rf)]), (Value.int .i64 (mvC rs p))]) ∧ Mem G (fun _ => False) w [] [SlAt 3 rv' (mvR rs p).length ((mvR rs p).flatMap pinE)] w' := by
  refine Rets.enter 36 _ Try.func43 rfl Try.ntmps43 Try.results43 (by simp) ?_
  have hle1 := SlAt.le' (M.rep 0 rfl)
  have sl2 : IsSl rv := SlAt.isSl (Mem.rep M 0 rfl)
  refine W.seq' ?_
  refine W.region rfl ?_
  refine WL.box (v := (Value.agg #[rv, (Value.int .u64 rf)])) (c := #[rv, (Value.int .u64 rf)]) M rfl rfl rfl (fun b3 w4 hb3 M => ?_)
  refine WL.box (v := (Value.agg #[(Value.int .u8 p.sort), (Value.int .u64 p.id), (Value.int .u64 p.epoch)])) (c := #[(Value.int .u8 p.sort), (Value.int .u64 p.id), (Value.int .u64 p.epoch)]) M rfl rfl rfl (fun b5 w6 hb5 M => ?_)
  refine WL.alloc (c := #[(Value.slice none 0 0), (Value.int .u64 0)]) M rfl Try.el30.zero rfl (fun b7 w8 hb7 M => ?_)
  refine WL.step (v := (Value.int .i64 0)) rfl (Step.assign rfl) ?_
  refine WL.nil ?_
  refine W.seq' ?_
  refine W.region rfl ?_
  refine WL.step (v := (Value.pointer (some ⟨b3, 0, none⟩))) rfl (Step.pure (by kernel_rfl)) ?_
  refine WL.step (v := rv) rfl (Step.load1 Try.sc28 rfl ((M.cell 2 rfl 0).trans rfl)) ?_
  refine WL.step (v := (Value.pointer (some ⟨b5, 0, none⟩))) rfl (Step.pure (by kernel_rfl)) ?_
  refine WL.step (v := (Value.int .u8 p.sort)) rfl (Step.load1 Try.sc5 rfl ((M.cell 1 rfl 0).trans rfl)) ?_
  refine WL.step (v := (Value.pointer (some ⟨b5, 1, none⟩))) rfl (Step.pure (by kernel_rfl)) ?_
  refine WL.step (v := (Value.int .u64 p.id)) rfl (Step.load1 Try.sc23 rfl ((M.cell 1 rfl 1).trans rfl)) ?_
  refine WL.callX rfl (ref23_find rv rs p.sort p.id (M.enterW0 ⟨(M.wideR0 0 rfl), trivial⟩)) (CallsF.func Try.en53 rfl) ?_
  rintro _ w9 ⟨rfl, m⟩
  replace M := M.leaveW0 m
  clear m
  replace M : Mem _ _ _ [blk b7 (.cells #[(Value.slice none 0 0), (Value.int .u64 0)] 30), blk b5 (.cells #[(Value.int .u8 p.sort), (Value.int .u64 p.id), (Value.int .u64 p.epoch)] 90), blk b3 (.cells #[rv, (Value.int .u64 rf)] 30)] [SlAt 3 rv rs.length (rs.flatMap pinE)] _ := M
  refine WL.step (v := (Value.int .i64 (ixF (isP p.sort p.id) rs))) rfl (Step.assign rfl) ?_
  refine WL.nil ?_
  refine W.seq' ?_
  refine W.seq' ?_
  refine W.region rfl ?_
  refine WL.step (v := (Value.int .i64 (ixF (isP p.sort p.id) rs))) rfl (Step.move rfl) ?_
  refine WL.step (v := (Value.bool (decide ((ixF (isP p.sort p.id) rs : Int) < (0 : Int))))) rfl (Step.pure (by kernel_rfl)) ?_
  refine WL.nil ?_
  refine W.cond (t := decide ((ixF (isP p.sort p.id) rs : Int) < (0 : Int))) rfl (fun h10 => ?_) (fun h10 => ?_)
  ·
    have h10p := of_decide_eq_true h10
    refine W.seq' ?_
    refine W.region rfl ?_
    refine WL.step (v := (Value.agg #[rv, (Value.int .u64 rf)])) rfl (Step.loadN Try.ag30 rfl (M.blk 2 rfl) (Nat.le_of_ble_eq_true rfl) rfl) ?_
    refine WL.store (v := (Value.agg #[rv, (Value.int .u64 rf)])) (cs := [rv, (Value.int .u64 rf)]) (c' := #[rv, (Value.int .u64 rf)]) M 0 rfl rfl Try.el30.sized rfl rfl rfl rfl (Nat.le_of_ble_eq_true rfl) (cel_cons (IsSl.cel sl2) (cel_cons rfl cel_nil)) rfl rfl (fun w11 M => ?_)
    refine WL.step (v := (Value.int .i64 2)) rfl (Step.assign rfl) ?_
    refine WL.nil ?_
    refine W.ret ?_
    refine ⟨.inl rfl, (Value.tuple #[(Value.agg #[rv, (Value.int .u64 rf)]), (Value.int .i64 2)]), ?_, ?_⟩
    · exact ⟨rfl, (Res.r2 (RV.cellN Try.ag30 rfl (M.blk 0 rfl) rfl) (show RV _ _ _ (.tmp 5) (Value.int .i64 2) from by exact rfl))⟩
    have e12 : mvR rs p = rs := by
      have hmv_ : mvC rs p = 2 := mvC_no (by rw [heldV_B]; exact ixP_no.1 h10p)
      unfold mvR; rw [hmv_]; rfl
    have hf13 := Sh.reList e12 (M.shr' 0 rfl)
    refine ⟨rv, ?_, M.close [] rfl (by decide) ⟨hf13, trivial⟩⟩
    have hmv_ : mvC rs p = 2 := mvC_no (by rw [heldV_B]; exact ixP_no.1 h10p)
    rw [hmv_]
  ·
    have h10p := of_decide_eq_false h10
    obtain ⟨n_, hn_⟩ : ∃ n_ : Nat, ixF (isP p.sort p.id) rs = ↑n_ := ⟨(ixF (isP p.sort p.id) rs).toNat, by omega⟩
    obtain ⟨q_, hq_, hqk_, hqh_, hqf_⟩ := ixP_at hn_
    have hnl_ := (List.getElem?_eq_some_iff.1 hq_).1
    have hel_ := List.length_eraseIdx_le rs n_
    refine W.skip ?_
    refine W.seq' ?_
    refine W.seq' ?_
    obtain ⟨cap15, hb14⟩ := SlAt.base (M.rep 0 rfl) (by omega)
    refine W.drawn M [0, 1, 2, 3, 4, 5, 6, 7, 8] [] [] [blk b7 (.cells #[(Value.slice none 0 0), (Value.int .u64 0)] 30), blk b5 (.cells #[(Value.int .u8 p.sort), (Value.int .u64 p.id), (Value.int .u64 p.epoch)] 90), blk b3 (.cells #[rv, (Value.int .u64 rf)] 30)] [SlAt 3 rv rs.length (rs.flatMap pinE)] (List.Sublist.cons_cons _ (List.Sublist.cons_cons _ (List.Sublist.cons_cons _ List.Sublist.slnil))) (fun _ h => h) Try.mixed (by kernel_rfl) ?_
    refine TW.pure (v := (Value.pointer (some ⟨b5, 2, none⟩))) rfl (by decide) (by decide) rfl (fun w => (Step.pure (by kernel_rfl))) ?_
    refine TW.read (v := (Value.int .u64 p.epoch)) rfl (by decide) (by decide) rfl (fun A w M => (Step.load1 Try.sc23 rfl ((M.cell 2 rfl 2).trans rfl))) ?_
    refine TW.pure (v := (Value.pointer (some ⟨b3, 0, none⟩))) rfl (by decide) (by decide) rfl (fun w => (Step.pure (by kernel_rfl))) ?_
    refine TW.read (v := rv) rfl (by decide) (by decide) rfl (fun A w M => (Step.load1 Try.sc28 rfl ((M.cell 3 rfl 0).trans rfl))) ?_
    refine TW.pure (v := (Value.int .i64 ↑n_)) rfl (by decide) (by decide) rfl (fun w => (Step.cast (congrArg (Value.int .i64) hn_) (Step.move rfl))) ?_
    refine TW.pure (v := (Value.pointer (some ⟨(sBlk rv), sOff rv + n_ * 3, none⟩))) rfl (by decide) (by decide) rfl (fun w => (Step.indexAddr (i := n_) (Try.un28).run Try.el90.sized rfl rfl (by omega) hb14 (by omega))) ?_
    refine TW.pure (v := (Value.pointer (some ⟨(sBlk rv), sOff rv + n_ * 3 + 2, none⟩))) rfl (by decide) (by decide) rfl (fun w => (Step.pure (by kernel_rfl))) ?_
    refine TW.read (v := (Value.int .u64 q_.epoch)) rfl (by decide) (by decide) rfl (fun A w M => (Step.loadE (k := 2) Try.sc23 (flat_ec (M.rep 0 rfl) hq_ pinE_len) (by decide) rfl rfl)) ?_
    refine TW.pure (v := (Value.bool (decide ((p.epoch : Int) < (q_.epoch : Int))))) rfl (by decide) (by decide) rfl (fun w => (Step.pure (by kernel_rfl))) ?_
    refine TW.done (fun w16 M => ?_)
    refine W.cond (t := decide ((p.epoch : Int) < (q_.epoch : Int))) rfl (fun h17 => ?_) (fun h17 => ?_)
    ·
      have h17p := of_decide_eq_true h17
      refine W.seq' ?_
      refine W.region rfl ?_
      refine WL.step (v := (Value.agg #[rv, (Value.int .u64 rf)])) rfl (Step.loadN Try.ag30 rfl (M.blk 2 rfl) (Nat.le_of_ble_eq_true rfl) rfl) ?_
      refine WL.store (v := (Value.agg #[rv, (Value.int .u64 rf)])) (cs := [rv, (Value.int .u64 rf)]) (c' := #[rv, (Value.int .u64 rf)]) M 0 rfl rfl Try.el30.sized rfl rfl rfl rfl (Nat.le_of_ble_eq_true rfl) (cel_cons (IsSl.cel sl2) (cel_cons rfl cel_nil)) rfl rfl (fun w18 M => ?_)
      refine WL.step (v := (Value.int .i64 230)) rfl (Step.assign rfl) ?_
      refine WL.nil ?_
      refine W.ret ?_
      refine ⟨.inl rfl, (Value.tuple #[(Value.agg #[rv, (Value.int .u64 rf)]), (Value.int .i64 230)]), ?_, ?_⟩
      · exact ⟨rfl, (Res.r2 (RV.cellN Try.ag30 rfl (M.blk 0 rfl) rfl) (show RV _ _ _ (.tmp 5) (Value.int .i64 230) from by exact rfl))⟩
      have e19 : mvR rs p = rs := by
        have hmv_ : mvC rs p = 230 := mvC_low (by rw [hqh_]) (by rw [hqh_]; exact h17p)
        unfold mvR; rw [hmv_]; rfl
      have hf20 := Sh.reList e19 (M.shr' 0 rfl)
      refine ⟨rv, ?_, M.close [] rfl (by decide) ⟨hf20, trivial⟩⟩
      have hmv_ : mvC rs p = 230 := mvC_low (by rw [hqh_]) (by rw [hqh_]; exact h17p)
      rw [hmv_]
    ·
      have h17p := of_decide_eq_false h17
      refine W.skip ?_
      refine W.seq' ?_
      refine W.drawn M [0, 1, 2, 3, 4, 5, 6, 7, 8, 9, 10] [3, 5, 9] [] [blk b5 (.cells #[(Value.int .u8 p.sort), (Value.int .u64 p.id), (Value.int .u64 p.epoch)] 90), blk b3 (.cells #[rv, (Value.int .u64 rf)] 30)] [SlAt 3 rv rs.length (rs.flatMap pinE)] (List.Sublist.cons _ (List.Sublist.cons_cons _ (List.Sublist.cons_cons _ List.Sublist.slnil))) (fun _ h => h) Try.mixed (by kernel_rfl) ?_
      refine TW.pure (v := (Value.pointer (some ⟨b3, 0, none⟩))) rfl (by decide) (by decide) rfl (fun w => (Step.pure (by kernel_rfl))) ?_
      refine TW.read (v := rv) rfl (by decide) (by decide) rfl (fun A w M => (Step.load1 Try.sc28 rfl ((M.cell 2 rfl 0).trans rfl))) ?_
      refine TW.pure (v := (Value.int .i64 ↑n_)) rfl (by decide) (by decide) rfl (fun w => (Step.cast (congrArg (Value.int .i64) hn_) (Step.move rfl))) ?_
      refine TW.callX (ι := Value) (fun jx v_ => v_ = jx) (fun jx => [own 90 3 jx ((rs.eraseIdx n_).length) ((rs.eraseIdx n_).flatMap pinE), blk b7 (.cells #[(Value.slice none 0 0), (Value.int .u64 0)] 30), blk b5 (.cells #[(Value.int .u8 p.sort), (Value.int .u64 p.id), (Value.int .u64 p.epoch)] 90), blk b3 (.cells #[rv, (Value.int .u64 rf)] 30)]) (fun jx => [SlAt 3 rv rs.length (rs.flatMap pinE)]) rfl (by decide) rfl (fun jx => (List.Sublist.cons _ (List.Sublist.cons _ (List.Sublist.cons_cons _ (List.Sublist.cons_cons _ List.Sublist.slnil))))) (fun jx r h => h) (fun A w M => Rets.mono (ref23_without rv rs n_ (by omega) (M.enterW0 ⟨(M.wideR0 0 rfl), trivial⟩)) (fun v_ w_ ⟨v27, e_, m⟩ => ⟨v27, e_, (M.leaveW0 m).sel (L' := [fl A, own 90 3 v27 ((rs.eraseIdx n_).length) ((rs.eraseIdx n_).flatMap pinE), blk b7 (.cells #[(Value.slice none 0 0), (Value.int .u64 0)] 30), blk b5 (.cells #[(Value.int .u8 p.sort), (Value.int .u64 p.id), (Value.int .u64 p.epoch)] 90), blk b3 (.cells #[rv, (Value.int .u64 rf)] 30)]) [1, 0, 2, 3, 4] rfl (by decide), fun b hb => M.keptW0 m (fl A) (List.mem_cons_self ..) b hb⟩)) (fun w => CallsF.func Try.en72 rfl) (fun v27 v hp hin => ?_)
      replace hp := hp.symm; subst hp
      obtain ⟨_, _, hin⟩ := hin
      have sl28 : IsSl v27 := SlAt.isSl (own_slAt (Mem.chunk hin 1 rfl).inv)
      have hle29 := SlAt.le' (own_slAt (Mem.chunk hin 1 rfl).inv)
      clear hin
      change TW _ _ _ _ _ _ _ _ (MemA _ _ _ [own 90 3 v27 ((rs.eraseIdx n_).length) ((rs.eraseIdx n_).flatMap pinE), blk b7 (.cells #[(Value.slice none 0 0), (Value.int .u64 0)] 30), blk b5 (.cells #[(Value.int .u8 p.sort), (Value.int .u64 p.id), (Value.int .u64 p.epoch)] 90), blk b3 (.cells #[rv, (Value.int .u64 rf)] 30)] [SlAt 3 rv rs.length (rs.flatMap pinE)])
      refine TW.read (v := (Value.agg #[(Value.int .u8 p.sort), (Value.int .u64 p.id), (Value.int .u64 p.epoch)])) rfl (by decide) (by decide) rfl (fun A w M => (Step.loadN Try.ag90 rfl (M.blk 1 rfl) (Nat.le_of_ble_eq_true rfl) rfl)) ?_
      refine TW.callX (ι := Value) (fun jx v_ => v_ = jx) (fun jx => [own 90 3 jx ((putV (rs.eraseIdx n_) p).length) ((putV (rs.eraseIdx n_) p).flatMap pinE), own 90 3 v27 ((rs.eraseIdx n_).length) ((rs.eraseIdx n_).flatMap pinE), blk b7 (.cells #[(Value.slice none 0 0), (Value.int .u64 0)] 30), blk b5 (.cells #[(Value.int .u8 p.sort), (Value.int .u64 p.id), (Value.int .u64 p.epoch)] 90), blk b3 (.cells #[rv, (Value.int .u64 rf)] 30)]) (fun jx => [SlAt 3 rv rs.length (rs.flatMap pinE)]) rfl (by decide) rfl (fun jx => (List.Sublist.cons _ (List.Sublist.cons _ (List.Sublist.cons _ (List.Sublist.cons_cons _ (List.Sublist.cons_cons _ List.Sublist.slnil)))))) (fun jx r h => h) (fun A w M => Rets.mono (ref23_put v27 (rs.eraseIdx n_) p (by omega) (M.enterW0 ⟨((M.wideC0 1 rfl).imp fun _ h => own_slAt h), trivial⟩)) (fun v_ w_ ⟨v30, e_, m⟩ => ⟨v30, e_, (M.leaveW0 m).sel (L' := [fl A, own 90 3 v30 ((putV (rs.eraseIdx n_) p).length) ((putV (rs.eraseIdx n_) p).flatMap pinE), own 90 3 v27 ((rs.eraseIdx n_).length) ((rs.eraseIdx n_).flatMap pinE), blk b7 (.cells #[(Value.slice none 0 0), (Value.int .u64 0)] 30), blk b5 (.cells #[(Value.int .u8 p.sort), (Value.int .u64 p.id), (Value.int .u64 p.epoch)] 90), blk b3 (.cells #[rv, (Value.int .u64 rf)] 30)]) [1, 0, 2, 3, 4, 5] rfl (by decide), fun b hb => M.keptW0 m (fl A) (List.mem_cons_self ..) b hb⟩)) (fun w => CallsF.func Try.en71 rfl) (fun v30 v hp hin => ?_)
      replace hp := hp.symm; subst hp
      obtain ⟨_, _, hin⟩ := hin
      have sl31 : IsSl v30 := SlAt.isSl (own_slAt (Mem.chunk hin 1 rfl).inv)
      have hle32 := SlAt.le' (own_slAt (Mem.chunk hin 1 rfl).inv)
      clear hin
      change TW _ _ _ _ _ _ _ _ (MemA _ _ _ [own 90 3 v30 ((putV (rs.eraseIdx n_) p).length) ((putV (rs.eraseIdx n_) p).flatMap pinE), own 90 3 v27 ((rs.eraseIdx n_).length) ((rs.eraseIdx n_).flatMap pinE), blk b7 (.cells #[(Value.slice none 0 0), (Value.int .u64 0)] 30), blk b5 (.cells #[(Value.int .u8 p.sort), (Value.int .u64 p.id), (Value.int .u64 p.epoch)] 90), blk b3 (.cells #[rv, (Value.int .u64 rf)] 30)] [SlAt 3 rv rs.length (rs.flatMap pinE)])
      refine TW.pure (v := (Value.pointer (some ⟨b3, 1, none⟩))) rfl (by decide) (by decide) rfl (fun w => (Step.pure (by kernel_rfl))) ?_
      refine TW.read (v := (Value.int .u64 rf)) rfl (by decide) (by decide) rfl (fun A w M => (Step.load1 Try.sc23 rfl ((M.cell 2 rfl 1).trans rfl))) ?_
      refine TW.pure (v := (Value.agg #[v30, (Value.int .u64 rf)])) rfl (by decide) (by decide) rfl (fun w => (by obtain ⟨_, _, _, e⟩ := sl31; subst e; exact (Step.pure (by kernel_rfl)))) ?_
      refine TW.store (v := (Value.agg #[v30, (Value.int .u64 rf)])) (cs := [v30, (Value.int .u64 rf)]) (c' := #[v30, (Value.int .u64 rf)]) 2 rfl rfl (by decide) rfl Try.el30.sized rfl rfl rfl rfl (Nat.le_of_ble_eq_true rfl) (cel_cons (IsSl.cel sl31) (cel_cons rfl cel_nil)) rfl rfl (List.Sublist.cons _ (List.Sublist.cons _ (List.Sublist.cons _ (List.Sublist.cons_cons _ (List.Sublist.cons_cons _ List.Sublist.slnil))))) (fun r h => h) ?_
      refine TW.pure (v := (Value.int .i64 0)) rfl (by decide) (by decide) rfl (fun w => (Step.assign rfl)) ?_
      refine TW.done (fun w33 M => ?_)
      refine W.ret ?_
      refine ⟨.inl rfl, (Value.tuple #[(Value.agg #[v30, (Value.int .u64 rf)]), (Value.int .i64 0)]), ?_, ?_⟩
      · exact ⟨rfl, (Res.r2 (RV.cellN Try.ag30 rfl (M.blk 2 rfl) rfl) (show RV _ _ _ (.tmp 5) (Value.int .i64 0) from by exact rfl))⟩
      replace M := M.shareOwn 0 rfl
      replace M : Mem _ _ _ [own 90 3 v27 ((rs.eraseIdx n_).length) ((rs.eraseIdx n_).flatMap pinE), blk b7 (.cells #[v30, (Value.int .u64 rf)] 30), blk b5 (.cells #[(Value.int .u8 p.sort), (Value.int .u64 p.id), (Value.int .u64 p.epoch)] 90), blk b3 (.cells #[rv, (Value.int .u64 rf)] 30)] [SlAt 3 v30 (putV (rs.eraseIdx n_) p).length ((putV (rs.eraseIdx n_) p).flatMap pinE), SlAt 3 rv rs.length (rs.flatMap pinE)] _ := M
      have e34 : mvR rs p = putV (rs.eraseIdx n_) p := by
        have hmv_ : mvC rs p = 0 := mvC_ok (by rw [hqh_]) (by rw [hqh_]; exact h17p)
        unfold mvR; rw [hmv_, hn_, Int.toNat_natCast]; rfl
      have hf35 := Sh.reList e34 (M.shr' 0 rfl)
      refine ⟨v30, ?_, M.close [] rfl (by decide) ⟨hf35, trivial⟩⟩
      have hmv_ : mvC rs p = 0 := mvC_ok (by rw [hqh_]) (by rw [hqh_]; exact h17p)
      rw [hmv_]

theorem ref23_add {G : Nat → Prop} {w : World} (rv : Value) (rs : List PinH) (rf : Int) (v : Value) (l : List PinH)  (hbd : rs.length + l.length ≤ 900000) (M : Mem G (fun _ => False) w [] [SlAt 3 rv rs.length (rs.flatMap pinE), SlAt 3 v l.length (l.flatMap pinE)] w) : Rets Try.prog 47 #[(Value.agg #[rv, (Value.int .u64 rf)]), v] w fun r w' => ∃ (rv' : Value), r = (Value.tuple #[(Value.agg #[rv', (Value.int .u64 rf)]), (Value.int .i64 (pinC rs rf l))]) ∧ Mem G (fun _ => False) w [] [SlAt 3 rv' (addS rs rf l).length ((addS rs rf l).flatMap pinE)] w' := by
  refine Rets.enter 54 _ Try.func47 rfl Try.ntmps47 Try.results47 (by simp) ?_
  have hle1 := SlAt.le' (M.rep 0 rfl)
  have hle2 := SlAt.le' (M.rep 1 rfl)
  have sl3 : IsSl rv := SlAt.isSl (Mem.rep M 0 rfl)
  have sl4 : IsSl v := SlAt.isSl (Mem.rep M 1 rfl)
  refine W.seq' ?_
  refine W.region rfl ?_
  refine WL.box (v := (Value.agg #[rv, (Value.int .u64 rf)])) (c := #[rv, (Value.int .u64 rf)]) M rfl rfl rfl (fun b5 w6 hb5 M => ?_)
  refine WL.alloc (c := #[(Value.slice none 0 0), (Value.int .u64 0)]) M rfl Try.el30.zero rfl (fun b7 w8 hb7 M => ?_)
  refine WL.step (v := (Value.int .i64 0)) rfl (Step.assign rfl) ?_
  refine WL.nil ?_
  refine W.seq' ?_
  refine W.region rfl ?_
  refine WL.step (v := (Value.pointer (some ⟨b5, 0, none⟩))) rfl (Step.pure (by kernel_rfl)) ?_
  refine WL.step (v := rv) rfl (Step.load1 Try.sc28 rfl ((M.cell 1 rfl 0).trans rfl)) ?_
  refine WL.step (v := rv) rfl (Step.assign rfl) ?_
  refine WL.nil ?_
  refine W.seq' ?_
  refine W.region rfl ?_
  refine WL.step (v := (Value.bool false)) rfl (Step.assign rfl) ?_
  refine WL.nil ?_
  refine W.seq' ?_
  refine W.seq' ?_
  refine W.region rfl ?_
  refine WL.step (v := (Value.int .i64 0)) rfl (Step.assign rfl) ?_
  refine WL.nil ?_
  refine W.block ?_
  replace M := M.add_imp 0 rfl (r' := SlAt 3 rv ((l.take 0).foldl putV rs).length (((l.take 0).foldl putV rs).flatMap pinE)) (fun _ h => h)
  replace M : Mem _ _ _ [blk b7 (.cells #[(Value.slice none 0 0), (Value.int .u64 0)] 30), blk b5 (.cells #[rv, (Value.int .u64 rf)] 30)] [SlAt 3 rv ((l.take 0).foldl putV rs).length (((l.take 0).foldl putV rs).flatMap pinE), SlAt 3 rv rs.length (rs.flatMap pinE), SlAt 3 v l.length (l.flatMap pinE)] _ := M
  refine W.loop (fun kk ρ w' => ∃ (i_ : Nat) (pv_ : Value) (lw_ : Bool), ((i_ ≤ l.length) ∧ (freeN rs l i_ = true) ∧ (lw_ = (l.take i_).any fun p => decide (p.epoch < rf)) ∧ kk = l.length - i_) ∧ ρ.has [(1, v), (2, (Value.pointer (some ⟨b5, 0, none⟩))), (4, (Value.pointer (some ⟨b7, 0, none⟩))), (6, pv_), (7, (Value.bool lw_)), (8, (Value.int .i64 ↑i_))] ∧ Mem G (fun _ => False) w [blk b7 (.cells #[(Value.slice none 0 0), (Value.int .u64 0)] 30), blk b5 (.cells #[rv, (Value.int .u64 rf)] 30)] [SlAt 3 pv_ ((l.take i_).foldl putV rs).length (((l.take i_).foldl putV rs).flatMap pinE), SlAt 3 rv rs.length (rs.flatMap pinE), SlAt 3 v l.length (l.flatMap pinE)]  w') _ ⟨0, _, false, ⟨(Nat.zero_le _), rfl, rfl, rfl⟩, ⟨rfl, rfl, rfl, rfl, rfl, rfl, rfl, rfl⟩, M⟩ ?_
  rintro _ ρ10 w9 ⟨i_, pv_, lw_, ⟨hi11, hi12, hi13, rfl⟩, hρ, M⟩
  obtain ⟨ρ10, rfl⟩ := hρ.know
  clear hρ
  have sl14 : IsSl pv_ := SlAt.isSl (M.rep 0 rfl)
  have hpl_ := putN_len (rs := rs) (l := l) hi11
  refine W.seq' ?_
  refine W.seq' ?_
  refine W.region rfl ?_
  refine WL.step (v := (Value.int .i64 ↑i_)) rfl (Step.move rfl) ?_
  refine WL.step (v := v) rfl (Step.move rfl) ?_
  refine WL.step (v := (Value.int .i64 ↑l.length)) rfl (Step.lenSl Try.un28 rfl (M.rep 2 rfl)) ?_
  refine WL.step (v := (Value.bool (decide ((↑i_ : Int) < (↑l.length : Int))))) rfl (Step.pure (by kernel_rfl)) ?_
  refine WL.nil ?_
  refine W.cond (t := decide ((↑i_ : Int) < (↑l.length : Int))) rfl (fun h15 => ?_) (fun h15 => ?_)
  ·
    have h15p := of_decide_eq_true h15
    refine W.skip ?_
    refine W.seq' ?_
    refine W.block ?_
    refine W.seq' ?_
    refine W.seq' ?_
    obtain ⟨cap17, hb16⟩ := SlAt.base (M.rep 2 rfl) (by omega)
    obtain ⟨x18, hx18⟩ := elem_of_lt (xs := l) (i := i_) (by omega)
    refine W.drawn M [0, 1, 2, 3, 4, 5, 6, 7, 8, 9, 10, 11, 12] [11] [] [blk b7 (.cells #[(Value.slice none 0 0), (Value.int .u64 0)] 30), blk b5 (.cells #[rv, (Value.int .u64 rf)] 30)] [SlAt 3 pv_ ((l.take i_).foldl putV rs).length (((l.take i_).foldl putV rs).flatMap pinE), SlAt 3 rv rs.length (rs.flatMap pinE), SlAt 3 v l.length (l.flatMap pinE)] (List.Sublist.cons_cons _ (List.Sublist.cons_cons _ List.Sublist.slnil)) (fun _ h => h) Try.mixed (by kernel_rfl) ?_
    refine TW.pure (v := pv_) rfl (by decide) (by decide) rfl (fun w => (Step.move rfl)) ?_
    refine TW.pure (v := v) rfl (by decide) (by decide) rfl (fun w => (Step.move rfl)) ?_
    refine TW.pure (v := (Value.int .i64 ↑i_)) rfl (by decide) (by decide) rfl (fun w => (Step.move rfl)) ?_
    refine TW.pure (v := (Value.pointer (some ⟨(sBlk v), sOff v + i_ * 3, none⟩))) rfl (by decide) (by decide) rfl (fun w => (Step.indexAddr (i := i_) (Try.un28).run Try.el90.sized rfl rfl (by omega) hb16 (by omega))) ?_
    refine TW.pure (v := (Value.pointer (some ⟨(sBlk v), sOff v + i_ * 3, none⟩))) rfl (by decide) (by decide) rfl (fun w => (Step.pure (by kernel_rfl))) ?_
    refine TW.read (v := (Value.int .u8 x18.sort)) rfl (by decide) (by decide) rfl (fun A w M => (Step.loadE (k := 0) Try.sc5 (flat_ec (M.rep 2 rfl) hx18 pinE_len) (by decide) rfl rfl)) ?_
    refine TW.pure (v := v) rfl (by decide) (by decide) rfl (fun w => (Step.move rfl)) ?_
    refine TW.pure (v := (Value.int .i64 ↑i_)) rfl (by decide) (by decide) rfl (fun w => (Step.move rfl)) ?_
    refine TW.pure (v := (Value.pointer (some ⟨(sBlk v), sOff v + i_ * 3, none⟩))) rfl (by decide) (by decide) rfl (fun w => (Step.indexAddr (i := i_) (Try.un28).run Try.el90.sized rfl rfl (by omega) hb16 (by omega))) ?_
    refine TW.pure (v := (Value.pointer (some ⟨(sBlk v), sOff v + i_ * 3 + 1, none⟩))) rfl (by decide) (by decide) rfl (fun w => (Step.pure (by kernel_rfl))) ?_
    refine TW.read (v := (Value.int .u64 x18.id)) rfl (by decide) (by decide) rfl (fun A w M => (Step.loadE (k := 1) Try.sc23 (flat_ec (M.rep 2 rfl) hx18 pinE_len) (by decide) rfl rfl)) ?_
    refine TW.callX (ι := Unit) (fun jx v_ => v_ = (Value.int .i64 (ixF (isP x18.sort x18.id) ((l.take i_).foldl putV rs)))) (fun jx => [blk b7 (.cells #[(Value.slice none 0 0), (Value.int .u64 0)] 30), blk b5 (.cells #[rv, (Value.int .u64 rf)] 30)]) (fun jx => [SlAt 3 pv_ ((l.take i_).foldl putV rs).length (((l.take i_).foldl putV rs).flatMap pinE), SlAt 3 rv rs.length (rs.flatMap pinE), SlAt 3 v l.length (l.flatMap pinE)]) rfl (by decide) rfl (fun jx => (List.Sublist.cons_cons _ (List.Sublist.cons_cons _ List.Sublist.slnil))) (fun jx r h => h) (fun A w M => Rets.mono (ref23_find pv_ ((l.take i_).foldl putV rs) x18.sort x18.id (M.enterW0 ⟨(M.wideR0 0 rfl), trivial⟩)) (fun v_ w_ ⟨e_, m⟩ => ⟨(), e_, (M.leaveW0 m).sel (L' := [fl A, blk b7 (.cells #[(Value.slice none 0 0), (Value.int .u64 0)] 30), blk b5 (.cells #[rv, (Value.int .u64 rf)] 30)]) [0, 1, 2] rfl (by decide), fun b hb => M.keptW0 m (fl A) (List.mem_cons_self ..) b hb⟩)) (fun w => CallsF.func Try.en53 rfl) (fun jx v hp hin => ?_)
    replace hp := hp.symm; subst hp
    clear hin
    change TW _ _ _ _ _ _ _ _ (MemA _ _ _ [blk b7 (.cells #[(Value.slice none 0 0), (Value.int .u64 0)] 30), blk b5 (.cells #[rv, (Value.int .u64 rf)] 30)] [SlAt 3 pv_ ((l.take i_).foldl putV rs).length (((l.take i_).foldl putV rs).flatMap pinE), SlAt 3 rv rs.length (rs.flatMap pinE), SlAt 3 v l.length (l.flatMap pinE)])
    refine TW.pure (v := (Value.bool (decide ((ixF (isP x18.sort x18.id) ((l.take i_).foldl putV rs) : Int) ≥ (0 : Int))))) rfl (by decide) (by decide) rfl (fun w => (Step.pure (by kernel_rfl))) ?_
    refine TW.done (fun w19 M => ?_)
    refine W.cond (t := decide ((ixF (isP x18.sort x18.id) ((l.take i_).foldl putV rs) : Int) ≥ (0 : Int))) rfl (fun h20 => ?_) (fun h20 => ?_)
    ·
      have h20p := of_decide_eq_true h20
      refine W.seq' ?_
      refine W.region rfl ?_
      refine WL.step (v := (Value.agg #[rv, (Value.int .u64 rf)])) rfl (Step.loadN Try.ag30 rfl (M.blk 1 rfl) (Nat.le_of_ble_eq_true rfl) rfl) ?_
      refine WL.store (v := (Value.agg #[rv, (Value.int .u64 rf)])) (cs := [rv, (Value.int .u64 rf)]) (c' := #[rv, (Value.int .u64 rf)]) M 0 rfl rfl Try.el30.sized rfl rfl rfl rfl (Nat.le_of_ble_eq_true rfl) (cel_cons (IsSl.cel sl3) (cel_cons rfl cel_nil)) rfl rfl (fun w21 M => ?_)
      refine WL.step (v := (Value.int .i64 2)) rfl (Step.assign rfl) ?_
      refine WL.nil ?_
      refine W.ret ?_
      refine ⟨.inl rfl, (Value.tuple #[(Value.agg #[rv, (Value.int .u64 rf)]), (Value.int .i64 2)]), ?_, ?_⟩
      · exact ⟨rfl, (Res.r2 (RV.cellN Try.ag30 rfl (M.blk 0 rfl) rfl) (show RV _ _ _ (.tmp 5) (Value.int .i64 2) from by exact rfl))⟩
      have e22 : addS rs rf l = rs := by
        have had_ : pinC rs rf l = 2 := addC_bad (by omega) hx18 h20
        unfold addS; rw [had_]; rfl
      have hf23 := Sh.reList e22 (M.shr' 1 rfl)
      refine ⟨rv, ?_, M.close [] rfl (by decide) ⟨hf23, trivial⟩⟩
      have had_ : pinC rs rf l = 2 := addC_bad (by omega) hx18 h20
      rw [had_]
    ·
      have h20p := of_decide_eq_false h20
      refine W.skip ?_
      refine W.seq' ?_
      refine W.region rfl ?_
      refine WL.step (v := pv_) rfl (Step.move rfl) ?_
      refine WL.step (v := v) rfl (Step.move rfl) ?_
      refine WL.step (v := (Value.int .i64 ↑i_)) rfl (Step.move rfl) ?_
      refine WL.step (v := (Value.pointer (some ⟨(sBlk v), sOff v + i_ * 3, none⟩))) rfl (Step.indexAddr (i := i_) (Try.un28).run Try.el90.sized rfl rfl (by omega) hb16 (by omega)) ?_
      refine WL.step (v := (Value.agg #[(Value.int .u8 x18.sort), (Value.int .u64 x18.id), (Value.int .u64 x18.epoch)])) rfl (Step.loadEN (k := 0) (cs' := [(Value.int .u8 x18.sort), (Value.int .u64 x18.id), (Value.int .u64 x18.epoch)]) Try.ag90 (flat_ec (M.rep 2 rfl) hx18 pinE_len) (by decide) rfl rfl rfl) ?_
      refine WL.callX rfl (ref23_put pv_ ((l.take i_).foldl putV rs) x18 (by omega) (M.enterW0 ⟨(M.wideR0 0 rfl), trivial⟩)) (CallsF.func Try.en71 rfl) ?_
      rintro v24 w25 ⟨_, rfl, m⟩
      replace M := M.leaveW0 m
      clear m
      replace M : Mem _ _ _ [own 90 3 v24 ((putV ((l.take i_).foldl putV rs) x18).length) ((putV ((l.take i_).foldl putV rs) x18).flatMap pinE), blk b7 (.cells #[(Value.slice none 0 0), (Value.int .u64 0)] 30), blk b5 (.cells #[rv, (Value.int .u64 rf)] 30)] [SlAt 3 pv_ ((l.take i_).foldl putV rs).length (((l.take i_).foldl putV rs).flatMap pinE), SlAt 3 rv rs.length (rs.flatMap pinE), SlAt 3 v l.length (l.flatMap pinE)] _ := M
      have sl26 : IsSl v24 := SlAt.isSl (own_slAt (Mem.chunk M 0 rfl).inv)
      have hle27 := SlAt.le' (own_slAt (Mem.chunk M 0 rfl).inv)
      refine WL.step (v := v24) rfl (Step.assign rfl) ?_
      refine WL.nil ?_
      rcases Bool.eq_false_or_eq_true (lw_) with h28 | h28
      ·
        refine W.drawn M [0, 1, 2, 3, 4, 5, 6, 7, 8, 9, 10, 11] [] [] [own 90 3 v24 ((putV ((l.take i_).foldl putV rs) x18).length) ((putV ((l.take i_).foldl putV rs) x18).flatMap pinE), blk b7 (.cells #[(Value.slice none 0 0), (Value.int .u64 0)] 30), blk b5 (.cells #[rv, (Value.int .u64 rf)] 30)] [SlAt 3 pv_ ((l.take i_).foldl putV rs).length (((l.take i_).foldl putV rs).flatMap pinE), SlAt 3 rv rs.length (rs.flatMap pinE), SlAt 3 v l.length (l.flatMap pinE)] (List.Sublist.cons_cons _ (List.Sublist.cons_cons _ (List.Sublist.cons_cons _ List.Sublist.slnil))) (fun _ h => h) Try.mixed (by kernel_rfl) ?_
        refine TW.pure (v := (Value.bool true)) rfl (by decide) (by decide) rfl (fun w => (Step.cast (congrArg Value.bool h28) (Step.move rfl))) ?_
        refine TW.pure (v := (Value.bool true)) rfl (by decide) (by decide) rfl (fun w => (Step.move rfl)) ?_
        refine TW.skip rfl rfl ?_
        refine TW.skip rfl rfl ?_
        refine TW.skip rfl rfl ?_
        refine TW.skip rfl rfl ?_
        refine TW.skip rfl rfl ?_
        refine TW.skip rfl rfl ?_
        refine TW.skip rfl rfl ?_
        refine TW.skip rfl rfl ?_
        refine TW.pure (v := (Value.bool true)) rfl (by decide) (by decide) rfl (fun w => (Step.pick (t := true) rfl rfl)) ?_
        refine TW.pure (v := (Value.bool true)) rfl (by decide) (by decide) rfl (fun w => (Step.assign rfl)) ?_
        refine TW.done (fun w29 M => ?_)
        refine W.region rfl ?_
        refine WL.step (v := (Value.int .i64 ↑i_)) rfl (Step.move rfl) ?_
        refine WL.step (v := (Value.int .i64 (↑i_ + 1))) rfl (Step.add rfl rfl (wrap_i64 (by omega))) ?_
        refine WL.step (v := (Value.int .i64 (↑i_ + 1))) rfl (Step.assign rfl) ?_
        refine WL.nil ?_
        replace M := M.shareOwn 0 rfl
        replace M : Mem _ _ _ [blk b7 (.cells #[(Value.slice none 0 0), (Value.int .u64 0)] 30), blk b5 (.cells #[rv, (Value.int .u64 rf)] 30)] [SlAt 3 v24 (putV ((l.take i_).foldl putV rs) x18).length ((putV ((l.take i_).foldl putV rs) x18).flatMap pinE), SlAt 3 pv_ ((l.take i_).foldl putV rs).length (((l.take i_).foldl putV rs).flatMap pinE), SlAt 3 rv rs.length (rs.flatMap pinE), SlAt 3 v l.length (l.flatMap pinE)] _ := M
        replace M := M.add_imp 0 rfl (r' := SlAt 3 v24 ((l.take (i_ + 1)).foldl putV rs).length (((l.take (i_ + 1)).foldl putV rs).flatMap pinE)) (fun _ h => by rw [putN_snoc hx18]; exact h)
        replace M : Mem _ _ _ [blk b7 (.cells #[(Value.slice none 0 0), (Value.int .u64 0)] 30), blk b5 (.cells #[rv, (Value.int .u64 rf)] 30)] [SlAt 3 v24 ((l.take (i_ + 1)).foldl putV rs).length (((l.take (i_ + 1)).foldl putV rs).flatMap pinE), SlAt 3 v24 (putV ((l.take i_).foldl putV rs) x18).length ((putV ((l.take i_).foldl putV rs) x18).flatMap pinE), SlAt 3 pv_ ((l.take i_).foldl putV rs).length (((l.take i_).foldl putV rs).flatMap pinE), SlAt 3 rv rs.length (rs.flatMap pinE), SlAt 3 v l.length (l.flatMap pinE)] _ := M
        replace M := M.facts (R' := [SlAt 3 v24 ((l.take (i_ + 1)).foldl putV rs).length (((l.take (i_ + 1)).foldl putV rs).flatMap pinE), SlAt 3 rv rs.length (rs.flatMap pinE), SlAt 3 v l.length (l.flatMap pinE)]) (Facts.all ⟨M.shr' 0 rfl, M.shr' 3 rfl, M.shr' 4 rfl, trivial⟩)
        exact ⟨_, (by omega), i_ + 1, _, true, ⟨(by omega), (addC_step (by omega) hi12 hx18 h20), (by rw [any_snoc hx18, ← hi13, h28]; rfl), rfl⟩, ⟨rfl, rfl, rfl, rfl, rfl, rfl, rfl, rfl⟩, M⟩
      ·
        refine W.drawn M [0, 1, 2, 3, 4, 5, 6, 7, 8, 9, 10, 11] [] [] [own 90 3 v24 ((putV ((l.take i_).foldl putV rs) x18).length) ((putV ((l.take i_).foldl putV rs) x18).flatMap pinE), blk b7 (.cells #[(Value.slice none 0 0), (Value.int .u64 0)] 30), blk b5 (.cells #[rv, (Value.int .u64 rf)] 30)] [SlAt 3 pv_ ((l.take i_).foldl putV rs).length (((l.take i_).foldl putV rs).flatMap pinE), SlAt 3 rv rs.length (rs.flatMap pinE), SlAt 3 v l.length (l.flatMap pinE)] (List.Sublist.cons_cons _ (List.Sublist.cons_cons _ (List.Sublist.cons_cons _ List.Sublist.slnil))) (fun _ h => h) Try.mixed (by kernel_rfl) ?_
        refine TW.pure (v := (Value.bool false)) rfl (by decide) (by decide) rfl (fun w => (Step.cast (congrArg Value.bool h28) (Step.move rfl))) ?_
        refine TW.pure (v := (Value.bool false)) rfl (by decide) (by decide) rfl (fun w => (Step.move rfl)) ?_
        refine TW.pure (v := v) rfl (by decide) (by decide) rfl (fun w => (Step.move rfl)) ?_
        refine TW.pure (v := (Value.int .i64 ↑i_)) rfl (by decide) (by decide) rfl (fun w => (Step.move rfl)) ?_
        refine TW.pure (v := (Value.pointer (some ⟨(sBlk v), sOff v + i_ * 3, none⟩))) rfl (by decide) (by decide) rfl (fun w => (Step.indexAddr (i := i_) (Try.un28).run Try.el90.sized rfl rfl (by omega) hb16 (by omega))) ?_
        refine TW.pure (v := (Value.pointer (some ⟨(sBlk v), sOff v + i_ * 3 + 2, none⟩))) rfl (by decide) (by decide) rfl (fun w => (Step.pure (by kernel_rfl))) ?_
        refine TW.read (v := (Value.int .u64 x18.epoch)) rfl (by decide) (by decide) rfl (fun A w M => (Step.loadE (k := 2) Try.sc23 (flat_ec (M.rep 2 rfl) hx18 pinE_len) (by decide) rfl rfl)) ?_
        refine TW.pure (v := (Value.pointer (some ⟨b5, 1, none⟩))) rfl (by decide) (by decide) rfl (fun w => (Step.pure (by kernel_rfl))) ?_
        refine TW.read (v := (Value.int .u64 rf)) rfl (by decide) (by decide) rfl (fun A w M => (Step.load1 Try.sc23 rfl ((M.cell 3 rfl 1).trans rfl))) ?_
        refine TW.pure (v := (Value.bool (decide ((x18.epoch : Int) < (rf : Int))))) rfl (by decide) (by decide) rfl (fun w => (Step.pure (by kernel_rfl))) ?_
        refine TW.pure (v := (Value.bool (decide ((x18.epoch : Int) < (rf : Int))))) rfl (by decide) (by decide) rfl (fun w => (Step.pick (t := false) rfl rfl)) ?_
        refine TW.pure (v := (Value.bool (decide ((x18.epoch : Int) < (rf : Int))))) rfl (by decide) (by decide) rfl (fun w => (Step.assign rfl)) ?_
        refine TW.done (fun w30 M => ?_)
        refine W.region rfl ?_
        refine WL.step (v := (Value.int .i64 ↑i_)) rfl (Step.move rfl) ?_
        refine WL.step (v := (Value.int .i64 (↑i_ + 1))) rfl (Step.add rfl rfl (wrap_i64 (by omega))) ?_
        refine WL.step (v := (Value.int .i64 (↑i_ + 1))) rfl (Step.assign rfl) ?_
        refine WL.nil ?_
        replace M := M.shareOwn 0 rfl
        replace M : Mem _ _ _ [blk b7 (.cells #[(Value.slice none 0 0), (Value.int .u64 0)] 30), blk b5 (.cells #[rv, (Value.int .u64 rf)] 30)] [SlAt 3 v24 (putV ((l.take i_).foldl putV rs) x18).length ((putV ((l.take i_).foldl putV rs) x18).flatMap pinE), SlAt 3 pv_ ((l.take i_).foldl putV rs).length (((l.take i_).foldl putV rs).flatMap pinE), SlAt 3 rv rs.length (rs.flatMap pinE), SlAt 3 v l.length (l.flatMap pinE)] _ := M
        replace M := M.add_imp 0 rfl (r' := SlAt 3 v24 ((l.take (i_ + 1)).foldl putV rs).length (((l.take (i_ + 1)).foldl putV rs).flatMap pinE)) (fun _ h => by rw [putN_snoc hx18]; exact h)
        replace M : Mem _ _ _ [blk b7 (.cells #[(Value.slice none 0 0), (Value.int .u64 0)] 30), blk b5 (.cells #[rv, (Value.int .u64 rf)] 30)] [SlAt 3 v24 ((l.take (i_ + 1)).foldl putV rs).length (((l.take (i_ + 1)).foldl putV rs).flatMap pinE), SlAt 3 v24 (putV ((l.take i_).foldl putV rs) x18).length ((putV ((l.take i_).foldl putV rs) x18).flatMap pinE), SlAt 3 pv_ ((l.take i_).foldl putV rs).length (((l.take i_).foldl putV rs).flatMap pinE), SlAt 3 rv rs.length (rs.flatMap pinE), SlAt 3 v l.length (l.flatMap pinE)] _ := M
        replace M := M.facts (R' := [SlAt 3 v24 ((l.take (i_ + 1)).foldl putV rs).length (((l.take (i_ + 1)).foldl putV rs).flatMap pinE), SlAt 3 rv rs.length (rs.flatMap pinE), SlAt 3 v l.length (l.flatMap pinE)]) (Facts.all ⟨M.shr' 0 rfl, M.shr' 3 rfl, M.shr' 4 rfl, trivial⟩)
        exact ⟨_, (by omega), i_ + 1, _, (decide ((x18.epoch : Int) < (rf : Int))), ⟨(by omega), (addC_step (by omega) hi12 hx18 h20), (by rw [any_snoc hx18, ← hi13, h28]; rfl), rfl⟩, ⟨rfl, rfl, rfl, rfl, rfl, rfl, rfl, rfl⟩, M⟩
  ·
    have h15p := of_decide_eq_false h15
    refine W.exit ?_
    refine thn_exit ?_
    refine thn_exit ?_
    refine inBlk_hit ?_
    refine W.seq' ?_
    refine W.seq' ?_
    refine W.region rfl ?_
    refine WL.step (v := (Value.bool lw_)) rfl (Step.move rfl) ?_
    refine WL.nil ?_
    refine W.cond (t := lw_) rfl (fun h31 => ?_) (fun h31 => ?_)
    ·
      refine W.seq' ?_
      refine W.region rfl ?_
      refine WL.step (v := (Value.agg #[rv, (Value.int .u64 rf)])) rfl (Step.loadN Try.ag30 rfl (M.blk 1 rfl) (Nat.le_of_ble_eq_true rfl) rfl) ?_
      refine WL.store (v := (Value.agg #[rv, (Value.int .u64 rf)])) (cs := [rv, (Value.int .u64 rf)]) (c' := #[rv, (Value.int .u64 rf)]) M 0 rfl rfl Try.el30.sized rfl rfl rfl rfl (Nat.le_of_ble_eq_true rfl) (cel_cons (IsSl.cel sl3) (cel_cons rfl cel_nil)) rfl rfl (fun w32 M => ?_)
      refine WL.step (v := (Value.int .i64 230)) rfl (Step.assign rfl) ?_
      refine WL.nil ?_
      refine W.ret ?_
      refine ⟨.inl rfl, (Value.tuple #[(Value.agg #[rv, (Value.int .u64 rf)]), (Value.int .i64 230)]), ?_, ?_⟩
      · exact ⟨rfl, (Res.r2 (RV.cellN Try.ag30 rfl (M.blk 0 rfl) rfl) (show RV _ _ _ (.tmp 5) (Value.int .i64 230) from by exact rfl))⟩
      have e33 : addS rs rf l = rs := by
        have had_ := addC_end (fo := rf) (by omega) hi12 hi13 hi11
        rw [h31] at had_
        unfold addS; rw [had_]; rfl
      have hf34 := Sh.reList e33 (M.shr' 1 rfl)
      refine ⟨rv, ?_, M.close [] rfl (by decide) ⟨hf34, trivial⟩⟩
      have had_ := addC_end (fo := rf) (by omega) hi12 hi13 hi11
      rw [h31] at had_
      rw [had_]; rfl
    ·
      refine W.skip ?_
      refine W.seq' ?_
      refine W.region rfl ?_
      refine WL.step (v := pv_) rfl (Step.move rfl) ?_
      refine WL.step (v := (Value.pointer (some ⟨b5, 1, none⟩))) rfl (Step.pure (by kernel_rfl)) ?_
      refine WL.step (v := (Value.int .u64 rf)) rfl (Step.load1 Try.sc23 rfl ((M.cell 1 rfl 1).trans rfl)) ?_
      refine WL.step (v := (Value.agg #[pv_, (Value.int .u64 rf)])) rfl (by obtain ⟨_, _, _, e⟩ := sl14; subst e; exact (Step.pure (by kernel_rfl))) ?_
      refine WL.store (v := (Value.agg #[pv_, (Value.int .u64 rf)])) (cs := [pv_, (Value.int .u64 rf)]) (c' := #[pv_, (Value.int .u64 rf)]) M 0 rfl rfl Try.el30.sized rfl rfl rfl rfl (Nat.le_of_ble_eq_true rfl) (cel_cons (IsSl.cel sl14) (cel_cons rfl cel_nil)) rfl rfl (fun w35 M => ?_)
      refine WL.step (v := (Value.int .i64 0)) rfl (Step.assign rfl) ?_
      refine WL.nil ?_
      refine W.ret ?_
      refine ⟨.inl rfl, (Value.tuple #[(Value.agg #[pv_, (Value.int .u64 rf)]), (Value.int .i64 0)]), ?_, ?_⟩
      · exact ⟨rfl, (Res.r2 (RV.cellN Try.ag30 rfl (M.blk 0 rfl) rfl) (show RV _ _ _ (.tmp 5) (Value.int .i64 0) from by exact rfl))⟩
      have e36 : addS rs rf l = (l.take i_).foldl putV rs := by
        have had_ := addC_end (fo := rf) (by omega) hi12 hi13 hi11
        rw [h31] at had_
        unfold addS; rw [had_, show i_ = l.length by omega, List.take_length]; rfl
      have hf37 := Sh.reList e36 (M.shr' 0 rfl)
      refine ⟨pv_, ?_, M.close [] rfl (by decide) ⟨hf37, trivial⟩⟩
      have had_ := addC_end (fo := rf) (by omega) hi12 hi13 hi11
      rw [h31] at had_
      rw [had_]; rfl

theorem nan_u8 {G : Nat → Prop} {w : World} (x : Int)   (M : Mem G (fun _ => False) w [] [] w) : Rets Try.prog 75 #[(Value.int .u8 x)] w fun r w' => r = (Value.bool false) ∧ Mem G (fun _ => False) w [] [] w' := by
  refine Rets.enter 6 _ Try.func75 rfl Try.ntmps75 Try.results75 (by simp) ?_
  refine W.seq' ?_
  refine W.region rfl ?_
  refine WL.step (v := (Value.bool false)) rfl (Step.assign rfl) ?_
  refine WL.nil ?_
  refine W.seq' ?_
  refine W.region rfl ?_
  refine WL.step (v := (Value.int .u8 x)) rfl (Step.move rfl) ?_
  refine WL.step (v := (Value.int .u8 x)) rfl (Step.move rfl) ?_
  refine WL.step (v := (Value.bool false)) rfl (Step.cast (congrArg Value.bool (show ((x : Int) != (x : Int)) = false by simp)) (Step.pure (by kernel_rfl))) ?_
  refine WL.step (v := (Value.bool false)) rfl (Step.assign rfl) ?_
  refine WL.nil ?_
  refine W.ret ?_
  refine ⟨.inl rfl, (Value.bool false), ?_, ?_⟩
  · exact ⟨rfl, (Res.r1 (show RV _ _ _ (.tmp 2) (Value.bool false) from by exact rfl))⟩
  refine ⟨?_, M.close [] rfl (by decide) trivial⟩
  rfl

theorem comp_u8 {G : Nat → Prop} {w : World} (x : Int) (y : Int)   (M : Mem G (fun _ => False) w [] [] w) : Rets Try.prog 51 #[(Value.int .u8 x), (Value.int .u8 y)] w fun r w' => r = (Value.int .i64 (cmpI x y)) ∧ Mem G (fun _ => False) w [] [] w' := by
  refine Rets.enter 20 _ Try.func51 rfl Try.ntmps51 Try.results51 (by simp) ?_
  refine W.seq' ?_
  refine W.region rfl ?_
  refine WL.step (v := (Value.int .i64 0)) rfl (Step.assign rfl) ?_
  refine WL.nil ?_
  refine W.seq' ?_
  refine W.region rfl ?_
  refine WL.step (v := (Value.int .u8 x)) rfl (Step.move rfl) ?_
  refine WL.callX rfl (nan_u8 x (M.enterW0 trivial)) (CallsF.func Try.en75 rfl) ?_
  rintro _ w1 ⟨rfl, m⟩
  replace M := M.leaveW0 m
  clear m
  replace M : Mem _ _ _ [] [] _ := M
  refine WL.step (v := (Value.bool false)) rfl (Step.assign rfl) ?_
  refine WL.nil ?_
  refine W.seq' ?_
  refine W.region rfl ?_
  refine WL.step (v := (Value.int .u8 y)) rfl (Step.move rfl) ?_
  refine WL.callX rfl (nan_u8 y (M.enterW0 trivial)) (CallsF.func Try.en75 rfl) ?_
  rintro _ w2 ⟨rfl, m⟩
  replace M := M.leaveW0 m
  clear m
  replace M : Mem _ _ _ [] [] _ := M
  refine WL.step (v := (Value.bool false)) rfl (Step.assign rfl) ?_
  refine WL.nil ?_
  refine W.seq' ?_
  refine W.seq' ?_
  refine W.region rfl ?_
  refine WL.step (v := (Value.bool false)) rfl (Step.move rfl) ?_
  refine WL.nil ?_
  refine W.cond (t := false) rfl (fun h => by cases h) (fun _ => ?_)
  refine W.skip ?_
  refine W.seq' ?_
  refine W.seq' ?_
  refine W.region rfl ?_
  refine WL.step (v := (Value.bool false)) rfl (Step.move rfl) ?_
  refine WL.nil ?_
  refine W.cond (t := false) rfl (fun h => by cases h) (fun _ => ?_)
  refine W.skip ?_
  refine W.seq' ?_
  refine W.seq' ?_
  refine W.region rfl ?_
  refine WL.step (v := (Value.int .u8 x)) rfl (Step.move rfl) ?_
  refine WL.step (v := (Value.int .u8 y)) rfl (Step.move rfl) ?_
  refine WL.step (v := (Value.bool (decide ((x : Int) < (y : Int))))) rfl (Step.pure (by kernel_rfl)) ?_
  refine WL.nil ?_
  refine W.cond (t := decide ((x : Int) < (y : Int))) rfl (fun h3 => ?_) (fun h3 => ?_)
  ·
    have h3p := of_decide_eq_true h3
    refine W.seq' ?_
    refine W.region rfl ?_
    refine WL.step (v := (Value.int .i64 (-1))) rfl (Step.assign rfl) ?_
    refine WL.nil ?_
    refine W.ret ?_
    refine ⟨.inl rfl, (Value.int .i64 (-1)), ?_, ?_⟩
    · exact ⟨rfl, (Res.r1 (show RV _ _ _ (.tmp 4) (Value.int .i64 (-1)) from by exact rfl))⟩
    refine ⟨?_, M.close [] rfl (by decide) trivial⟩
    simp [cmpI, h3p]; try omega
  ·
    have h3p := of_decide_eq_false h3
    refine W.skip ?_
    refine W.seq' ?_
    refine W.seq' ?_
    refine W.region rfl ?_
    refine WL.step (v := (Value.int .u8 x)) rfl (Step.move rfl) ?_
    refine WL.step (v := (Value.int .u8 y)) rfl (Step.move rfl) ?_
    refine WL.step (v := (Value.bool (decide ((x : Int) > (y : Int))))) rfl (Step.pure (by kernel_rfl)) ?_
    refine WL.nil ?_
    refine W.cond (t := decide ((x : Int) > (y : Int))) rfl (fun h4 => ?_) (fun h4 => ?_)
    ·
      have h4p := of_decide_eq_true h4
      refine W.seq' ?_
      refine W.region rfl ?_
      refine WL.step (v := (Value.int .i64 1)) rfl (Step.assign rfl) ?_
      refine WL.nil ?_
      refine W.ret ?_
      refine ⟨.inl rfl, (Value.int .i64 1), ?_, ?_⟩
      · exact ⟨rfl, (Res.r1 (show RV _ _ _ (.tmp 4) (Value.int .i64 1) from by exact rfl))⟩
      refine ⟨?_, M.close [] rfl (by decide) trivial⟩
      simp [cmpI, h3p, h4p]; try omega
    ·
      have h4p := of_decide_eq_false h4
      refine W.skip ?_
      refine W.seq' ?_
      refine W.region rfl ?_
      refine WL.step (v := (Value.int .i64 0)) rfl (Step.assign rfl) ?_
      refine WL.nil ?_
      refine W.ret ?_
      refine ⟨.inl rfl, (Value.int .i64 0), ?_, ?_⟩
      · exact ⟨rfl, (Res.r1 (show RV _ _ _ (.tmp 4) (Value.int .i64 0) from by exact rfl))⟩
      refine ⟨?_, M.close [] rfl (by decide) trivial⟩
      simp [cmpI, h3p, h4p]; try omega

theorem nan_u64 {G : Nat → Prop} {w : World} (x : Int)   (M : Mem G (fun _ => False) w [] [] w) : Rets Try.prog 76 #[(Value.int .u64 x)] w fun r w' => r = (Value.bool false) ∧ Mem G (fun _ => False) w [] [] w' := by
  refine Rets.enter 6 _ Try.func76 rfl Try.ntmps76 Try.results76 (by simp) ?_
  refine W.seq' ?_
  refine W.region rfl ?_
  refine WL.step (v := (Value.bool false)) rfl (Step.assign rfl) ?_
  refine WL.nil ?_
  refine W.seq' ?_
  refine W.region rfl ?_
  refine WL.step (v := (Value.int .u64 x)) rfl (Step.move rfl) ?_
  refine WL.step (v := (Value.int .u64 x)) rfl (Step.move rfl) ?_
  refine WL.step (v := (Value.bool false)) rfl (Step.cast (congrArg Value.bool (show ((x : Int) != (x : Int)) = false by simp)) (Step.pure (by kernel_rfl))) ?_
  refine WL.step (v := (Value.bool false)) rfl (Step.assign rfl) ?_
  refine WL.nil ?_
  refine W.ret ?_
  refine ⟨.inl rfl, (Value.bool false), ?_, ?_⟩
  · exact ⟨rfl, (Res.r1 (show RV _ _ _ (.tmp 2) (Value.bool false) from by exact rfl))⟩
  refine ⟨?_, M.close [] rfl (by decide) trivial⟩
  rfl

theorem comp_u64 {G : Nat → Prop} {w : World} (x : Int) (y : Int)   (M : Mem G (fun _ => False) w [] [] w) : Rets Try.prog 52 #[(Value.int .u64 x), (Value.int .u64 y)] w fun r w' => r = (Value.int .i64 (cmpI x y)) ∧ Mem G (fun _ => False) w [] [] w' := by
  refine Rets.enter 20 _ Try.func52 rfl Try.ntmps52 Try.results52 (by simp) ?_
  refine W.seq' ?_
  refine W.region rfl ?_
  refine WL.step (v := (Value.int .i64 0)) rfl (Step.assign rfl) ?_
  refine WL.nil ?_
  refine W.seq' ?_
  refine W.region rfl ?_
  refine WL.step (v := (Value.int .u64 x)) rfl (Step.move rfl) ?_
  refine WL.callX rfl (nan_u64 x (M.enterW0 trivial)) (CallsF.func Try.en76 rfl) ?_
  rintro _ w1 ⟨rfl, m⟩
  replace M := M.leaveW0 m
  clear m
  replace M : Mem _ _ _ [] [] _ := M
  refine WL.step (v := (Value.bool false)) rfl (Step.assign rfl) ?_
  refine WL.nil ?_
  refine W.seq' ?_
  refine W.region rfl ?_
  refine WL.step (v := (Value.int .u64 y)) rfl (Step.move rfl) ?_
  refine WL.callX rfl (nan_u64 y (M.enterW0 trivial)) (CallsF.func Try.en76 rfl) ?_
  rintro _ w2 ⟨rfl, m⟩
  replace M := M.leaveW0 m
  clear m
  replace M : Mem _ _ _ [] [] _ := M
  refine WL.step (v := (Value.bool false)) rfl (Step.assign rfl) ?_
  refine WL.nil ?_
  refine W.seq' ?_
  refine W.seq' ?_
  refine W.region rfl ?_
  refine WL.step (v := (Value.bool false)) rfl (Step.move rfl) ?_
  refine WL.nil ?_
  refine W.cond (t := false) rfl (fun h => by cases h) (fun _ => ?_)
  refine W.skip ?_
  refine W.seq' ?_
  refine W.seq' ?_
  refine W.region rfl ?_
  refine WL.step (v := (Value.bool false)) rfl (Step.move rfl) ?_
  refine WL.nil ?_
  refine W.cond (t := false) rfl (fun h => by cases h) (fun _ => ?_)
  refine W.skip ?_
  refine W.seq' ?_
  refine W.seq' ?_
  refine W.region rfl ?_
  refine WL.step (v := (Value.int .u64 x)) rfl (Step.move rfl) ?_
  refine WL.step (v := (Value.int .u64 y)) rfl (Step.move rfl) ?_
  refine WL.step (v := (Value.bool (decide ((x : Int) < (y : Int))))) rfl (Step.pure (by kernel_rfl)) ?_
  refine WL.nil ?_
  refine W.cond (t := decide ((x : Int) < (y : Int))) rfl (fun h3 => ?_) (fun h3 => ?_)
  ·
    have h3p := of_decide_eq_true h3
    refine W.seq' ?_
    refine W.region rfl ?_
    refine WL.step (v := (Value.int .i64 (-1))) rfl (Step.assign rfl) ?_
    refine WL.nil ?_
    refine W.ret ?_
    refine ⟨.inl rfl, (Value.int .i64 (-1)), ?_, ?_⟩
    · exact ⟨rfl, (Res.r1 (show RV _ _ _ (.tmp 4) (Value.int .i64 (-1)) from by exact rfl))⟩
    refine ⟨?_, M.close [] rfl (by decide) trivial⟩
    simp [cmpI, h3p]; try omega
  ·
    have h3p := of_decide_eq_false h3
    refine W.skip ?_
    refine W.seq' ?_
    refine W.seq' ?_
    refine W.region rfl ?_
    refine WL.step (v := (Value.int .u64 x)) rfl (Step.move rfl) ?_
    refine WL.step (v := (Value.int .u64 y)) rfl (Step.move rfl) ?_
    refine WL.step (v := (Value.bool (decide ((x : Int) > (y : Int))))) rfl (Step.pure (by kernel_rfl)) ?_
    refine WL.nil ?_
    refine W.cond (t := decide ((x : Int) > (y : Int))) rfl (fun h4 => ?_) (fun h4 => ?_)
    ·
      have h4p := of_decide_eq_true h4
      refine W.seq' ?_
      refine W.region rfl ?_
      refine WL.step (v := (Value.int .i64 1)) rfl (Step.assign rfl) ?_
      refine WL.nil ?_
      refine W.ret ?_
      refine ⟨.inl rfl, (Value.int .i64 1), ?_, ?_⟩
      · exact ⟨rfl, (Res.r1 (show RV _ _ _ (.tmp 4) (Value.int .i64 1) from by exact rfl))⟩
      refine ⟨?_, M.close [] rfl (by decide) trivial⟩
      simp [cmpI, h3p, h4p]; try omega
    ·
      have h4p := of_decide_eq_false h4
      refine W.skip ?_
      refine W.seq' ?_
      refine W.region rfl ?_
      refine WL.step (v := (Value.int .i64 0)) rfl (Step.assign rfl) ?_
      refine WL.nil ?_
      refine W.ret ?_
      refine ⟨.inl rfl, (Value.int .i64 0), ?_, ?_⟩
      · exact ⟨rfl, (Res.r1 (show RV _ _ _ (.tmp 4) (Value.int .i64 0) from by exact rfl))⟩
      refine ⟨?_, M.close [] rfl (by decide) trivial⟩
      simp [cmpI, h3p, h4p]; try omega

theorem or_int {G : Nat → Prop} {w : World} (v : Value) (l : List Int)   (M : Mem G (fun _ => False) w [] [SlAt 1 v l.length (l.flatMap intE)] w) : Rets Try.prog 50 #[v] w fun r w' => r = (Value.int .i64 (orL l)) ∧ Mem G (fun _ => False) w [] [] w' := by
  refine Rets.enter 18 _ Try.func50 rfl Try.ntmps50 Try.results50 (by simp) ?_
  have hle1 := SlAt.le' (M.rep 0 rfl)
  have sl2 : IsSl v := SlAt.isSl (Mem.rep M 0 rfl)
  refine W.seq' ?_
  refine W.region rfl ?_
  refine WL.step (v := (Value.int .i64 0)) rfl (Step.assign rfl) ?_
  refine WL.nil ?_
  refine W.seq' ?_
  refine W.region rfl ?_
  refine WL.step (v := (Value.int .i64 0)) rfl (Step.assign rfl) ?_
  refine WL.nil ?_
  refine W.seq' ?_
  refine W.seq' ?_
  refine W.region rfl ?_
  refine WL.step (v := v) rfl (Step.move rfl) ?_
  refine WL.step (v := (Value.int .i64 ↑l.length)) rfl (Step.lenSl Try.un125 rfl (M.rep 0 rfl)) ?_
  refine WL.step (v := (Value.int .i64 0)) rfl (Step.move rfl) ?_
  refine WL.nil ?_
  refine W.block ?_
  refine W.loop (fun kk ρ w' => ∃ (i_ : Nat), ((i_ ≤ l.length) ∧ (∀ j u, j < i_ → l[j]? = some u → u = 0) ∧ kk = l.length - i_) ∧ ρ.has [(3, (Value.int .i64 0)), (6, v), (7, (Value.int .i64 ↑l.length)), (8, (Value.int .i64 ↑i_))] ∧ Mem G (fun _ => False) w [] [SlAt 1 v l.length (l.flatMap intE)]  w') _ ⟨0, ⟨(Nat.zero_le _), (fun _ _ h => absurd h (Nat.not_lt_zero _)), rfl⟩, ⟨rfl, rfl, rfl, rfl, rfl, rfl⟩, M⟩ ?_
  rintro _ ρ4 w3 ⟨i_, ⟨hi5, hi6, rfl⟩, hρ, M⟩
  obtain ⟨ρ4, rfl⟩ := hρ.know
  clear hρ
  refine W.seq' ?_
  refine W.region rfl ?_
  refine WL.step (v := (Value.bool (decide ((↑i_ : Int) < (↑l.length : Int))))) rfl (Step.pure (by kernel_rfl)) ?_
  refine WL.nil ?_
  refine W.seq' ?_
  refine W.cond (t := decide ((↑i_ : Int) < (↑l.length : Int))) rfl (fun h7 => ?_) (fun h7 => ?_)
  ·
    have h7p := of_decide_eq_true h7
    refine W.skip ?_
    refine W.seq' ?_
    refine W.block ?_
    refine W.seq' ?_
    refine W.region rfl ?_
    obtain ⟨cap9, hb8⟩ := SlAt.base (M.rep 0 rfl) (by omega)
    obtain ⟨x10, hx10⟩ := elem_of_lt (xs := l) (i := i_) (by omega)
    refine WL.step (v := (Value.pointer (some ⟨(sBlk v), sOff v + i_ * 1, none⟩))) rfl (Step.indexAddr (i := i_) (Try.un125).run Try.el3.sized rfl rfl (by omega) hb8 (by omega)) ?_
    refine WL.step (v := (Value.int .i64 x10)) rfl (Step.loadE (k := 0) Try.sc3 (flat_ec (M.rep 0 rfl) hx10 intE_len) (by decide) rfl rfl) ?_
    refine WL.step (v := (Value.int .i64 x10)) rfl (Step.assign rfl) ?_
    refine WL.nil ?_
    refine W.seq' ?_
    refine W.region rfl ?_
    refine WL.step (v := (Value.int .i64 x10)) rfl (Step.move rfl) ?_
    refine WL.step (v := (Value.int .i64 0)) rfl (Step.move rfl) ?_
    refine WL.step (v := (Value.bool ((x10 : Int) != (0 : Int)))) rfl (Step.pure (by kernel_rfl)) ?_
    refine WL.nil ?_
    refine W.cond (t := (x10 : Int) != (0 : Int)) rfl (fun h11 => ?_) (fun h11 => ?_)
    ·
      have h11p : ¬ (x10 : Int) = (0 : Int) := by simpa using h11
      refine W.seq' ?_
      refine W.region rfl ?_
      refine WL.step (v := (Value.int .i64 x10)) rfl (Step.move rfl) ?_
      refine WL.step (v := (Value.int .i64 x10)) rfl (Step.assign rfl) ?_
      refine WL.nil ?_
      refine W.ret ?_
      refine ⟨.inl rfl, (Value.int .i64 x10), ?_, ?_⟩
      · exact ⟨rfl, (Res.r1 (show RV _ _ _ (.tmp 2) (Value.int .i64 x10) from by exact rfl))⟩
      refine ⟨?_, M.close [] rfl (by decide) trivial⟩
      refine congrArg (Value.int .i64) ?_
      exact (orL_hit hx10 h11p hi6).symm
    ·
      have h11p : (x10 : Int) = (0 : Int) := by simpa using h11
      refine W.skip ?_
      refine W.region rfl ?_
      refine WL.step (v := (Value.int .i64 (↑i_ + 1))) rfl (Step.add rfl rfl (wrap_i64 (by omega))) ?_
      refine WL.step (v := (Value.int .i64 (↑i_ + 1))) rfl (Step.move rfl) ?_
      refine WL.nil ?_
      exact ⟨_, (by omega), i_ + 1, ⟨(by omega), (orL_step hi6 hx10 h11p), rfl⟩, ⟨rfl, rfl, rfl, rfl, rfl, rfl⟩, M⟩
  ·
    have h7p := of_decide_eq_false h7
    refine W.exit ?_
    refine thn_exit ?_
    refine thn_exit ?_
    refine inBlk_hit ?_
    refine W.seq' ?_
    refine W.region rfl ?_
    refine WL.step (v := (Value.int .i64 0)) rfl (Step.move rfl) ?_
    refine WL.step (v := (Value.int .i64 0)) rfl (Step.assign rfl) ?_
    refine WL.nil ?_
    refine W.ret ?_
    refine ⟨.inl rfl, (Value.int .i64 0), ?_, ?_⟩
    · exact ⟨rfl, (Res.r1 (show RV _ _ _ (.tmp 2) (Value.int .i64 0) from by exact rfl))⟩
    refine ⟨?_, M.close [] rfl (by decide) trivial⟩
    refine congrArg (Value.int .i64) ?_
    exact (orL_none hi6 (by omega)).symm

theorem hz_cmp {G : Nat → Prop} {w : World} (a : PinH) (b : PinH)   (M : Mem G (fun _ => False) w [] [] w) : Rets Try.prog 49 #[(Value.agg #[(Value.int .u8 a.sort), (Value.int .u64 a.id), (Value.int .u64 a.epoch)]), (Value.agg #[(Value.int .u8 b.sort), (Value.int .u64 b.id), (Value.int .u64 b.epoch)])] w fun r w' => r = (Value.int .i64 (cmpPin a b)) ∧ Mem G (fun _ => False) w [] [] w' := by
  refine Rets.enter 17 _ Try.func49 rfl Try.ntmps49 Try.results49 (by simp) ?_
  refine W.seq' ?_
  refine W.region rfl ?_
  refine WL.box (v := (Value.agg #[(Value.int .u8 a.sort), (Value.int .u64 a.id), (Value.int .u64 a.epoch)])) (c := #[(Value.int .u8 a.sort), (Value.int .u64 a.id), (Value.int .u64 a.epoch)]) M rfl rfl rfl (fun b1 w2 hb1 M => ?_)
  refine WL.box (v := (Value.agg #[(Value.int .u8 b.sort), (Value.int .u64 b.id), (Value.int .u64 b.epoch)])) (c := #[(Value.int .u8 b.sort), (Value.int .u64 b.id), (Value.int .u64 b.epoch)]) M rfl rfl rfl (fun b3 w4 hb3 M => ?_)
  refine WL.step (v := (Value.int .i64 0)) rfl (Step.assign rfl) ?_
  refine WL.nil ?_
  refine W.seq' ?_
  refine W.drawn M [0, 1, 2, 3, 4, 5, 6, 7, 8, 9, 10, 11, 12] [4, 9, 11] [10] [blk b3 (.cells #[(Value.int .u8 b.sort), (Value.int .u64 b.id), (Value.int .u64 b.epoch)] 35), blk b1 (.cells #[(Value.int .u8 a.sort), (Value.int .u64 a.id), (Value.int .u64 a.epoch)] 35)] [] (List.Sublist.cons_cons _ (List.Sublist.cons_cons _ List.Sublist.slnil)) (fun _ h => h) Try.mixed (by kernel_rfl) ?_
  refine TW.pure (v := (Value.pointer (some ⟨b1, 0, none⟩))) rfl (by decide) (by decide) rfl (fun w => (Step.pure (by kernel_rfl))) ?_
  refine TW.read (v := (Value.int .u8 a.sort)) rfl (by decide) (by decide) rfl (fun A w M => (Step.load1 Try.sc5 rfl ((M.cell 2 rfl 0).trans rfl))) ?_
  refine TW.pure (v := (Value.pointer (some ⟨b3, 0, none⟩))) rfl (by decide) (by decide) rfl (fun w => (Step.pure (by kernel_rfl))) ?_
  refine TW.read (v := (Value.int .u8 b.sort)) rfl (by decide) (by decide) rfl (fun A w M => (Step.load1 Try.sc5 rfl ((M.cell 1 rfl 0).trans rfl))) ?_
  refine TW.callX (ι := Unit) (fun jx v_ => v_ = (Value.int .i64 (cmpI a.sort b.sort))) (fun jx => [blk b3 (.cells #[(Value.int .u8 b.sort), (Value.int .u64 b.id), (Value.int .u64 b.epoch)] 35), blk b1 (.cells #[(Value.int .u8 a.sort), (Value.int .u64 a.id), (Value.int .u64 a.epoch)] 35)]) (fun jx => []) rfl (by decide) rfl (fun jx => (List.Sublist.cons_cons _ (List.Sublist.cons_cons _ List.Sublist.slnil))) (fun jx r h => h) (fun A w M => Rets.mono (comp_u8 a.sort b.sort (M.enterW0 trivial)) (fun v_ w_ ⟨e_, m⟩ => ⟨(), e_, (M.leaveW0 m).sel (L' := [fl A, blk b3 (.cells #[(Value.int .u8 b.sort), (Value.int .u64 b.id), (Value.int .u64 b.epoch)] 35), blk b1 (.cells #[(Value.int .u8 a.sort), (Value.int .u64 a.id), (Value.int .u64 a.epoch)] 35)]) [0, 1, 2] rfl (by decide), fun b hb => M.keptW0 m (fl A) (List.mem_cons_self ..) b hb⟩)) (fun w => CallsF.func Try.en51 rfl) (fun jx v hp hin => ?_)
  replace hp := hp.symm; subst hp
  clear hin
  change TW _ _ _ _ _ _ _ _ (MemA _ _ _ [blk b3 (.cells #[(Value.int .u8 b.sort), (Value.int .u64 b.id), (Value.int .u64 b.epoch)] 35), blk b1 (.cells #[(Value.int .u8 a.sort), (Value.int .u64 a.id), (Value.int .u64 a.epoch)] 35)] [])
  refine TW.pure (v := (Value.pointer (some ⟨b1, 1, none⟩))) rfl (by decide) (by decide) rfl (fun w => (Step.pure (by kernel_rfl))) ?_
  refine TW.read (v := (Value.int .u64 a.id)) rfl (by decide) (by decide) rfl (fun A w M => (Step.load1 Try.sc23 rfl ((M.cell 2 rfl 1).trans rfl))) ?_
  refine TW.pure (v := (Value.pointer (some ⟨b3, 1, none⟩))) rfl (by decide) (by decide) rfl (fun w => (Step.pure (by kernel_rfl))) ?_
  refine TW.read (v := (Value.int .u64 b.id)) rfl (by decide) (by decide) rfl (fun A w M => (Step.load1 Try.sc23 rfl ((M.cell 1 rfl 1).trans rfl))) ?_
  refine TW.callX (ι := Unit) (fun jx v_ => v_ = (Value.int .i64 (cmpI a.id b.id))) (fun jx => [blk b3 (.cells #[(Value.int .u8 b.sort), (Value.int .u64 b.id), (Value.int .u64 b.epoch)] 35), blk b1 (.cells #[(Value.int .u8 a.sort), (Value.int .u64 a.id), (Value.int .u64 a.epoch)] 35)]) (fun jx => []) rfl (by decide) rfl (fun jx => (List.Sublist.cons_cons _ (List.Sublist.cons_cons _ List.Sublist.slnil))) (fun jx r h => h) (fun A w M => Rets.mono (comp_u64 a.id b.id (M.enterW0 trivial)) (fun v_ w_ ⟨e_, m⟩ => ⟨(), e_, (M.leaveW0 m).sel (L' := [fl A, blk b3 (.cells #[(Value.int .u8 b.sort), (Value.int .u64 b.id), (Value.int .u64 b.epoch)] 35), blk b1 (.cells #[(Value.int .u8 a.sort), (Value.int .u64 a.id), (Value.int .u64 a.epoch)] 35)]) [0, 1, 2] rfl (by decide), fun b hb => M.keptW0 m (fl A) (List.mem_cons_self ..) b hb⟩)) (fun w => CallsF.func Try.en52 rfl) (fun jx v hp hin => ?_)
  replace hp := hp.symm; subst hp
  clear hin
  change TW _ _ _ _ _ _ _ _ (MemA _ _ _ [blk b3 (.cells #[(Value.int .u8 b.sort), (Value.int .u64 b.id), (Value.int .u64 b.epoch)] 35), blk b1 (.cells #[(Value.int .u8 a.sort), (Value.int .u64 a.id), (Value.int .u64 a.epoch)] 35)] [])
  refine TW.new (obj := .cells #[(Value.int .i64 (cmpI a.sort b.sort)), (Value.int .i64 (cmpI a.id b.id))] 3) (fun b => .slice (some ⟨b, 0, none⟩) 2 2) rfl (by decide) (by decide) rfl (fun w => Step.make (by kernel_rfl)) (fun b9 => ?_)
  refine TW.callX (ι := Unit) (fun jx v_ => v_ = (Value.int .i64 (orL ([(cmpI a.sort b.sort), (cmpI a.id b.id)] : List Int)))) (fun jx => [blk b9 (.cells #[(Value.int .i64 (cmpI a.sort b.sort)), (Value.int .i64 (cmpI a.id b.id))] 3), blk b3 (.cells #[(Value.int .u8 b.sort), (Value.int .u64 b.id), (Value.int .u64 b.epoch)] 35), blk b1 (.cells #[(Value.int .u8 a.sort), (Value.int .u64 a.id), (Value.int .u64 a.epoch)] 35)]) (fun jx => []) rfl (by decide) rfl (fun jx => (List.Sublist.cons _ (List.Sublist.cons_cons _ (List.Sublist.cons_cons _ List.Sublist.slnil)))) (fun jx r h => h) (fun A w M => Rets.mono (or_int (Value.slice (some ⟨b9, 0, none⟩) 2 2) ([(cmpI a.sort b.sort), (cmpI a.id b.id)] : List Int) (M.enterW0 ⟨((M.wideC0 1 rfl).imp fun _ h => SlAt.of_blk (n := 2) (size := 1) h rfl (by decide)), trivial⟩)) (fun v_ w_ ⟨e_, m⟩ => ⟨(), e_, (M.leaveW0 m).sel (L' := [fl A, blk b9 (.cells #[(Value.int .i64 (cmpI a.sort b.sort)), (Value.int .i64 (cmpI a.id b.id))] 3), blk b3 (.cells #[(Value.int .u8 b.sort), (Value.int .u64 b.id), (Value.int .u64 b.epoch)] 35), blk b1 (.cells #[(Value.int .u8 a.sort), (Value.int .u64 a.id), (Value.int .u64 a.epoch)] 35)]) [0, 1, 2, 3] rfl (by decide), fun b hb => M.keptW0 m (fl A) (List.mem_cons_self ..) b hb⟩)) (fun w => CallsF.func Try.en50 rfl) (fun jx v hp hin => ?_)
  replace hp := hp.symm; subst hp
  clear hin
  change TW _ _ _ _ _ _ _ _ (MemA _ _ _ [blk b9 (.cells #[(Value.int .i64 (cmpI a.sort b.sort)), (Value.int .i64 (cmpI a.id b.id))] 3), blk b3 (.cells #[(Value.int .u8 b.sort), (Value.int .u64 b.id), (Value.int .u64 b.epoch)] 35), blk b1 (.cells #[(Value.int .u8 a.sort), (Value.int .u64 a.id), (Value.int .u64 a.epoch)] 35)] [])
  refine TW.pure (v := (Value.int .i64 (orL ([(cmpI a.sort b.sort), (cmpI a.id b.id)] : List Int)))) rfl (by decide) (by decide) rfl (fun w => (Step.assign rfl)) ?_
  refine TW.done (fun w10 M => ?_)
  refine W.ret ?_
  refine ⟨.inl rfl, (Value.int .i64 (orL ([(cmpI a.sort b.sort), (cmpI a.id b.id)] : List Int))), ?_, ?_⟩
  · exact ⟨rfl, (Res.r1 (show RV _ _ _ (.tmp 4) (Value.int .i64 (orL ([(cmpI a.sort b.sort), (cmpI a.id b.id)] : List Int))) from by exact rfl))⟩
  refine ⟨?_, M.close [] rfl (by decide) trivial⟩
  rw [cmpPin_or]
end Go.Proofs
