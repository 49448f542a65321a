/- Walks. -/
import Derived.Test.YtlehkjkpgmkbiaaTrC13
set_option maxRecDepth 100000
set_option linter.all false
namespace Go.Proofs
open Go Tp
theorem Try.un59 : Und Try.prog 59 (.slice 61) := by unfold Und; kernel_rfl
theorem Try.ag61 : Aggr Try.prog 61 8 := ⟨fun _ => by kernel_rfl, fun _ => by kernel_rfl⟩
theorem Try.el61 : Elem Try.prog 61 (Value.agg #[(Value.int .u8 0), (Value.int .u64 0), (Value.bool false), (Value.int .i64 0), (Value.int .i64 0), (Value.int .i64 0), (Value.int .i64 0), (Value.int .u64 0)]) 8 64 := Elem.mk (by kernel_rfl)
theorem Try.en36 : Enters Try.prog 36 := fun _ _ => by kernel_rfl
theorem Try.en37 : Enters Try.prog 37 := fun _ _ => by kernel_rfl
theorem Try.sc5 : Scal Try.prog 5 := fun _ => by kernel_rfl

set_option maxHeartbeats 4000000 in
theorem law_plays {G : Nat → Prop} {w : World} (v : Value) (xs : List ChAct)   (M : Mem G (fun _ => False) w [] [SlAt 8 v xs.length (xs.flatMap chActE)] w) : Rets Try.prog 5 #[v] w fun r w' => r = (Value.bool true) ∧ Mem G (fun _ => False) w [] [] w' := by
  refine Rets.enter 98 _ Try.func5 rfl Try.ntmps5 Try.results5 (by simp) ?_
  have hle1 := SlAt.le' (M.rep 0 rfl)
  have sl2 : IsSl v := SlAt.isSl (Mem.rep M 0 rfl)
  refine W.seq' ?_
  refine W.region rfl ?_
  refine WL.step (v := (Value.bool false)) rfl (Step.assign rfl) ?_
  refine WL.nil ?_
  refine W.seq' ?_
  refine W.seq' ?_
  refine W.region rfl ?_
  refine WL.step (v := v) rfl (Step.move rfl) ?_
  refine WL.step (v := (Value.int .i64 ↑xs.length)) rfl (Step.lenSl Try.un59 rfl (M.rep 0 rfl)) ?_
  refine WL.step (v := (Value.bool (decide ((↑xs.length : Int) > (40 : Int))))) rfl (Step.pure (by kernel_rfl)) ?_
  refine WL.nil ?_
  refine W.cond (t := decide ((↑xs.length : Int) > (40 : Int))) rfl (fun h3 => ?_) (fun h3 => ?_)
  ·
    have h3p := of_decide_eq_true h3
    refine W.seq' ?_
    refine W.region rfl ?_
    refine WL.callX rfl (law_works  (M.enterW0 trivial)) (CallsF.func Try.en16 rfl) ?_
    rintro _ w4 ⟨rfl, m⟩
    replace M := M.leaveW0 m
    clear m
    replace M : Mem _ _ _ [] [SlAt 8 v xs.length (xs.flatMap chActE)] _ := M
    refine WL.step (v := (Value.bool true)) rfl (Step.assign rfl) ?_
    refine WL.nil ?_
    refine W.ret ?_
    refine ⟨.inl rfl, (Value.bool true), ?_, ?_⟩
    · exact ⟨rfl, (Res.r1 (show RV _ _ _ (.tmp 2) (Value.bool true) from by exact rfl))⟩
    refine ⟨?_, M.close [] rfl (by decide) trivial⟩
    rfl
  ·
    have h3p := of_decide_eq_false h3
    refine W.skip ?_
    refine W.seq' ?_
    refine W.region rfl ?_
    refine WL.callX rfl (ch_of (Value.slice none 0 0) ([] : List Ver) (by first | omega | assumption | decide | (simp only [List.length_nil, List.length_cons, List.length_take, List.length_drop]; omega)) (show (chainB ([] : List Ver)) = true by rfl) (M.enterW0 ⟨(Sh.pure fun w => SlAt.nil 6 w), trivial⟩)) (CallsF.func Try.en17 rfl) ?_
    rintro _ w7 ⟨cb5, v6, rfl, m⟩
    replace M := M.leaveW0 m
    clear m
    replace M : Mem _ _ _ [blk cb5 (.cells #[v6] 135), own 34 6 v6 (([] : List Ver).length) (([] : List Ver).flatMap verE)] [SlAt 8 v xs.length (xs.flatMap chActE)] _ := M
    have sl8 : IsSl v6 := SlAt.isSl (own_slAt (Mem.chunk M 1 rfl).inv)
    have hle9 := SlAt.le' (own_slAt (Mem.chunk M 1 rfl).inv)
    refine WL.step (v := (Value.tuple #[(Value.pointer (some ⟨cb5, 0, none⟩)), (Value.int .i64 0)])) rfl (Step.move rfl) ?_
    refine WL.step (v := (Value.pointer (some ⟨cb5, 0, none⟩))) rfl (Step.pure (by kernel_rfl)) ?_
    refine WL.step (v := (Value.int .i64 0)) rfl (Step.pure (by kernel_rfl)) ?_
    refine WL.step (v := (Value.pointer (some ⟨cb5, 0, none⟩))) rfl (Step.assign rfl) ?_
    refine WL.step (v := (Value.int .i64 0)) rfl (Step.assign rfl) ?_
    refine WL.nil ?_
    refine W.seq' ?_
    refine W.region rfl ?_
    refine WL.step (v := (Value.slice none 0 0)) rfl (Step.assign rfl) ?_
    refine WL.nil ?_
    refine W.seq' ?_
    refine W.seq' ?_
    refine W.region rfl ?_
    refine WL.step (v := (Value.int .i64 0)) rfl (Step.assign rfl) ?_
    refine WL.nil ?_
    refine W.block ?_
    replace M := M.add_pure (r' := SlAt 6 (Value.slice none 0 0) ([] : List Ver).length (([] : List Ver).flatMap verE)) (fun w => SlAt.nil 6 w)
    replace M : Mem _ _ _ [blk cb5 (.cells #[v6] 135), own 34 6 v6 (([] : List Ver).length) (([] : List Ver).flatMap verE)] [SlAt 6 (Value.slice none 0 0) ([] : List Ver).length (([] : List Ver).flatMap verE), SlAt 8 v xs.length (xs.flatMap chActE)] _ := M
    refine W.loop (fun kk ρ w' => ∃ (i_ : Nat) (ls_ : List Ver) (cv_ : Value) (rv_ : Value), ((chainP ls_) ∧ (ls_.length ≤ i_) ∧ (i_ ≤ xs.length) ∧ kk = xs.length - i_) ∧ ρ.has [(0, v), (3, (Value.pointer (some ⟨cb5, 0, none⟩))), (5, rv_), (6, (Value.int .i64 ↑i_))] ∧ Mem G (fun _ => False) w [blk cb5 (.cells #[cv_] 135), own 34 6 cv_ ls_.length (ls_.flatMap verE)] [SlAt 6 rv_ ls_.length (ls_.flatMap verE), SlAt 8 v xs.length (xs.flatMap chActE)]  w') _ ⟨0, ([] : List Ver), _, _, ⟨chainP.nil, (Nat.le_refl _), (Nat.zero_le _), rfl⟩, ⟨rfl, rfl, rfl, rfl, rfl, rfl⟩, M⟩ ?_
    rintro _ ρ11 w10 ⟨i_, ls_, cv_, rv_, ⟨hi12, hi13, hi14, rfl⟩, hρ, M⟩
    obtain ⟨ρ11, rfl⟩ := hρ.know
    clear hρ
    have hcl_ : chainP ls_ := hi12
    have hln_ : ls_.length ≤ i_ := hi13
    refine W.seq' ?_
    refine W.seq' ?_
    refine W.region rfl ?_
    refine WL.step (v := (Value.int .i64 ↑i_)) rfl (Step.move rfl) ?_
    refine WL.step (v := v) rfl (Step.move rfl) ?_
    refine WL.step (v := (Value.int .i64 ↑xs.length)) rfl (Step.lenSl Try.un59 rfl (M.rep 1 rfl)) ?_
    refine WL.step (v := (Value.bool (decide ((↑i_ : Int) < (↑xs.length : Int))))) rfl (Step.pure (by kernel_rfl)) ?_
    refine WL.nil ?_
    refine W.cond (t := decide ((↑i_ : Int) < (↑xs.length : Int))) rfl (fun h15 => ?_) (fun h15 => ?_)
    ·
      have h15p := of_decide_eq_true h15
      refine W.skip ?_
      refine W.seq' ?_
      refine W.block ?_
      refine W.seq' ?_
      refine W.region rfl ?_
      refine WL.step (v := v) rfl (Step.move rfl) ?_
      refine WL.step (v := (Value.int .i64 ↑i_)) rfl (Step.move rfl) ?_
      obtain ⟨cap17, hb16⟩ := SlAt.base (M.rep 1 rfl) (by omega)
      obtain ⟨x18, hx18⟩ := elem_of_lt (xs := xs) (i := i_) (by omega)
      refine WL.step (v := (Value.pointer (some ⟨(sBlk v), sOff v + i_ * 8, none⟩))) rfl (Step.indexAddr (i := i_) (Try.un59).run Try.el61.sized rfl rfl (by omega) hb16 (by omega)) ?_
      refine WL.step (v := (Value.agg #[(Value.int .u8 x18.op), (Value.int .u64 x18.v.epoch), (Value.bool x18.v.dead), (Value.int .i64 x18.v.agg.count), (Value.int .i64 x18.v.agg.sum), (Value.int .i64 x18.v.agg.min), (Value.int .i64 x18.v.agg.max), (Value.int .u64 x18.floor)])) rfl (Step.loadEN (k := 0) (cs' := [(Value.int .u8 x18.op), (Value.int .u64 x18.v.epoch), (Value.bool x18.v.dead), (Value.int .i64 x18.v.agg.count), (Value.int .i64 x18.v.agg.sum), (Value.int .i64 x18.v.agg.min), (Value.int .i64 x18.v.agg.max), (Value.int .u64 x18.floor)]) Try.ag61 (flat_ec (M.rep 1 rfl) hx18 chActE_len) (by decide) rfl rfl rfl) ?_
      refine WL.alloc (c := #[(Value.int .u8 0), (Value.int .u64 0), (Value.bool false), (Value.int .i64 0), (Value.int .i64 0), (Value.int .i64 0), (Value.int .i64 0), (Value.int .u64 0)]) M rfl Try.el61.zero rfl (fun b19 w20 hb19 M => ?_)
      refine WL.store (v := (Value.agg #[(Value.int .u8 x18.op), (Value.int .u64 x18.v.epoch), (Value.bool x18.v.dead), (Value.int .i64 x18.v.agg.count), (Value.int .i64 x18.v.agg.sum), (Value.int .i64 x18.v.agg.min), (Value.int .i64 x18.v.agg.max), (Value.int .u64 x18.floor)])) (cs := [(Value.int .u8 x18.op), (Value.int .u64 x18.v.epoch), (Value.bool x18.v.dead), (Value.int .i64 x18.v.agg.count), (Value.int .i64 x18.v.agg.sum), (Value.int .i64 x18.v.agg.min), (Value.int .i64 x18.v.agg.max), (Value.int .u64 x18.floor)]) (c' := #[(Value.int .u8 x18.op), (Value.int .u64 x18.v.epoch), (Value.bool x18.v.dead), (Value.int .i64 x18.v.agg.count), (Value.int .i64 x18.v.agg.sum), (Value.int .i64 x18.v.agg.min), (Value.int .i64 x18.v.agg.max), (Value.int .u64 x18.floor)]) M 0 rfl rfl Try.el61.sized rfl rfl rfl rfl (Nat.le_of_ble_eq_true rfl) (cel_cons rfl (cel_cons rfl (cel_cons rfl (cel_cons rfl (cel_cons rfl (cel_cons rfl (cel_cons rfl (cel_cons rfl cel_nil)))))))) rfl rfl (fun w21 M => ?_)
      refine WL.nil ?_
      refine W.seq' ?_
      refine W.region rfl ?_
      refine WL.step (v := (Value.pointer (some ⟨b19, 1, none⟩))) rfl (Step.pure (by kernel_rfl)) ?_
      refine WL.step (v := (Value.agg #[(Value.int .u64 x18.v.epoch), (Value.bool x18.v.dead), (Value.int .i64 x18.v.agg.count), (Value.int .i64 x18.v.agg.sum), (Value.int .i64 x18.v.agg.min), (Value.int .i64 x18.v.agg.max)])) rfl (Step.loadN Try.ag34 rfl (M.blk 0 rfl) (Nat.le_of_ble_eq_true rfl) rfl) ?_
      refine WL.new (obj := .cells #[(Value.int .u64 x18.v.epoch), (Value.bool x18.v.dead), (Value.int .i64 x18.v.agg.count), (Value.int .i64 x18.v.agg.sum), (Value.int .i64 x18.v.agg.min), (Value.int .i64 x18.v.agg.max)] 34) (fun b => .slice (some ⟨b, 0, none⟩) 1 1) M rfl (fun w => Step.make (by kernel_rfl)) (fun b22 w23 hb22 M => ?_)
      refine WL.callX rfl (law_refs (Value.slice (some ⟨b22, 0, none⟩) 1 1) ([x18.v] : List Ver) (by first | omega | assumption | decide | (simp only [List.length_nil, List.length_cons, List.length_take, List.length_drop]; omega)) (M.enterW0 ⟨((M.wideC0 0 rfl).imp fun _ h => SlAt.of_blk (n := 1) (size := 6) h rfl (by decide)), trivial⟩)) (CallsF.func Try.en22 rfl) ?_
      rintro v24 w25 ⟨_, rfl, m⟩
      replace M := M.leaveW0 m
      clear m
      replace M : Mem _ _ _ [own 51 6 v24 (([x18.v] : List Ver).length) (([x18.v] : List Ver).flatMap verE), blk b22 (.cells #[(Value.int .u64 x18.v.epoch), (Value.bool x18.v.dead), (Value.int .i64 x18.v.agg.count), (Value.int .i64 x18.v.agg.sum), (Value.int .i64 x18.v.agg.min), (Value.int .i64 x18.v.agg.max)] 34), blk b19 (.cells #[(Value.int .u8 x18.op), (Value.int .u64 x18.v.epoch), (Value.bool x18.v.dead), (Value.int .i64 x18.v.agg.count), (Value.int .i64 x18.v.agg.sum), (Value.int .i64 x18.v.agg.min), (Value.int .i64 x18.v.agg.max), (Value.int .u64 x18.floor)] 61), blk cb5 (.cells #[cv_] 135), own 34 6 cv_ ls_.length (ls_.flatMap verE)] [SlAt 6 rv_ ls_.length (ls_.flatMap verE), SlAt 8 v xs.length (xs.flatMap chActE)] _ := M
      have sl26 : IsSl v24 := SlAt.isSl (own_slAt (Mem.chunk M 0 rfl).inv)
      have hle27 := SlAt.le' (own_slAt (Mem.chunk M 0 rfl).inv)
      obtain ⟨cap29, hb28⟩ := SlAt.base (n := 1) (own_slAt (M.chunk 0 rfl).inv) (by decide)
      refine WL.step (v := (Value.pointer (some ⟨(sBlk v24), sOff v24 + 0 * 6, none⟩))) rfl (Step.indexAddr (i := 0) (Try.un41).run Try.el51.sized rfl rfl rfl hb28 (by omega)) ?_
      refine WL.step (v := (Value.agg #[(Value.int .u64 x18.v.epoch), (Value.bool x18.v.dead), (Value.int .i64 x18.v.agg.count), (Value.int .i64 x18.v.agg.sum), (Value.int .i64 x18.v.agg.min), (Value.int .i64 x18.v.agg.max)])) rfl (Step.loadEN (k := 0) (cs' := [(Value.int .u64 x18.v.epoch), (Value.bool x18.v.dead), (Value.int .i64 x18.v.agg.count), (Value.int .i64 x18.v.agg.sum), (Value.int .i64 x18.v.agg.min), (Value.int .i64 x18.v.agg.max)]) Try.ag51 (flat_ec (i := 0) (x := x18.v) (own_slAt (M.chunk 0 rfl).inv) rfl verE_len) (by decide) rfl rfl rfl) ?_
      refine WL.alloc (c := #[(Value.int .u64 0), (Value.bool false), (Value.int .i64 0), (Value.int .i64 0), (Value.int .i64 0), (Value.int .i64 0)]) M rfl Try.el51.zero rfl (fun b30 w31 hb30 M => ?_)
      refine WL.store (v := (Value.agg #[(Value.int .u64 x18.v.epoch), (Value.bool x18.v.dead), (Value.int .i64 x18.v.agg.count), (Value.int .i64 x18.v.agg.sum), (Value.int .i64 x18.v.agg.min), (Value.int .i64 x18.v.agg.max)])) (cs := [(Value.int .u64 x18.v.epoch), (Value.bool x18.v.dead), (Value.int .i64 x18.v.agg.count), (Value.int .i64 x18.v.agg.sum), (Value.int .i64 x18.v.agg.min), (Value.int .i64 x18.v.agg.max)]) (c' := #[(Value.int .u64 x18.v.epoch), (Value.bool x18.v.dead), (Value.int .i64 x18.v.agg.count), (Value.int .i64 x18.v.agg.sum), (Value.int .i64 x18.v.agg.min), (Value.int .i64 x18.v.agg.max)]) M 0 rfl rfl Try.el51.sized rfl rfl rfl rfl (Nat.le_of_ble_eq_true rfl) (cel_cons rfl (cel_cons rfl (cel_cons rfl (cel_cons rfl (cel_cons rfl (cel_cons rfl cel_nil)))))) rfl rfl (fun w32 M => ?_)
      refine WL.nil ?_
      refine W.seq' ?_
      refine W.seq' ?_
      refine W.region rfl ?_
      refine WL.step (v := (Value.pointer (some ⟨b19, 0, none⟩))) rfl (Step.pure (by kernel_rfl)) ?_
      refine WL.step (v := (Value.int .u8 x18.op)) rfl (Step.load1 Try.sc5 rfl ((M.cell 3 rfl 0).trans rfl)) ?_
      refine WL.step (v := (Value.int .u8 (x18.op.tmod 4))) rfl (Step.rem rfl rfl (by omega)) ?_
      refine WL.nil ?_
      refine W.block ?_
      refine W.seq' ?_
      refine W.region rfl ?_
      refine WL.step (v := (Value.bool ((x18.op.tmod 4 : Int) == (2 : Int)))) rfl (Step.pure (by kernel_rfl)) ?_
      refine WL.step (v := (Value.bool ((x18.op.tmod 4 : Int) == (2 : Int)))) rfl (Step.assign rfl) ?_
      refine WL.nil ?_
      refine W.cond (t := (x18.op.tmod 4 : Int) == (2 : Int)) rfl (fun h33 => ?_) (fun h33 => ?_)
      ·
        have h33p : (x18.op.tmod 4 : Int) = (2 : Int) := by simpa using h33
        refine W.seq' ?_
        refine W.region rfl ?_
        refine WL.step (v := rv_) rfl (Step.move rfl) ?_
        refine WL.step (v := (Value.pointer (some ⟨b30, 0, none⟩))) rfl (Step.pure (by kernel_rfl)) ?_
        refine WL.step (v := (Value.int .u64 x18.v.epoch)) rfl (Step.load1 Try.sc23 rfl ((M.cell 0 rfl 0).trans rfl)) ?_
        refine WL.step (v := (Value.pointer (some ⟨b19, 7, none⟩))) rfl (Step.pure (by kernel_rfl)) ?_
        refine WL.step (v := (Value.int .u64 x18.floor)) rfl (Step.load1 Try.sc23 rfl ((M.cell 3 rfl 7).trans rfl)) ?_
        refine WL.callX rfl (ref_drop rv_ ls_ x18.v.epoch x18.floor (by assumption) (by first | omega | assumption | decide | (simp only [List.length_nil, List.length_cons, List.length_take, List.length_drop]; omega)) (M.enter0 ⟨(M.shr' 0 rfl), trivial⟩)) (CallsF.func Try.en34 rfl) ?_
        rintro _ w35 ⟨v34, rfl, m⟩
        replace M := M.leave0 m
        clear m
        replace M : Mem _ _ _ [blk b30 (.cells #[(Value.int .u64 x18.v.epoch), (Value.bool x18.v.dead), (Value.int .i64 x18.v.agg.count), (Value.int .i64 x18.v.agg.sum), (Value.int .i64 x18.v.agg.min), (Value.int .i64 x18.v.agg.max)] 51), own 51 6 v24 (([x18.v] : List Ver).length) (([x18.v] : List Ver).flatMap verE), blk b22 (.cells #[(Value.int .u64 x18.v.epoch), (Value.bool x18.v.dead), (Value.int .i64 x18.v.agg.count), (Value.int .i64 x18.v.agg.sum), (Value.int .i64 x18.v.agg.min), (Value.int .i64 x18.v.agg.max)] 34), blk b19 (.cells #[(Value.int .u8 x18.op), (Value.int .u64 x18.v.epoch), (Value.bool x18.v.dead), (Value.int .i64 x18.v.agg.count), (Value.int .i64 x18.v.agg.sum), (Value.int .i64 x18.v.agg.min), (Value.int .i64 x18.v.agg.max), (Value.int .u64 x18.floor)] 61), blk cb5 (.cells #[cv_] 135), own 34 6 cv_ ls_.length (ls_.flatMap verE)] [SlAt 6 v34 ((dropV ls_ x18.v.epoch x18.floor).1).length (((dropV ls_ x18.v.epoch x18.floor).1).flatMap verE), SlAt 6 rv_ ls_.length (ls_.flatMap verE), SlAt 8 v xs.length (xs.flatMap chActE)] _ := M
        have sl36 : IsSl v34 := SlAt.isSl (Mem.rep M 0 rfl)
        have hle37 := SlAt.le' (M.rep 0 rfl)
        refine WL.step (v := (Value.tuple #[v34, (Value.bool ((dropV ls_ x18.v.epoch x18.floor).2))])) rfl (Step.move rfl) ?_
        refine WL.step (v := v34) rfl (Step.pure (by kernel_rfl)) ?_
        refine WL.step (v := (Value.bool ((dropV ls_ x18.v.epoch x18.floor).2))) rfl (Step.pure (by kernel_rfl)) ?_
        refine WL.step (v := v34) rfl (Step.assign rfl) ?_
        refine WL.step (v := (Value.bool ((dropV ls_ x18.v.epoch x18.floor).2))) rfl (Step.assign rfl) ?_
        refine WL.nil ?_
        refine W.seq' ?_
        refine W.seq' ?_
        refine W.region rfl ?_
        refine WL.step (v := (Value.pointer (some ⟨cb5, 0, none⟩))) rfl (Step.move rfl) ?_
        refine WL.step (v := (Value.pointer (some ⟨b19, 1, none⟩))) rfl (Step.pure (by kernel_rfl)) ?_
        refine WL.step (v := (Value.pointer (some ⟨b19, 1, none⟩))) rfl (Step.pure (by kernel_rfl)) ?_
        refine WL.step (v := (Value.int .u64 x18.v.epoch)) rfl (Step.load1 Try.sc23 rfl ((M.cell 3 rfl 1).trans rfl)) ?_
        refine WL.step (v := (Value.pointer (some ⟨b19, 7, none⟩))) rfl (Step.pure (by kernel_rfl)) ?_
        refine WL.step (v := (Value.int .u64 x18.floor)) rfl (Step.load1 Try.sc23 rfl ((M.cell 3 rfl 7).trans rfl)) ?_
        refine WL.callX rfl (ch_drop cb5 cv_ ls_ x18.v.epoch x18.floor (M.enterW (C := [blk cb5 (.cells #[cv_] 135), own 34 6 cv_ ls_.length (ls_.flatMap verE)]) (D := [blk b30 (.cells #[(Value.int .u64 x18.v.epoch), (Value.bool x18.v.dead), (Value.int .i64 x18.v.agg.count), (Value.int .i64 x18.v.agg.sum), (Value.int .i64 x18.v.agg.min), (Value.int .i64 x18.v.agg.max)] 51), own 51 6 v24 (([x18.v] : List Ver).length) (([x18.v] : List Ver).flatMap verE), blk b22 (.cells #[(Value.int .u64 x18.v.epoch), (Value.bool x18.v.dead), (Value.int .i64 x18.v.agg.count), (Value.int .i64 x18.v.agg.sum), (Value.int .i64 x18.v.agg.min), (Value.int .i64 x18.v.agg.max)] 34), blk b19 (.cells #[(Value.int .u8 x18.op), (Value.int .u64 x18.v.epoch), (Value.bool x18.v.dead), (Value.int .i64 x18.v.agg.count), (Value.int .i64 x18.v.agg.sum), (Value.int .i64 x18.v.agg.min), (Value.int .i64 x18.v.agg.max), (Value.int .u64 x18.floor)] 61)]) [4, 5, 0, 1, 2, 3] rfl (by decide) trivial)) (CallsF.func Try.en35 rfl) ?_
        rintro _ w39 ⟨v38, rfl, m⟩
        replace M := M.leaveW (C := [blk cb5 (.cells #[cv_] 135), own 34 6 cv_ ls_.length (ls_.flatMap verE)]) (D := [blk b30 (.cells #[(Value.int .u64 x18.v.epoch), (Value.bool x18.v.dead), (Value.int .i64 x18.v.agg.count), (Value.int .i64 x18.v.agg.sum), (Value.int .i64 x18.v.agg.min), (Value.int .i64 x18.v.agg.max)] 51), own 51 6 v24 (([x18.v] : List Ver).length) (([x18.v] : List Ver).flatMap verE), blk b22 (.cells #[(Value.int .u64 x18.v.epoch), (Value.bool x18.v.dead), (Value.int .i64 x18.v.agg.count), (Value.int .i64 x18.v.agg.sum), (Value.int .i64 x18.v.agg.min), (Value.int .i64 x18.v.agg.max)] 34), blk b19 (.cells #[(Value.int .u8 x18.op), (Value.int .u64 x18.v.epoch), (Value.bool x18.v.dead), (Value.int .i64 x18.v.agg.count), (Value.int .i64 x18.v.agg.sum), (Value.int .i64 x18.v.agg.min), (Value.int .i64 x18.v.agg.max), (Value.int .u64 x18.floor)] 61)]) [4, 5, 0, 1, 2, 3] rfl (by decide) m
        clear m
        replace M : Mem _ _ _ [blk cb5 (.cells #[v38] 135), own 34 6 v38 (((dropV ls_ x18.v.epoch x18.floor).1).length) (((dropV ls_ x18.v.epoch x18.floor).1).flatMap verE), blk b30 (.cells #[(Value.int .u64 x18.v.epoch), (Value.bool x18.v.dead), (Value.int .i64 x18.v.agg.count), (Value.int .i64 x18.v.agg.sum), (Value.int .i64 x18.v.agg.min), (Value.int .i64 x18.v.agg.max)] 51), own 51 6 v24 (([x18.v] : List Ver).length) (([x18.v] : List Ver).flatMap verE), blk b22 (.cells #[(Value.int .u64 x18.v.epoch), (Value.bool x18.v.dead), (Value.int .i64 x18.v.agg.count), (Value.int .i64 x18.v.agg.sum), (Value.int .i64 x18.v.agg.min), (Value.int .i64 x18.v.agg.max)] 34), blk b19 (.cells #[(Value.int .u8 x18.op), (Value.int .u64 x18.v.epoch), (Value.bool x18.v.dead), (Value.int .i64 x18.v.agg.count), (Value.int .i64 x18.v.agg.sum), (Value.int .i64 x18.v.agg.min), (Value.int .i64 x18.v.agg.max), (Value.int .u64 x18.floor)] 61)] [SlAt 6 v34 ((dropV ls_ x18.v.epoch x18.floor).1).length (((dropV ls_ x18.v.epoch x18.floor).1).flatMap verE), SlAt 6 rv_ ls_.length (ls_.flatMap verE), SlAt 8 v xs.length (xs.flatMap chActE)] _ := M
        have sl40 : IsSl v38 := SlAt.isSl (own_slAt (Mem.chunk M 1 rfl).inv)
        have hle41 := SlAt.le' (own_slAt (Mem.chunk M 1 rfl).inv)
        have hnl : ((dropV ls_ x18.v.epoch x18.floor).1).length ≤ i_ + 1 := by exact Nat.le_trans drop_len (by omega)
        refine WL.step (v := (Value.bool ((dropV ls_ x18.v.epoch x18.floor).2))) rfl (Step.move rfl) ?_
        refine WL.step (v := (Value.bool false)) rfl (Step.cast (congrArg Value.bool (by simp)) (Step.pure (v := .bool (!(((dropV ls_ x18.v.epoch x18.floor).2) == ((dropV ls_ x18.v.epoch x18.floor).2)))) (by kernel_rfl))) ?_
        refine WL.nil ?_
        refine W.cond (t := false) rfl (fun h => by cases h) (fun _ => ?_)
        refine W.skip ?_
        refine W.region rfl ?_
        refine WL.step (v := v34) rfl (Step.move rfl) ?_
        refine WL.step (v := v34) rfl (Step.assign rfl) ?_
        refine WL.nil ?_
        refine W.seq' ?_
        refine W.region rfl ?_
        refine WL.step (v := (Value.pointer (some ⟨cb5, 0, none⟩))) rfl (Step.move rfl) ?_
        refine WL.callX rfl (ch_versions cb5 v38 ((dropV ls_ x18.v.epoch x18.floor).1) (by first | omega | assumption | decide | (simp only [List.length_nil, List.length_cons, List.length_take, List.length_drop]; omega)) (M.enterW0 ⟨(M.wideC0 0 rfl), ((M.wideC0 1 rfl).imp fun _ h => own_slAt h), trivial⟩)) (CallsF.func Try.en20 rfl) ?_
        rintro v42 w43 ⟨_, rfl, m⟩
        replace M := M.leaveW0 m
        clear m
        replace M : Mem _ _ _ [own 34 6 v42 (((dropV ls_ x18.v.epoch x18.floor).1).length) (((dropV ls_ x18.v.epoch x18.floor).1).flatMap verE), blk cb5 (.cells #[v38] 135), own 34 6 v38 (((dropV ls_ x18.v.epoch x18.floor).1).length) (((dropV ls_ x18.v.epoch x18.floor).1).flatMap verE), blk b30 (.cells #[(Value.int .u64 x18.v.epoch), (Value.bool x18.v.dead), (Value.int .i64 x18.v.agg.count), (Value.int .i64 x18.v.agg.sum), (Value.int .i64 x18.v.agg.min), (Value.int .i64 x18.v.agg.max)] 51), own 51 6 v24 (([x18.v] : List Ver).length) (([x18.v] : List Ver).flatMap verE), blk b22 (.cells #[(Value.int .u64 x18.v.epoch), (Value.bool x18.v.dead), (Value.int .i64 x18.v.agg.count), (Value.int .i64 x18.v.agg.sum), (Value.int .i64 x18.v.agg.min), (Value.int .i64 x18.v.agg.max)] 34), blk b19 (.cells #[(Value.int .u8 x18.op), (Value.int .u64 x18.v.epoch), (Value.bool x18.v.dead), (Value.int .i64 x18.v.agg.count), (Value.int .i64 x18.v.agg.sum), (Value.int .i64 x18.v.agg.min), (Value.int .i64 x18.v.agg.max), (Value.int .u64 x18.floor)] 61)] [SlAt 6 v34 ((dropV ls_ x18.v.epoch x18.floor).1).length (((dropV ls_ x18.v.epoch x18.floor).1).flatMap verE), SlAt 6 rv_ ls_.length (ls_.flatMap verE), SlAt 8 v xs.length (xs.flatMap chActE)] _ := M
        have sl44 : IsSl v42 := SlAt.isSl (own_slAt (Mem.chunk M 0 rfl).inv)
        have hle45 := SlAt.le' (own_slAt (Mem.chunk M 0 rfl).inv)
        refine WL.step (v := v34) rfl (Step.move rfl) ?_
        refine WL.callX rfl (law_same v42 ((dropV ls_ x18.v.epoch x18.floor).1) v34 ((dropV ls_ x18.v.epoch x18.floor).1) (by first | omega | assumption | decide | (simp only [List.length_nil, List.length_cons, List.length_take, List.length_drop]; omega)) (M.enterW0 ⟨((M.wideC0 0 rfl).imp fun _ h => own_slAt h), (M.wideR0 0 rfl), trivial⟩)) (CallsF.func Try.en33 rfl) ?_
        rintro _ w46 ⟨rfl, m⟩
        replace M := M.leaveW0 m
        clear m
        replace M : Mem _ _ _ [own 34 6 v42 (((dropV ls_ x18.v.epoch x18.floor).1).length) (((dropV ls_ x18.v.epoch x18.floor).1).flatMap verE), blk cb5 (.cells #[v38] 135), own 34 6 v38 (((dropV ls_ x18.v.epoch x18.floor).1).length) (((dropV ls_ x18.v.epoch x18.floor).1).flatMap verE), blk b30 (.cells #[(Value.int .u64 x18.v.epoch), (Value.bool x18.v.dead), (Value.int .i64 x18.v.agg.count), (Value.int .i64 x18.v.agg.sum), (Value.int .i64 x18.v.agg.min), (Value.int .i64 x18.v.agg.max)] 51), own 51 6 v24 (([x18.v] : List Ver).length) (([x18.v] : List Ver).flatMap verE), blk b22 (.cells #[(Value.int .u64 x18.v.epoch), (Value.bool x18.v.dead), (Value.int .i64 x18.v.agg.count), (Value.int .i64 x18.v.agg.sum), (Value.int .i64 x18.v.agg.min), (Value.int .i64 x18.v.agg.max)] 34), blk b19 (.cells #[(Value.int .u8 x18.op), (Value.int .u64 x18.v.epoch), (Value.bool x18.v.dead), (Value.int .i64 x18.v.agg.count), (Value.int .i64 x18.v.agg.sum), (Value.int .i64 x18.v.agg.min), (Value.int .i64 x18.v.agg.max), (Value.int .u64 x18.floor)] 61)] [SlAt 6 v34 ((dropV ls_ x18.v.epoch x18.floor).1).length (((dropV ls_ x18.v.epoch x18.floor).1).flatMap verE), SlAt 6 rv_ ls_.length (ls_.flatMap verE), SlAt 8 v xs.length (xs.flatMap chActE)] _ := M
        rw [(show (decide (((dropV ls_ x18.v.epoch x18.floor).1) = ((dropV ls_ x18.v.epoch x18.floor).1))) = true by simp)]
        refine WL.step (v := (Value.bool false)) rfl (Step.pure (by kernel_rfl)) ?_
        refine WL.nil ?_
        refine W.cond (t := false) rfl (fun h => by cases h) (fun _ => ?_)
        refine W.skip ?_
        refine W.region rfl ?_
        refine WL.step (v := (Value.int .i64 ↑i_)) rfl (Step.move rfl) ?_
        refine WL.step (v := (Value.int .i64 (↑i_ + 1))) rfl (Step.add rfl rfl (wrap_i64 (by omega))) ?_
        refine WL.step (v := (Value.int .i64 (↑i_ + 1))) rfl (Step.assign rfl) ?_
        refine WL.nil ?_
        replace M := M.sel (L' := [blk cb5 (.cells #[v38] 135), own 34 6 v38 (((dropV ls_ x18.v.epoch x18.floor).1).length) (((dropV ls_ x18.v.epoch x18.floor).1).flatMap verE)]) [1, 2] rfl (by decide)
        replace M := M.facts (R' := [SlAt 6 v34 ((dropV ls_ x18.v.epoch x18.floor).1).length (((dropV ls_ x18.v.epoch x18.floor).1).flatMap verE), SlAt 8 v xs.length (xs.flatMap chActE)]) (Facts.all ⟨M.shr' 0 rfl, M.shr' 2 rfl, trivial⟩)
        exact ⟨_, (by omega), i_ + 1, (dropV ls_ x18.v.epoch x18.floor).1, _, _, ⟨hcl_.drop, hnl, (by omega), rfl⟩, ⟨rfl, rfl, rfl, rfl, rfl, rfl⟩, M⟩
      ·
        have h33p : ¬ (x18.op.tmod 4 : Int) = (2 : Int) := by simpa using h33
        refine W.seq' ?_
        refine W.region rfl ?_
        refine WL.step (v := (Value.bool ((x18.op.tmod 4 : Int) == (3 : Int)))) rfl (Step.pure (by kernel_rfl)) ?_
        refine WL.step (v := (Value.bool ((x18.op.tmod 4 : Int) == (3 : Int)))) rfl (Step.assign rfl) ?_
        refine WL.nil ?_
        refine W.cond (t := (x18.op.tmod 4 : Int) == (3 : Int)) rfl (fun h47 => ?_) (fun h47 => ?_)
        ·
          have h47p : (x18.op.tmod 4 : Int) = (3 : Int) := by simpa using h47
          refine W.seq' ?_
          refine W.region rfl ?_
          refine WL.step (v := rv_) rfl (Step.move rfl) ?_
          refine WL.step (v := (Value.pointer (some ⟨b19, 7, none⟩))) rfl (Step.pure (by kernel_rfl)) ?_
          refine WL.step (v := (Value.int .u64 x18.floor)) rfl (Step.load1 Try.sc23 rfl ((M.cell 3 rfl 7).trans rfl)) ?_
          refine WL.callX rfl (ref_trim rv_ ls_ x18.floor (by assumption) (by first | omega | assumption | decide | (simp only [List.length_nil, List.length_cons, List.length_take, List.length_drop]; omega)) (M.enter0 ⟨(M.shr' 0 rfl), trivial⟩)) (CallsF.func Try.en36 rfl) ?_
          rintro _ w49 ⟨v48, rfl, m⟩
          replace M := M.leave0 m
          clear m
          replace M : Mem _ _ _ [blk b30 (.cells #[(Value.int .u64 x18.v.epoch), (Value.bool x18.v.dead), (Value.int .i64 x18.v.agg.count), (Value.int .i64 x18.v.agg.sum), (Value.int .i64 x18.v.agg.min), (Value.int .i64 x18.v.agg.max)] 51), own 51 6 v24 (([x18.v] : List Ver).length) (([x18.v] : List Ver).flatMap verE), blk b22 (.cells #[(Value.int .u64 x18.v.epoch), (Value.bool x18.v.dead), (Value.int .i64 x18.v.agg.count), (Value.int .i64 x18.v.agg.sum), (Value.int .i64 x18.v.agg.min), (Value.int .i64 x18.v.agg.max)] 34), blk b19 (.cells #[(Value.int .u8 x18.op), (Value.int .u64 x18.v.epoch), (Value.bool x18.v.dead), (Value.int .i64 x18.v.agg.count), (Value.int .i64 x18.v.agg.sum), (Value.int .i64 x18.v.agg.min), (Value.int .i64 x18.v.agg.max), (Value.int .u64 x18.floor)] 61), blk cb5 (.cells #[cv_] 135), own 34 6 cv_ ls_.length (ls_.flatMap verE)] [SlAt 6 v48 ((trimV ls_ x18.floor).1).length (((trimV ls_ x18.floor).1).flatMap verE), SlAt 6 rv_ ls_.length (ls_.flatMap verE), SlAt 8 v xs.length (xs.flatMap chActE)] _ := M
          have sl50 : IsSl v48 := SlAt.isSl (Mem.rep M 0 rfl)
          have hle51 := SlAt.le' (M.rep 0 rfl)
          refine WL.step (v := (Value.tuple #[v48, (Value.int .i64 (↑(trimV ls_ x18.floor).2))])) rfl (Step.move rfl) ?_
          refine WL.step (v := v48) rfl (Step.pure (by kernel_rfl)) ?_
          refine WL.step (v := (Value.int .i64 (↑(trimV ls_ x18.floor).2))) rfl (Step.pure (by kernel_rfl)) ?_
          refine WL.step (v := v48) rfl (Step.assign rfl) ?_
          refine WL.step (v := (Value.int .i64 (↑(trimV ls_ x18.floor).2))) rfl (Step.assign rfl) ?_
          refine WL.nil ?_
          refine W.seq' ?_
          refine W.seq' ?_
          refine W.region rfl ?_
          refine WL.step (v := (Value.pointer (some ⟨cb5, 0, none⟩))) rfl (Step.move rfl) ?_
          refine WL.step (v := (Value.pointer (some ⟨b19, 7, none⟩))) rfl (Step.pure (by kernel_rfl)) ?_
          refine WL.step (v := (Value.int .u64 x18.floor)) rfl (Step.load1 Try.sc23 rfl ((M.cell 3 rfl 7).trans rfl)) ?_
          refine WL.callX rfl (ch_trim cb5 cv_ ls_ x18.floor (by first | omega | assumption | decide | (simp only [List.length_nil, List.length_cons, List.length_take, List.length_drop]; omega)) (M.enterW (C := [blk cb5 (.cells #[cv_] 135), own 34 6 cv_ ls_.length (ls_.flatMap verE)]) (D := [blk b30 (.cells #[(Value.int .u64 x18.v.epoch), (Value.bool x18.v.dead), (Value.int .i64 x18.v.agg.count), (Value.int .i64 x18.v.agg.sum), (Value.int .i64 x18.v.agg.min), (Value.int .i64 x18.v.agg.max)] 51), own 51 6 v24 (([x18.v] : List Ver).length) (([x18.v] : List Ver).flatMap verE), blk b22 (.cells #[(Value.int .u64 x18.v.epoch), (Value.bool x18.v.dead), (Value.int .i64 x18.v.agg.count), (Value.int .i64 x18.v.agg.sum), (Value.int .i64 x18.v.agg.min), (Value.int .i64 x18.v.agg.max)] 34), blk b19 (.cells #[(Value.int .u8 x18.op), (Value.int .u64 x18.v.epoch), (Value.bool x18.v.dead), (Value.int .i64 x18.v.agg.count), (Value.int .i64 x18.v.agg.sum), (Value.int .i64 x18.v.agg.min), (Value.int .i64 x18.v.agg.max), (Value.int .u64 x18.floor)] 61)]) [4, 5, 0, 1, 2, 3] rfl (by decide) trivial)) (CallsF.func Try.en19 rfl) ?_
          rintro _ w53 ⟨v52, rfl, m⟩
          replace M := M.leaveW (C := [blk cb5 (.cells #[cv_] 135), own 34 6 cv_ ls_.length (ls_.flatMap verE)]) (D := [blk b30 (.cells #[(Value.int .u64 x18.v.epoch), (Value.bool x18.v.dead), (Value.int .i64 x18.v.agg.count), (Value.int .i64 x18.v.agg.sum), (Value.int .i64 x18.v.agg.min), (Value.int .i64 x18.v.agg.max)] 51), own 51 6 v24 (([x18.v] : List Ver).length) (([x18.v] : List Ver).flatMap verE), blk b22 (.cells #[(Value.int .u64 x18.v.epoch), (Value.bool x18.v.dead), (Value.int .i64 x18.v.agg.count), (Value.int .i64 x18.v.agg.sum), (Value.int .i64 x18.v.agg.min), (Value.int .i64 x18.v.agg.max)] 34), blk b19 (.cells #[(Value.int .u8 x18.op), (Value.int .u64 x18.v.epoch), (Value.bool x18.v.dead), (Value.int .i64 x18.v.agg.count), (Value.int .i64 x18.v.agg.sum), (Value.int .i64 x18.v.agg.min), (Value.int .i64 x18.v.agg.max), (Value.int .u64 x18.floor)] 61)]) [4, 5, 0, 1, 2, 3] rfl (by decide) m
          clear m
          replace M : Mem _ _ _ [blk cb5 (.cells #[v52] 135), own 34 6 v52 (((trimV ls_ x18.floor).1).length) (((trimV ls_ x18.floor).1).flatMap verE), blk b30 (.cells #[(Value.int .u64 x18.v.epoch), (Value.bool x18.v.dead), (Value.int .i64 x18.v.agg.count), (Value.int .i64 x18.v.agg.sum), (Value.int .i64 x18.v.agg.min), (Value.int .i64 x18.v.agg.max)] 51), own 51 6 v24 (([x18.v] : List Ver).length) (([x18.v] : List Ver).flatMap verE), blk b22 (.cells #[(Value.int .u64 x18.v.epoch), (Value.bool x18.v.dead), (Value.int .i64 x18.v.agg.count), (Value.int .i64 x18.v.agg.sum), (Value.int .i64 x18.v.agg.min), (Value.int .i64 x18.v.agg.max)] 34), blk b19 (.cells #[(Value.int .u8 x18.op), (Value.int .u64 x18.v.epoch), (Value.bool x18.v.dead), (Value.int .i64 x18.v.agg.count), (Value.int .i64 x18.v.agg.sum), (Value.int .i64 x18.v.agg.min), (Value.int .i64 x18.v.agg.max), (Value.int .u64 x18.floor)] 61)] [SlAt 6 v48 ((trimV ls_ x18.floor).1).length (((trimV ls_ x18.floor).1).flatMap verE), SlAt 6 rv_ ls_.length (ls_.flatMap verE), SlAt 8 v xs.length (xs.flatMap chActE)] _ := M
          have sl54 : IsSl v52 := SlAt.isSl (own_slAt (Mem.chunk M 1 rfl).inv)
          have hle55 := SlAt.le' (own_slAt (Mem.chunk M 1 rfl).inv)
          have hnl : ((trimV ls_ x18.floor).1).length ≤ i_ + 1 := by exact Nat.le_trans trim_len1 (by omega)
          refine WL.step (v := (Value.int .i64 (↑(trimV ls_ x18.floor).2))) rfl (Step.move rfl) ?_
          refine WL.step (v := (Value.bool false)) rfl (Step.cast (congrArg Value.bool (show ((↑(trimV ls_ x18.floor).2 : Int) != (↑(trimV ls_ x18.floor).2 : Int)) = false by simp)) (Step.pure (by kernel_rfl))) ?_
          refine WL.nil ?_
          refine W.cond (t := false) rfl (fun h => by cases h) (fun _ => ?_)
          refine W.skip ?_
          refine W.region rfl ?_
          refine WL.step (v := v48) rfl (Step.move rfl) ?_
          refine WL.step (v := v48) rfl (Step.assign rfl) ?_
          refine WL.nil ?_
          refine W.seq' ?_
          refine W.region rfl ?_
          refine WL.step (v := (Value.pointer (some ⟨cb5, 0, none⟩))) rfl (Step.move rfl) ?_
          refine WL.callX rfl (ch_versions cb5 v52 ((trimV ls_ x18.floor).1) (by first | omega | assumption | decide | (simp only [List.length_nil, List.length_cons, List.length_take, List.length_drop]; omega)) (M.enterW0 ⟨(M.wideC0 0 rfl), ((M.wideC0 1 rfl).imp fun _ h => own_slAt h), trivial⟩)) (CallsF.func Try.en20 rfl) ?_
          rintro v56 w57 ⟨_, rfl, m⟩
          replace M := M.leaveW0 m
          clear m
          replace M : Mem _ _ _ [own 34 6 v56 (((trimV ls_ x18.floor).1).length) (((trimV ls_ x18.floor).1).flatMap verE), blk cb5 (.cells #[v52] 135), own 34 6 v52 (((trimV ls_ x18.floor).1).length) (((trimV ls_ x18.floor).1).flatMap verE), blk b30 (.cells #[(Value.int .u64 x18.v.epoch), (Value.bool x18.v.dead), (Value.int .i64 x18.v.agg.count), (Value.int .i64 x18.v.agg.sum), (Value.int .i64 x18.v.agg.min), (Value.int .i64 x18.v.agg.max)] 51), own 51 6 v24 (([x18.v] : List Ver).length) (([x18.v] : List Ver).flatMap verE), blk b22 (.cells #[(Value.int .u64 x18.v.epoch), (Value.bool x18.v.dead), (Value.int .i64 x18.v.agg.count), (Value.int .i64 x18.v.agg.sum), (Value.int .i64 x18.v.agg.min), (Value.int .i64 x18.v.agg.max)] 34), blk b19 (.cells #[(Value.int .u8 x18.op), (Value.int .u64 x18.v.epoch), (Value.bool x18.v.dead), (Value.int .i64 x18.v.agg.count), (Value.int .i64 x18.v.agg.sum), (Value.int .i64 x18.v.agg.min), (Value.int .i64 x18.v.agg.max), (Value.int .u64 x18.floor)] 61)] [SlAt 6 v48 ((trimV ls_ x18.floor).1).length (((trimV ls_ x18.floor).1).flatMap verE), SlAt 6 rv_ ls_.length (ls_.flatMap verE), SlAt 8 v xs.length (xs.flatMap chActE)] _ := M
          have sl58 : IsSl v56 := SlAt.isSl (own_slAt (Mem.chunk M 0 rfl).inv)
          have hle59 := SlAt.le' (own_slAt (Mem.chunk M 0 rfl).inv)
          refine WL.step (v := v48) rfl (Step.move rfl) ?_
          refine WL.callX rfl (law_same v56 ((trimV ls_ x18.floor).1) v48 ((trimV ls_ x18.floor).1) (by first | omega | assumption | decide | (simp only [List.length_nil, List.length_cons, List.length_take, List.length_drop]; omega)) (M.enterW0 ⟨((M.wideC0 0 rfl).imp fun _ h => own_slAt h), (M.wideR0 0 rfl), trivial⟩)) (CallsF.func Try.en33 rfl) ?_
          rintro _ w60 ⟨rfl, m⟩
          replace M := M.leaveW0 m
          clear m
          replace M : Mem _ _ _ [own 34 6 v56 (((trimV ls_ x18.floor).1).length) (((trimV ls_ x18.floor).1).flatMap verE), blk cb5 (.cells #[v52] 135), own 34 6 v52 (((trimV ls_ x18.floor).1).length) (((trimV ls_ x18.floor).1).flatMap verE), blk b30 (.cells #[(Value.int .u64 x18.v.epoch), (Value.bool x18.v.dead), (Value.int .i64 x18.v.agg.count), (Value.int .i64 x18.v.agg.sum), (Value.int .i64 x18.v.agg.min), (Value.int .i64 x18.v.agg.max)] 51), own 51 6 v24 (([x18.v] : List Ver).length) (([x18.v] : List Ver).flatMap verE), blk b22 (.cells #[(Value.int .u64 x18.v.epoch), (Value.bool x18.v.dead), (Value.int .i64 x18.v.agg.count), (Value.int .i64 x18.v.agg.sum), (Value.int .i64 x18.v.agg.min), (Value.int .i64 x18.v.agg.max)] 34), blk b19 (.cells #[(Value.int .u8 x18.op), (Value.int .u64 x18.v.epoch), (Value.bool x18.v.dead), (Value.int .i64 x18.v.agg.count), (Value.int .i64 x18.v.agg.sum), (Value.int .i64 x18.v.agg.min), (Value.int .i64 x18.v.agg.max), (Value.int .u64 x18.floor)] 61)] [SlAt 6 v48 ((trimV ls_ x18.floor).1).length (((trimV ls_ x18.floor).1).flatMap verE), SlAt 6 rv_ ls_.length (ls_.flatMap verE), SlAt 8 v xs.length (xs.flatMap chActE)] _ := M
          rw [(show (decide (((trimV ls_ x18.floor).1) = ((trimV ls_ x18.floor).1))) = true by simp)]
          refine WL.step (v := (Value.bool false)) rfl (Step.pure (by kernel_rfl)) ?_
          refine WL.nil ?_
          refine W.cond (t := false) rfl (fun h => by cases h) (fun _ => ?_)
          refine W.skip ?_
          refine W.region rfl ?_
          refine WL.step (v := (Value.int .i64 ↑i_)) rfl (Step.move rfl) ?_
          refine WL.step (v := (Value.int .i64 (↑i_ + 1))) rfl (Step.add rfl rfl (wrap_i64 (by omega))) ?_
          refine WL.step (v := (Value.int .i64 (↑i_ + 1))) rfl (Step.assign rfl) ?_
          refine WL.nil ?_
          replace M := M.sel (L' := [blk cb5 (.cells #[v52] 135), own 34 6 v52 (((trimV ls_ x18.floor).1).length) (((trimV ls_ x18.floor).1).flatMap verE)]) [1, 2] rfl (by decide)
          replace M := M.facts (R' := [SlAt 6 v48 ((trimV ls_ x18.floor).1).length (((trimV ls_ x18.floor).1).flatMap verE), SlAt 8 v xs.length (xs.flatMap chActE)]) (Facts.all ⟨M.shr' 0 rfl, M.shr' 2 rfl, trivial⟩)
          exact ⟨_, (by omega), i_ + 1, (trimV ls_ x18.floor).1, _, _, ⟨hcl_.trim, hnl, (by omega), rfl⟩, ⟨rfl, rfl, rfl, rfl, rfl, rfl⟩, M⟩
        ·
          have h47p : ¬ (x18.op.tmod 4 : Int) = (3 : Int) := by simpa using h47
          refine W.seq' ?_
          refine W.region rfl ?_
          refine WL.step (v := rv_) rfl (Step.move rfl) ?_
          refine WL.step (v := (Value.agg #[(Value.int .u64 x18.v.epoch), (Value.bool x18.v.dead), (Value.int .i64 x18.v.agg.count), (Value.int .i64 x18.v.agg.sum), (Value.int .i64 x18.v.agg.min), (Value.int .i64 x18.v.agg.max)])) rfl (Step.loadN Try.ag51 rfl (M.blk 0 rfl) (Nat.le_of_ble_eq_true rfl) rfl) ?_
          refine WL.callX rfl (ref_add rv_ ls_ x18.v (by assumption) (by first | omega | assumption | decide | (simp only [List.length_nil, List.length_cons, List.length_take, List.length_drop]; omega)) (M.enter0 ⟨(M.shr' 0 rfl), trivial⟩)) (CallsF.func Try.en37 rfl) ?_
          rintro _ w62 ⟨v61, rfl, m⟩
          replace M := M.leave0 m
          clear m
          replace M : Mem _ _ _ [blk b30 (.cells #[(Value.int .u64 x18.v.epoch), (Value.bool x18.v.dead), (Value.int .i64 x18.v.agg.count), (Value.int .i64 x18.v.agg.sum), (Value.int .i64 x18.v.agg.min), (Value.int .i64 x18.v.agg.max)] 51), own 51 6 v24 (([x18.v] : List Ver).length) (([x18.v] : List Ver).flatMap verE), blk b22 (.cells #[(Value.int .u64 x18.v.epoch), (Value.bool x18.v.dead), (Value.int .i64 x18.v.agg.count), (Value.int .i64 x18.v.agg.sum), (Value.int .i64 x18.v.agg.min), (Value.int .i64 x18.v.agg.max)] 34), blk b19 (.cells #[(Value.int .u8 x18.op), (Value.int .u64 x18.v.epoch), (Value.bool x18.v.dead), (Value.int .i64 x18.v.agg.count), (Value.int .i64 x18.v.agg.sum), (Value.int .i64 x18.v.agg.min), (Value.int .i64 x18.v.agg.max), (Value.int .u64 x18.floor)] 61), blk cb5 (.cells #[cv_] 135), own 34 6 cv_ ls_.length (ls_.flatMap verE)] [SlAt 6 v61 ((addV ls_ x18.v).1).length (((addV ls_ x18.v).1).flatMap verE), SlAt 6 rv_ ls_.length (ls_.flatMap verE), SlAt 8 v xs.length (xs.flatMap chActE)] _ := M
          have sl63 : IsSl v61 := SlAt.isSl (Mem.rep M 0 rfl)
          have hle64 := SlAt.le' (M.rep 0 rfl)
          refine WL.step (v := (Value.tuple #[v61, (Value.int .i64 ((addV ls_ x18.v).2))])) rfl (Step.move rfl) ?_
          refine WL.step (v := v61) rfl (Step.pure (by kernel_rfl)) ?_
          refine WL.step (v := (Value.int .i64 ((addV ls_ x18.v).2))) rfl (Step.pure (by kernel_rfl)) ?_
          refine WL.step (v := v61) rfl (Step.assign rfl) ?_
          refine WL.step (v := (Value.int .i64 ((addV ls_ x18.v).2))) rfl (Step.assign rfl) ?_
          refine WL.nil ?_
          refine W.seq' ?_
          refine W.seq' ?_
          refine W.region rfl ?_
          refine WL.step (v := (Value.pointer (some ⟨cb5, 0, none⟩))) rfl (Step.move rfl) ?_
          refine WL.step (v := (Value.pointer (some ⟨b19, 1, none⟩))) rfl (Step.pure (by kernel_rfl)) ?_
          refine WL.step (v := (Value.agg #[(Value.int .u64 x18.v.epoch), (Value.bool x18.v.dead), (Value.int .i64 x18.v.agg.count), (Value.int .i64 x18.v.agg.sum), (Value.int .i64 x18.v.agg.min), (Value.int .i64 x18.v.agg.max)])) rfl (Step.loadN Try.ag34 rfl (M.blk 3 rfl) (Nat.le_of_ble_eq_true rfl) rfl) ?_
          refine WL.callX rfl (ch_add cb5 cv_ ls_ x18.v (by first | omega | assumption | decide | (simp only [List.length_nil, List.length_cons, List.length_take, List.length_drop]; omega)) (M.enterW (C := [blk cb5 (.cells #[cv_] 135), own 34 6 cv_ ls_.length (ls_.flatMap verE)]) (D := [blk b30 (.cells #[(Value.int .u64 x18.v.epoch), (Value.bool x18.v.dead), (Value.int .i64 x18.v.agg.count), (Value.int .i64 x18.v.agg.sum), (Value.int .i64 x18.v.agg.min), (Value.int .i64 x18.v.agg.max)] 51), own 51 6 v24 (([x18.v] : List Ver).length) (([x18.v] : List Ver).flatMap verE), blk b22 (.cells #[(Value.int .u64 x18.v.epoch), (Value.bool x18.v.dead), (Value.int .i64 x18.v.agg.count), (Value.int .i64 x18.v.agg.sum), (Value.int .i64 x18.v.agg.min), (Value.int .i64 x18.v.agg.max)] 34), blk b19 (.cells #[(Value.int .u8 x18.op), (Value.int .u64 x18.v.epoch), (Value.bool x18.v.dead), (Value.int .i64 x18.v.agg.count), (Value.int .i64 x18.v.agg.sum), (Value.int .i64 x18.v.agg.min), (Value.int .i64 x18.v.agg.max), (Value.int .u64 x18.floor)] 61)]) [4, 5, 0, 1, 2, 3] rfl (by decide) trivial)) (CallsF.func Try.en38 rfl) ?_
          rintro _ w66 ⟨v65, rfl, m⟩
          replace M := M.leaveW (C := [blk cb5 (.cells #[cv_] 135), own 34 6 cv_ ls_.length (ls_.flatMap verE)]) (D := [blk b30 (.cells #[(Value.int .u64 x18.v.epoch), (Value.bool x18.v.dead), (Value.int .i64 x18.v.agg.count), (Value.int .i64 x18.v.agg.sum), (Value.int .i64 x18.v.agg.min), (Value.int .i64 x18.v.agg.max)] 51), own 51 6 v24 (([x18.v] : List Ver).length) (([x18.v] : List Ver).flatMap verE), blk b22 (.cells #[(Value.int .u64 x18.v.epoch), (Value.bool x18.v.dead), (Value.int .i64 x18.v.agg.count), (Value.int .i64 x18.v.agg.sum), (Value.int .i64 x18.v.agg.min), (Value.int .i64 x18.v.agg.max)] 34), blk b19 (.cells #[(Value.int .u8 x18.op), (Value.int .u64 x18.v.epoch), (Value.bool x18.v.dead), (Value.int .i64 x18.v.agg.count), (Value.int .i64 x18.v.agg.sum), (Value.int .i64 x18.v.agg.min), (Value.int .i64 x18.v.agg.max), (Value.int .u64 x18.floor)] 61)]) [4, 5, 0, 1, 2, 3] rfl (by decide) m
          clear m
          replace M : Mem _ _ _ [blk cb5 (.cells #[v65] 135), own 34 6 v65 (((addV ls_ x18.v).1).length) (((addV ls_ x18.v).1).flatMap verE), blk b30 (.cells #[(Value.int .u64 x18.v.epoch), (Value.bool x18.v.dead), (Value.int .i64 x18.v.agg.count), (Value.int .i64 x18.v.agg.sum), (Value.int .i64 x18.v.agg.min), (Value.int .i64 x18.v.agg.max)] 51), own 51 6 v24 (([x18.v] : List Ver).length) (([x18.v] : List Ver).flatMap verE), blk b22 (.cells #[(Value.int .u64 x18.v.epoch), (Value.bool x18.v.dead), (Value.int .i64 x18.v.agg.count), (Value.int .i64 x18.v.agg.sum), (Value.int .i64 x18.v.agg.min), (Value.int .i64 x18.v.agg.max)] 34), blk b19 (.cells #[(Value.int .u8 x18.op), (Value.int .u64 x18.v.epoch), (Value.bool x18.v.dead), (Value.int .i64 x18.v.agg.count), (Value.int .i64 x18.v.agg.sum), (Value.int .i64 x18.v.agg.min), (Value.int .i64 x18.v.agg.max), (Value.int .u64 x18.floor)] 61)] [SlAt 6 v61 ((addV ls_ x18.v).1).length (((addV ls_ x18.v).1).flatMap verE), SlAt 6 rv_ ls_.length (ls_.flatMap verE), SlAt 8 v xs.length (xs.flatMap chActE)] _ := M
          have sl67 : IsSl v65 := SlAt.isSl (own_slAt (Mem.chunk M 1 rfl).inv)
          have hle68 := SlAt.le' (own_slAt (Mem.chunk M 1 rfl).inv)
          have hnl : ((addV ls_ x18.v).1).length ≤ i_ + 1 := by exact Nat.le_trans add_len (by omega)
          refine WL.step (v := (Value.int .i64 ((addV ls_ x18.v).2))) rfl (Step.move rfl) ?_
          refine WL.step (v := (Value.bool false)) rfl (Step.cast (congrArg Value.bool (show (((addV ls_ x18.v).2 : Int) != ((addV ls_ x18.v).2 : Int)) = false by simp)) (Step.pure (by kernel_rfl))) ?_
          refine WL.nil ?_
          refine W.cond (t := false) rfl (fun h => by cases h) (fun _ => ?_)
          refine W.skip ?_
          refine W.region rfl ?_
          refine WL.step (v := v61) rfl (Step.move rfl) ?_
          refine WL.step (v := v61) rfl (Step.assign rfl) ?_
          refine WL.nil ?_
          refine W.seq' ?_
          refine W.region rfl ?_
          refine WL.step (v := (Value.pointer (some ⟨cb5, 0, none⟩))) rfl (Step.move rfl) ?_
          refine WL.callX rfl (ch_versions cb5 v65 ((addV ls_ x18.v).1) (by first | omega | assumption | decide | (simp only [List.length_nil, List.length_cons, List.length_take, List.length_drop]; omega)) (M.enterW0 ⟨(M.wideC0 0 rfl), ((M.wideC0 1 rfl).imp fun _ h => own_slAt h), trivial⟩)) (CallsF.func Try.en20 rfl) ?_
          rintro v69 w70 ⟨_, rfl, m⟩
          replace M := M.leaveW0 m
          clear m
          replace M : Mem _ _ _ [own 34 6 v69 (((addV ls_ x18.v).1).length) (((addV ls_ x18.v).1).flatMap verE), blk cb5 (.cells #[v65] 135), own 34 6 v65 (((addV ls_ x18.v).1).length) (((addV ls_ x18.v).1).flatMap verE), blk b30 (.cells #[(Value.int .u64 x18.v.epoch), (Value.bool x18.v.dead), (Value.int .i64 x18.v.agg.count), (Value.int .i64 x18.v.agg.sum), (Value.int .i64 x18.v.agg.min), (Value.int .i64 x18.v.agg.max)] 51), own 51 6 v24 (([x18.v] : List Ver).length) (([x18.v] : List Ver).flatMap verE), blk b22 (.cells #[(Value.int .u64 x18.v.epoch), (Value.bool x18.v.dead), (Value.int .i64 x18.v.agg.count), (Value.int .i64 x18.v.agg.sum), (Value.int .i64 x18.v.agg.min), (Value.int .i64 x18.v.agg.max)] 34), blk b19 (.cells #[(Value.int .u8 x18.op), (Value.int .u64 x18.v.epoch), (Value.bool x18.v.dead), (Value.int .i64 x18.v.agg.count), (Value.int .i64 x18.v.agg.sum), (Value.int .i64 x18.v.agg.min), (Value.int .i64 x18.v.agg.max), (Value.int .u64 x18.floor)] 61)] [SlAt 6 v61 ((addV ls_ x18.v).1).length (((addV ls_ x18.v).1).flatMap verE), SlAt 6 rv_ ls_.length (ls_.flatMap verE), SlAt 8 v xs.length (xs.flatMap chActE)] _ := M
          have sl71 : IsSl v69 := SlAt.isSl (own_slAt (Mem.chunk M 0 rfl).inv)
          have hle72 := SlAt.le' (own_slAt (Mem.chunk M 0 rfl).inv)
          refine WL.step (v := v61) rfl (Step.move rfl) ?_
          refine WL.callX rfl (law_same v69 ((addV ls_ x18.v).1) v61 ((addV ls_ x18.v).1) (by first | omega | assumption | decide | (simp only [List.length_nil, List.length_cons, List.length_take, List.length_drop]; omega)) (M.enterW0 ⟨((M.wideC0 0 rfl).imp fun _ h => own_slAt h), (M.wideR0 0 rfl), trivial⟩)) (CallsF.func Try.en33 rfl) ?_
          rintro _ w73 ⟨rfl, m⟩
          replace M := M.leaveW0 m
          clear m
          replace M : Mem _ _ _ [own 34 6 v69 (((addV ls_ x18.v).1).length) (((addV ls_ x18.v).1).flatMap verE), blk cb5 (.cells #[v65] 135), own 34 6 v65 (((addV ls_ x18.v).1).length) (((addV ls_ x18.v).1).flatMap verE), blk b30 (.cells #[(Value.int .u64 x18.v.epoch), (Value.bool x18.v.dead), (Value.int .i64 x18.v.agg.count), (Value.int .i64 x18.v.agg.sum), (Value.int .i64 x18.v.agg.min), (Value.int .i64 x18.v.agg.max)] 51), own 51 6 v24 (([x18.v] : List Ver).length) (([x18.v] : List Ver).flatMap verE), blk b22 (.cells #[(Value.int .u64 x18.v.epoch), (Value.bool x18.v.dead), (Value.int .i64 x18.v.agg.count), (Value.int .i64 x18.v.agg.sum), (Value.int .i64 x18.v.agg.min), (Value.int .i64 x18.v.agg.max)] 34), blk b19 (.cells #[(Value.int .u8 x18.op), (Value.int .u64 x18.v.epoch), (Value.bool x18.v.dead), (Value.int .i64 x18.v.agg.count), (Value.int .i64 x18.v.agg.sum), (Value.int .i64 x18.v.agg.min), (Value.int .i64 x18.v.agg.max), (Value.int .u64 x18.floor)] 61)] [SlAt 6 v61 ((addV ls_ x18.v).1).length (((addV ls_ x18.v).1).flatMap verE), SlAt 6 rv_ ls_.length (ls_.flatMap verE), SlAt 8 v xs.length (xs.flatMap chActE)] _ := M
          rw [(show (decide (((addV ls_ x18.v).1) = ((addV ls_ x18.v).1))) = true by simp)]
          refine WL.step (v := (Value.bool false)) rfl (Step.pure (by kernel_rfl)) ?_
          refine WL.nil ?_
          refine W.cond (t := false) rfl (fun h => by cases h) (fun _ => ?_)
          refine W.skip ?_
          refine W.region rfl ?_
          refine WL.step (v := (Value.int .i64 ↑i_)) rfl (Step.move rfl) ?_
          refine WL.step (v := (Value.int .i64 (↑i_ + 1))) rfl (Step.add rfl rfl (wrap_i64 (by omega))) ?_
          refine WL.step (v := (Value.int .i64 (↑i_ + 1))) rfl (Step.assign rfl) ?_
          refine WL.nil ?_
          replace M := M.sel (L' := [blk cb5 (.cells #[v65] 135), own 34 6 v65 (((addV ls_ x18.v).1).length) (((addV ls_ x18.v).1).flatMap verE)]) [1, 2] rfl (by decide)
          replace M := M.facts (R' := [SlAt 6 v61 ((addV ls_ x18.v).1).length (((addV ls_ x18.v).1).flatMap verE), SlAt 8 v xs.length (xs.flatMap chActE)]) (Facts.all ⟨M.shr' 0 rfl, M.shr' 2 rfl, trivial⟩)
          exact ⟨_, (by omega), i_ + 1, (addV ls_ x18.v).1, _, _, ⟨hcl_.add, hnl, (by omega), rfl⟩, ⟨rfl, rfl, rfl, rfl, rfl, rfl⟩, M⟩
    ·
      have h15p := of_decide_eq_false h15
      refine W.exit ?_
      refine thn_exit ?_
      refine thn_exit ?_
      refine inBlk_hit ?_
      refine W.seq' ?_
      refine W.region rfl ?_
      refine WL.callX rfl (law_works  (M.enterW0 trivial)) (CallsF.func Try.en16 rfl) ?_
      rintro _ w74 ⟨rfl, m⟩
      replace M := M.leaveW0 m
      clear m
      replace M : Mem _ _ _ [blk cb5 (.cells #[cv_] 135), own 34 6 cv_ ls_.length (ls_.flatMap verE)] [SlAt 6 rv_ ls_.length (ls_.flatMap verE), SlAt 8 v xs.length (xs.flatMap chActE)] _ := M
      refine WL.step (v := (Value.bool true)) rfl (Step.assign rfl) ?_
      refine WL.nil ?_
      refine W.ret ?_
      refine ⟨.inl rfl, (Value.bool true), ?_, ?_⟩
      · exact ⟨rfl, (Res.r1 (show RV _ _ _ (.tmp 2) (Value.bool true) from by exact rfl))⟩
      refine ⟨?_, M.close [] rfl (by decide) trivial⟩
      rfl
end Go.Proofs
