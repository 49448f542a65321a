/- Walks. -/
import Derived.Test.YthihknbbibgchaaTrZ6
import Derived.Test.YthihknbbibgchaaTrHorT
set_option maxRecDepth 100000
set_option linter.all false
namespace Go.Proofs
open Go Tp
theorem Try.en48 : Enters Try.prog 48 := fun _ _ => by kernel_rfl

theorem hz_pins0 {G : Nat → Prop} {w : World}    (M : Mem G (fun _ => False) w [] [] w) : Rets Try.prog 14 #[(Value.pointer none)] w fun r w' => r = (Value.slice none 0 0) ∧ Mem G (fun _ => False) w [] [] w' := by
  refine Rets.enter 29 _ Try.func14 rfl Try.ntmps14 Try.results14 (by simp) ?_
  refine W.seq' ?_
  refine W.region rfl ?_
  refine WL.step (v := (Value.slice none 0 0)) rfl (Step.assign rfl) ?_
  refine WL.nil ?_
  refine W.seq' ?_
  refine W.seq' ?_
  refine W.region rfl ?_
  refine WL.step (v := (Value.pointer none)) rfl (Step.move rfl) ?_
  refine WL.step (v := (Value.bool true)) rfl (Step.pure (by kernel_rfl)) ?_
  refine WL.nil ?_
  refine W.cond (t := true) rfl (fun _ => ?_) (fun h => by cases h)
  refine W.seq' ?_
  refine W.region rfl ?_
  refine WL.step (v := (Value.slice none 0 0)) rfl (Step.assign rfl) ?_
  refine WL.nil ?_
  refine W.ret ?_
  refine ⟨.inl rfl, (Value.slice none 0 0), ?_, ?_⟩
  · exact ⟨rfl, (Res.r1 (show RV _ _ _ (.tmp 2) (Value.slice none 0 0) from by exact rfl))⟩
  refine ⟨?_, M.close [] rfl (by decide) trivial⟩
  rfl

theorem hz_pins {G X : Nat → Prop} {w : World} (zb : Nat) (zm : Nat) (ps : List PinH) (fo : Int)  (hb : ps.length ≤ 900000) (ha : apartP ps) (M : Mem G X w [blk zb (.cells #[(Value.map (some zm)), (Value.int .u64 fo)] 87), mapP zm ps] [] w) : Rets Try.prog 14 #[(Value.pointer (some ⟨zb, 0, none⟩))] w fun r w' => ∃ (v' : Value), r = v' ∧ Mem G X w [blk zb (.cells #[(Value.map (some zm)), (Value.int .u64 fo)] 87), mapP zm ps, own 35 3 v' ((sortP ps).length) ((sortP ps).flatMap pinE)] [] w' := by
  refine Rets.enter 29 _ Try.func14 rfl Try.ntmps14 Try.results14 (by simp) ?_
  refine W.seq' ?_
  refine W.region rfl ?_
  refine WL.step (v := (Value.slice none 0 0)) rfl (Step.assign rfl) ?_
  refine WL.nil ?_
  refine W.seq' ?_
  refine W.seq' ?_
  refine W.region rfl ?_
  refine WL.step (v := (Value.pointer (some ⟨zb, 0, none⟩))) rfl (Step.move rfl) ?_
  refine WL.step (v := (Value.bool false)) rfl (Step.pure (by kernel_rfl)) ?_
  refine WL.nil ?_
  refine W.cond (t := false) rfl (fun h => by cases h) (fun _ => ?_)
  refine W.skip ?_
  refine W.seq' ?_
  refine W.seq' ?_
  refine W.region rfl ?_
  refine WL.step (v := (Value.pointer (some ⟨zb, 0, none⟩))) rfl (Step.move rfl) ?_
  refine WL.step (v := (Value.pointer (some ⟨zb, 0, none⟩))) rfl (Step.pure (by kernel_rfl)) ?_
  refine WL.step (v := (Value.pointer (some ⟨zb, 0, none⟩))) rfl (Step.pure (by kernel_rfl)) ?_
  refine WL.step (v := (Value.map (some zm))) rfl (Step.load1 Try.sc85 rfl ((M.cell 0 rfl 0).trans rfl)) ?_
  obtain ⟨es1, ck2, hmi3, M⟩ := M.openP 1 rfl
  replace M : Mem _ _ _ [blk zb (.cells #[(Value.map (some zm)), (Value.int .u64 fo)] 87), blk zm (.map es1 ck2)] [] _ := M
  refine WL.rangeP M 1 rfl Try.mp85 rfl rfl (fun r4 w5 hr6 M => ?_)
  replace M : Mem _ _ _ [blk r4 (.mapIter (some zm) ck2 #[] ck2), blk zb (.cells #[(Value.map (some zm)), (Value.int .u64 fo)] 87), blk zm (.map es1 ck2)] [] _ := M
  refine WL.nil ?_
  refine W.block ?_
  replace M := M.ownNil 35 3
  replace M : Mem _ _ _ [own 35 3 (Value.slice none 0 0) (([] : List PinH).length) (([] : List PinH).flatMap pinE), blk r4 (.mapIter (some zm) ck2 #[] ck2), blk zb (.cells #[(Value.map (some zm)), (Value.int .u64 fo)] 87), blk zm (.map es1 ck2)] [] _ := M
  replace M := M.rechunk 0 (c' := own 35 3 (Value.slice none 0 0) (([] : List PinH).length) (([] : List PinH).flatMap pinE)) rfl rfl
  replace M : Mem _ _ _ [own 35 3 (Value.slice none 0 0) (([] : List PinH).length) (([] : List PinH).flatMap pinE), blk r4 (.mapIter (some zm) ck2 #[] ck2), blk zb (.cells #[(Value.map (some zm)), (Value.int .u64 fo)] 87), blk zm (.map es1 ck2)] [] _ := M
  replace M := M.sel (L' := [blk r4 (.mapIter (some zm) ck2 #[] ck2), blk zm (.map es1 ck2), own 35 3 (Value.slice none 0 0) (([] : List PinH).length) (([] : List PinH).flatMap pinE), blk zb (.cells #[(Value.map (some zm)), (Value.int .u64 fo)] 87)]) [1, 3, 0, 2] rfl (by decide)
  replace M : Mem _ _ _ [blk r4 (.mapIter (some zm) ck2 #[] ck2), blk zm (.map es1 ck2), own 35 3 (Value.slice none 0 0) (([] : List PinH).length) (([] : List PinH).flatMap pinE), blk zb (.cells #[(Value.map (some zm)), (Value.int .u64 fo)] 87)] [] _ := M
  refine W.loop (fun kk ρ w' => ∃ (done_ : List PinH) (seen_ : Array Nat) (lv_ : Value), ((Seen es1 seen_ done_) ∧ kk = ps.length - done_.length) ∧ ρ.has [(2, lv_), (11, (Value.pointer (some ⟨r4, 0, none⟩)))] ∧ Mem G X w [blk r4 (.mapIter (some zm) ck2 seen_ ck2), blk zm (.map es1 ck2), own 35 3 lv_ done_.length (done_.flatMap pinE), blk zb (.cells #[(Value.map (some zm)), (Value.int .u64 fo)] 87)] []  w') _ ⟨([] : List PinH), #[], _, ⟨(Seen.start _), rfl⟩, ⟨rfl, rfl, rfl, rfl⟩, M⟩ ?_
  rintro _ ρ9 w8 ⟨done_, seen_, lv_, ⟨hi10, rfl⟩, hρ, M⟩
  obtain ⟨ρ9, rfl⟩ := hρ.know
  clear hρ
  have sl11 : IsSl lv_ := SlAt.isSl (own_slAt (M.chunk 2 rfl).inv)
  have hdl_ := Seen.len hmi3 hi10
  refine W.seq' ?_
  refine W.region rfl ?_
  refine WL.nextP (ps := ps) M 1 0 rfl rfl hmi3 hi10 rfl rfl (fun hperm12 => ?_) (fun p14 e15 w16 hpk17 hpe18 hpm19 hsn20 M => ?_)
  ·
    replace M := M.shutP 1 rfl hmi3
    replace M : Mem _ _ _ [blk r4 (.mapIter (some zm) ck2 seen_ ck2), mapP zm ps, own 35 3 lv_ done_.length (done_.flatMap pinE), blk zb (.cells #[(Value.map (some zm)), (Value.int .u64 fo)] 87)] [] _ := M
    refine WL.step (v := (Value.bool false)) rfl (Step.pure (by kernel_rfl)) ?_
    refine WL.nil ?_
    refine W.seq' ?_
    refine W.cond (t := false) rfl (fun h => by cases h) (fun _ => ?_)
    refine W.exit ?_
    refine thn_exit ?_
    refine thn_exit ?_
    refine inBlk_hit ?_
    refine W.seq' ?_
    refine W.region rfl ?_
    refine WL.step (v := lv_) rfl (Step.move rfl) ?_
    refine WL.callX rfl (sort_pin lv_ done_ (by omega) ((apart_perm hperm12).2 ha) (M.enterW (C := [own 35 3 lv_ done_.length (done_.flatMap pinE)]) (D := [blk r4 (.mapIter (some zm) ck2 seen_ ck2), mapP zm ps, blk zb (.cells #[(Value.map (some zm)), (Value.int .u64 fo)] 87)]) [2, 0, 1, 3] rfl (by decide) trivial)) (CallsF.func Try.en48 rfl) ?_
    rintro _ w21 ⟨rfl, m⟩
    replace M := M.leaveW (C := [own 35 3 lv_ done_.length (done_.flatMap pinE)]) (D := [blk r4 (.mapIter (some zm) ck2 seen_ ck2), mapP zm ps, blk zb (.cells #[(Value.map (some zm)), (Value.int .u64 fo)] 87)]) [2, 0, 1, 3] rfl (by decide) m
    clear m
    replace M : Mem _ _ _ [own 35 3 lv_ ((sortP done_).length) ((sortP done_).flatMap pinE), blk r4 (.mapIter (some zm) ck2 seen_ ck2), mapP zm ps, blk zb (.cells #[(Value.map (some zm)), (Value.int .u64 fo)] 87)] [] _ := M
    have hle22 := SlAt.le' (own_slAt (Mem.chunk M 0 rfl).inv)
    refine WL.nil ?_
    refine W.seq' ?_
    refine W.region rfl ?_
    refine WL.step (v := lv_) rfl (Step.move rfl) ?_
    refine WL.step (v := lv_) rfl (Step.assign rfl) ?_
    refine WL.nil ?_
    refine W.ret ?_
    refine ⟨.inl rfl, lv_, ?_, ?_⟩
    · exact ⟨rfl, (Res.r1 (show RV _ _ _ (.tmp 2) lv_ from by exact rfl))⟩
    have e23 : sortP ps = sortP done_ := by
      exact sortP_perm hperm12.symm
    replace M := M.rechunk 0 (c' := own 35 3 lv_ ((sortP ps).length) ((sortP ps).flatMap pinE)) rfl (congrArg (fun z => own 35 3 lv_ z.length (z.flatMap pinE)) e23.symm)
    replace M : Mem _ _ _ [own 35 3 lv_ ((sortP ps).length) ((sortP ps).flatMap pinE), blk r4 (.mapIter (some zm) ck2 seen_ ck2), mapP zm ps, blk zb (.cells #[(Value.map (some zm)), (Value.int .u64 fo)] 87)] [] _ := M
    refine ⟨lv_, ?_, M.close [3, 2, 0] rfl (by decide) trivial⟩
    rfl
  ·
    skip
    replace M : Mem _ _ _ [blk r4 (.mapIter (some zm) ck2 (seen_.push e15.born) ck2), blk zm (.map es1 ck2), own 35 3 lv_ done_.length (done_.flatMap pinE), blk zb (.cells #[(Value.map (some zm)), (Value.int .u64 fo)] 87)] [] _ := M
    refine WL.step (v := (Value.bool true)) rfl (Step.pure (by kernel_rfl)) ?_
    refine WL.nil ?_
    refine W.seq' ?_
    refine W.cond (t := true) rfl (fun _ => ?_) (fun h => by cases h)
    refine W.skip ?_
    refine W.block ?_
    refine W.seq' ?_
    refine W.region rfl ?_
    refine WL.step (v := (Value.tuple #[(Value.agg #[(Value.int .u8 p14.sort), (Value.int .u64 p14.id)]), (Value.int .u64 p14.epoch)])) rfl (M.entryP (ps := ps) (p := p14) (e := e15) (seen := seen_) 1 0 rfl rfl hmi3 hpe18 hpk17 rfl) ?_
    refine WL.step (v := (Value.agg #[(Value.int .u8 p14.sort), (Value.int .u64 p14.id)])) rfl (Step.pure (by kernel_rfl)) ?_
    refine WL.step (v := (Value.int .u64 p14.epoch)) rfl (Step.pure (by kernel_rfl)) ?_
    refine WL.alloc (c := #[(Value.int .u8 0), (Value.int .u64 0)]) M rfl Try.el96.zero rfl (fun b24 w25 hb24 M => ?_)
    refine WL.store (v := (Value.agg #[(Value.int .u8 p14.sort), (Value.int .u64 p14.id)])) (cs := [(Value.int .u8 p14.sort), (Value.int .u64 p14.id)]) (c' := #[(Value.int .u8 p14.sort), (Value.int .u64 p14.id)]) M 0 rfl rfl Try.el96.sized rfl rfl rfl rfl (Nat.le_of_ble_eq_true rfl) (cel_cons rfl (cel_cons rfl cel_nil)) rfl rfl (fun w26 M => ?_)
    refine WL.step (v := (Value.int .u64 p14.epoch)) rfl (Step.assign rfl) ?_
    refine WL.nil ?_
    refine W.region rfl ?_
    refine WL.step (v := lv_) rfl (Step.move rfl) ?_
    refine WL.step (v := (Value.pointer (some ⟨b24, 0, none⟩))) rfl (Step.pure (by kernel_rfl)) ?_
    refine WL.step (v := (Value.int .u8 p14.sort)) rfl (Step.load1 Try.sc5 rfl ((M.cell 0 rfl 0).trans rfl)) ?_
    refine WL.step (v := (Value.pointer (some ⟨b24, 1, none⟩))) rfl (Step.pure (by kernel_rfl)) ?_
    refine WL.step (v := (Value.int .u64 p14.id)) rfl (Step.load1 Try.sc23 rfl ((M.cell 0 rfl 1).trans rfl)) ?_
    refine WL.step (v := (Value.int .u64 p14.epoch)) rfl (Step.move rfl) ?_
    refine WL.step (v := (Value.agg #[(Value.int .u8 p14.sort), (Value.int .u64 p14.id), (Value.int .u64 p14.epoch)])) rfl (Step.pure (by kernel_rfl)) ?_
    refine WL.new (obj := .cells #[(Value.int .u8 p14.sort), (Value.int .u64 p14.id), (Value.int .u64 p14.epoch)] 35) (fun b => .slice (some ⟨b, 0, none⟩) 1 1) M rfl (fun w => Step.make (by kernel_rfl)) (fun b27 w28 hb27 M => ?_)
    refine WL.does rfl (M.appendF done_ ([p14] : List PinH) (sv := (Value.slice (some ⟨b27, 0, none⟩) 1 1)) 4 Try.un33 Try.el35 rfl (by decide) rfl rfl rfl (SlAt.of_blk (M.blk 0 rfl) rfl (by decide)) pinE_cel (by have := (show done_.length ≤ 900000 by omega); simp only [maxLen, List.length_nil, List.length_cons, List.length_append]; omega) (by have := (show done_.length ≤ 900000 by omega); (try simp only [List.length_nil, List.length_cons, List.length_append]); omega)) ?_
    rintro v29 w30 M
    replace M : Mem _ _ _ [blk b27 (.cells #[(Value.int .u8 p14.sort), (Value.int .u64 p14.id), (Value.int .u64 p14.epoch)] 35), blk b24 (.cells #[(Value.int .u8 p14.sort), (Value.int .u64 p14.id)] 96), blk r4 (.mapIter (some zm) ck2 (seen_.push e15.born) ck2), blk zm (.map es1 ck2), own 35 3 v29 ((done_ ++ ([p14] : List PinH)).length) ((done_ ++ ([p14] : List PinH)).flatMap pinE), blk zb (.cells #[(Value.map (some zm)), (Value.int .u64 fo)] 87)] [] _ := M
    have sl31 : IsSl v29 := SlAt.isSl (own_slAt (M.chunk 4 rfl).inv)
    refine WL.step (v := v29) rfl (Step.assign rfl) ?_
    refine WL.nil ?_
    have hln_ := Seen.len hmi3 hsn20
    have hlq_ : (done_ ++ [p14]).length = done_.length + 1 := by simp
    replace M := M.rechunk 4 (c' := own 35 3 v29 ((done_ ++ [p14]).length) ((done_ ++ [p14]).flatMap pinE)) rfl rfl
    replace M : Mem _ _ _ [blk b27 (.cells #[(Value.int .u8 p14.sort), (Value.int .u64 p14.id), (Value.int .u64 p14.epoch)] 35), blk b24 (.cells #[(Value.int .u8 p14.sort), (Value.int .u64 p14.id)] 96), blk r4 (.mapIter (some zm) ck2 (seen_.push e15.born) ck2), blk zm (.map es1 ck2), own 35 3 v29 ((done_ ++ [p14]).length) ((done_ ++ [p14]).flatMap pinE), blk zb (.cells #[(Value.map (some zm)), (Value.int .u64 fo)] 87)] [] _ := M
    replace M := M.sel (L' := [blk r4 (.mapIter (some zm) ck2 (seen_.push e15.born) ck2), blk zm (.map es1 ck2), own 35 3 v29 ((done_ ++ [p14]).length) ((done_ ++ [p14]).flatMap pinE), blk zb (.cells #[(Value.map (some zm)), (Value.int .u64 fo)] 87)]) [2, 3, 4, 5] rfl (by decide)
    exact ⟨_, (by omega), done_ ++ [p14], _, _, ⟨hsn20, rfl⟩, ⟨rfl, rfl, rfl, rfl⟩, M⟩
end Go.Proofs
