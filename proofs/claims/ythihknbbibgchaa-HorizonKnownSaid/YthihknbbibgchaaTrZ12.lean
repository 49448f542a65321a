/- Walks. -/
import Derived.Test.YthihknbbibgchaaTrZ11
import Derived.Test.YthihknbbibgchaaTrHorN
set_option maxRecDepth 100000
set_option linter.all false
namespace Go.Proofs
open Go Tp


set_option maxHeartbeats 4000000 in
theorem law23_floors {G : Nat → Prop} {w : World} (v : Value) (l : List HAct)  (hin : ∀ a, a ∈ l → 0 ≤ a.now ∧ 0 ≤ a.p.epoch) (M : Mem G (fun _ => False) w [] [RepS HActT v l] w) : Rets Try.prog 4 #[v] w fun r w' => r = (Value.bool true) ∧ Mem G (fun _ => False) w [] [] w' := by
 refine Rets.enter 214 _ Try.func4 rfl Try.ntmps4 Try.results4 (by simp) ?_
 have hle1 := RepS.le' (M.rep 0 rfl)
 have sl2 : IsSl v := RepS.isSl (Mem.rep M 0 rfl)
 obtain ⟨cs3, M⟩ := M.openS 0 rfl
 refine W.seq' ?_
 refine W.region rfl ?_
 refine WL.step (v := (Value.bool false)) rfl (Step.assign rfl) ?_
 refine WL.nil ?_
 refine W.seq' ?_
 refine W.seq' ?_
 refine W.region rfl ?_
 refine WL.step (v := v) rfl (Step.move rfl) ?_
 refine WL.callX rfl (law23_few v l 40 (M.enterW0 ⟨(M.wideR0 2 rfl), trivial⟩)) (CallsF.func Try.en10 rfl) ?_
 rintro _ w4 ⟨rfl, m⟩
 replace M := M.leaveW0 m
 clear m
 replace M : Mem _ _ _ [] [SlAt 6 v l.length cs3, RepL HActT cs3 l, RepS HActT v l] _ := M
 refine WL.step (v := (Value.bool (!(fewH l 40)))) rfl (Step.pure (by kernel_rfl)) ?_
 refine WL.nil ?_
 refine W.cond (t := !(fewH l 40)) rfl (fun h5 => ?_) (fun h5 => ?_)
 ·
  refine W.seq' ?_
  refine W.region rfl ?_
  refine WL.callX rfl (law23_works  (M.enterW0 trivial)) (CallsF.func Try.en11 rfl) ?_
  rintro _ w6 ⟨rfl, m⟩
  replace M := M.leaveW0 m
  clear m
  replace M : Mem _ _ _ [] [SlAt 6 v l.length cs3, RepL HActT cs3 l, RepS HActT v l] _ := M
  refine WL.step (v := (Value.bool true)) rfl (Step.assign rfl) ?_
  refine WL.nil ?_
  refine W.ret ?_
  refine ⟨.inl rfl, (Value.bool true), ?_, ?_⟩
  · exact ⟨rfl, (Res.r1 (show RV _ _ _ (.tmp 2) (Value.bool true) from by exact rfl))⟩
  refine ⟨?_, M.close [] rfl (by decide) trivial⟩
  rfl
 ·
  obtain ⟨hf1_, hf2_⟩ := fewH_fact (show fewH l 40 = true by simpa using h5)
  refine W.skip ?_
  refine W.seq' ?_
  refine W.region rfl ?_
  refine WL.callX rfl (hz_new  (M.enterW0 trivial)) (CallsF.func Try.en12 rfl) ?_
  rintro _ w9 ⟨zb7, zm8, rfl, m⟩
  replace M := M.leaveW0 m
  clear m
  replace M : Mem _ _ _ [blk zb7 (.cells #[(Value.map (some zm8)), (Value.int .u64 0)] 87), mapP zm8 ([] : List PinH)] [SlAt 6 v l.length cs3, RepL HActT cs3 l, RepS HActT v l] _ := M
  refine WL.step (v := (Value.pointer (some ⟨zb7, 0, none⟩))) rfl (Step.assign rfl) ?_
  refine WL.nil ?_
  refine W.seq' ?_
  refine W.region rfl ?_
  refine WL.step (v := (Value.int .u64 0)) rfl (Step.assign rfl) ?_
  refine WL.nil ?_
  refine W.seq' ?_
  refine W.seq' ?_
  refine W.region rfl ?_
  refine WL.step (v := (Value.int .i64 0)) rfl (Step.assign rfl) ?_
  refine WL.nil ?_
  refine W.block ?_
  refine W.loop (fun kk ρ w' => ∃ (i_ : Nat) (ps_ : List PinH) (fo_ : Int) (now_ : Int), ((i_ ≤ l.length) ∧ (FlI ps_ fo_ now_) ∧ (0 ≤ now_ ∧ now_ ≤ i_ * 1048576) ∧ (ps_.length ≤ i_) ∧ kk = l.length - i_) ∧ ρ.has [(0, v), (3, (Value.pointer (some ⟨zb7, 0, none⟩))), (4, (Value.int .u64 now_)), (5, (Value.int .i64 ↑i_))] ∧ Mem G (fun _ => False) w [blk zb7 (.cells #[(Value.map (some zm8)), (Value.int .u64 fo_)] 87), mapP zm8 ps_] [SlAt 6 v l.length cs3, RepL HActT cs3 l, RepS HActT v l]  w') _ ⟨0, ([] : List PinH), 0, 0, ⟨(Nat.zero_le _), FlI.nil, (by omega), (Nat.zero_le _), rfl⟩, ⟨rfl, rfl, rfl, rfl, rfl, rfl⟩, M⟩ ?_
  rintro _ ρ11 w10 ⟨i_, ps_, fo_, now_, ⟨hi12, hi13, hi14, hi15, rfl⟩, hρ, M⟩
  obtain ⟨ρ11, rfl⟩ := hρ.know
  clear hρ
  have hFl_ : FlI ps_ fo_ now_ := hi13
  have hap_ := hFl_.apart
  have hsa_ := sortP_len hap_
  refine W.seq' ?_
  refine W.seq' ?_
  refine W.region rfl ?_
  refine WL.step (v := (Value.int .i64 ↑i_)) rfl (Step.move rfl) ?_
  refine WL.step (v := v) rfl (Step.move rfl) ?_
  refine WL.step (v := (Value.int .i64 ↑l.length)) rfl (Step.lenSl Try.un22 rfl (M.rep 0 rfl)) ?_
  refine WL.step (v := (Value.bool (decide ((↑i_ : Int) < (↑l.length : Int))))) rfl (Step.pure (by kernel_rfl)) ?_
  refine WL.nil ?_
  refine W.cond (t := decide ((↑i_ : Int) < (↑l.length : Int))) rfl (fun h16 => ?_) (fun h16 => ?_)
  ·
   have h16p := of_decide_eq_true h16
   refine W.skip ?_
   refine W.seq' ?_
   refine W.block ?_
   refine W.seq' ?_
   refine W.region rfl ?_
   refine WL.step (v := (Value.pointer (some ⟨zb7, 0, none⟩))) rfl (Step.move rfl) ?_
   refine WL.callX rfl (hz_floor zb7 zm8 ps_ fo_ (M.enterW (C := [blk zb7 (.cells #[(Value.map (some zm8)), (Value.int .u64 fo_)] 87), mapP zm8 ps_]) (D := []) [0, 1] rfl (by decide) trivial)) (CallsF.func Try.en17 rfl) ?_
   rintro _ w17 ⟨rfl, m⟩
   replace M := M.leaveW (C := [blk zb7 (.cells #[(Value.map (some zm8)), (Value.int .u64 fo_)] 87), mapP zm8 ps_]) (D := []) [0, 1] rfl (by decide) m
   replace M := M.sel (L' := [blk zb7 (.cells #[(Value.map (some zm8)), (Value.int .u64 fo_)] 87), mapP zm8 ps_]) [0, 1] rfl (by decide)
   clear m
   replace M : Mem _ _ _ [blk zb7 (.cells #[(Value.map (some zm8)), (Value.int .u64 fo_)] 87), mapP zm8 ps_] [SlAt 6 v l.length cs3, RepL HActT cs3 l, RepS HActT v l] _ := M
   refine WL.step (v := (Value.int .u64 fo_)) rfl (Step.assign rfl) ?_
   refine WL.nil ?_
   refine W.seq' ?_
   refine W.region rfl ?_
   refine WL.step (v := (Value.pointer (some ⟨zb7, 0, none⟩))) rfl (Step.move rfl) ?_
   refine WL.callX rfl (hz_pins zb7 zm8 ps_ fo_ (by first | omega | (simp; done)) (by assumption) (M.enterW (C := [blk zb7 (.cells #[(Value.map (some zm8)), (Value.int .u64 fo_)] 87), mapP zm8 ps_]) (D := []) [0, 1] rfl (by decide) trivial)) (CallsF.func Try.en14 rfl) ?_
   rintro v18 w19 ⟨_, rfl, m⟩
   replace M := M.leaveW (C := [blk zb7 (.cells #[(Value.map (some zm8)), (Value.int .u64 fo_)] 87), mapP zm8 ps_]) (D := []) [0, 1] rfl (by decide) m
   replace M := M.sel (L' := [own 35 3 v18 ((sortP ps_).length) ((sortP ps_).flatMap pinE), blk zb7 (.cells #[(Value.map (some zm8)), (Value.int .u64 fo_)] 87), mapP zm8 ps_]) [2, 0, 1] rfl (by decide)
   clear m
   replace M : Mem _ _ _ [own 35 3 v18 ((sortP ps_).length) ((sortP ps_).flatMap pinE), blk zb7 (.cells #[(Value.map (some zm8)), (Value.int .u64 fo_)] 87), mapP zm8 ps_] [SlAt 6 v l.length cs3, RepL HActT cs3 l, RepS HActT v l] _ := M
   have sl20 : IsSl v18 := SlAt.isSl (own_slAt (Mem.chunk M 0 rfl).inv)
   have hle21 := SlAt.le' (own_slAt (Mem.chunk M 0 rfl).inv)
   refine WL.step (v := v18) rfl (Step.assign rfl) ?_
   refine WL.nil ?_
   refine W.seq' ?_
   refine W.region rfl ?_
   refine WL.step (v := (Value.int .u64 now_)) rfl (Step.move rfl) ?_
   refine WL.step (v := v) rfl (Step.move rfl) ?_
   refine WL.step (v := (Value.int .i64 ↑i_)) rfl (Step.move rfl) ?_
   obtain ⟨cap23, hb22⟩ := SlAt.base (M.rep 0 rfl) (by omega)
   refine WL.step (v := (Value.pointer (some ⟨(sBlk v), sOff v + i_ * 6, none⟩))) rfl (Step.indexAddr (i := i_) (Try.un22).run Try.el37.sized rfl rfl (by omega) hb22 (by omega)) ?_
   refine WL.step (v := (Value.pointer (some ⟨(sBlk v), sOff v + i_ * 6 + 5, none⟩))) rfl (Step.pure (by kernel_rfl)) ?_
   obtain ⟨a24, ha24⟩ := elem_of_lt (xs := l) (i := i_) (by omega)
   obtain ⟨lv25, M⟩ := hact_open M 0 1 rfl rfl rfl ha24
   have sl26 : IsSl lv25 := SlAt.isSl (Mem.rep M 1 rfl)
   obtain ⟨hn1_, he1_⟩ := hin _ (List.mem_of_getElem? ha24)
   refine WL.step (v := (Value.int .u64 a24.now)) rfl (Step.loadE (k := 5) Try.sc23 (M.rep 0 rfl : EC _ _ _ _ _) (by decide) rfl rfl) ?_
   refine WL.step (v := (Value.int .u64 ((a24.now : Int) % 1048576))) rfl (Step.remN rfl rfl (by omega) (by decide)) ?_
   obtain ⟨now2_, hnow2_⟩ : ∃ q : Int, (now_ + ((a24.now : Int) % 1048576)) = q := ⟨_, rfl⟩
   refine WL.step (v := (Value.int .u64 now2_)) rfl (Step.cast (congrArg (Value.int .u64) hnow2_) (Step.add rfl rfl (wrap_u64 (by omega)))) ?_
   refine WL.step (v := (Value.int .u64 now2_)) rfl (Step.assign rfl) ?_
   refine WL.nil ?_
   refine W.seq' ?_
   refine W.region rfl ?_
   refine WL.step (v := v) rfl (Step.move rfl) ?_
   refine WL.step (v := (Value.int .i64 ↑i_)) rfl (Step.move rfl) ?_
   refine WL.step (v := (Value.pointer (some ⟨(sBlk v), sOff v + i_ * 6, none⟩))) rfl (Step.indexAddr (i := i_) (Try.un22).run Try.el37.sized rfl rfl (by omega) hb22 (by omega)) ?_
   refine WL.step (v := (Value.agg #[(Value.int .i64 a24.do_), lv25, (Value.int .u8 a24.p.sort), (Value.int .u64 a24.p.id), (Value.int .u64 a24.p.epoch), (Value.int .u64 a24.now)])) rfl (Step.loadEN (k := 0) (cs' := [(Value.int .i64 a24.do_), lv25, (Value.int .u8 a24.p.sort), (Value.int .u64 a24.p.id), (Value.int .u64 a24.p.epoch), (Value.int .u64 a24.now)]) Try.ag37 (M.rep 0 rfl : EC _ _ _ _ _) (by decide) rfl rfl rfl) ?_
   refine WL.alloc (c := #[(Value.int .i64 0), (Value.slice none 0 0), (Value.int .u8 0), (Value.int .u64 0), (Value.int .u64 0), (Value.int .u64 0)]) M rfl Try.el37.zero rfl (fun b27 w28 hb27 M => ?_)
   refine WL.store (v := (Value.agg #[(Value.int .i64 a24.do_), lv25, (Value.int .u8 a24.p.sort), (Value.int .u64 a24.p.id), (Value.int .u64 a24.p.epoch), (Value.int .u64 a24.now)])) (cs := [(Value.int .i64 a24.do_), lv25, (Value.int .u8 a24.p.sort), (Value.int .u64 a24.p.id), (Value.int .u64 a24.p.epoch), (Value.int .u64 a24.now)]) (c' := #[(Value.int .i64 a24.do_), lv25, (Value.int .u8 a24.p.sort), (Value.int .u64 a24.p.id), (Value.int .u64 a24.p.epoch), (Value.int .u64 a24.now)]) M 0 rfl rfl Try.el37.sized rfl rfl rfl rfl (Nat.le_of_ble_eq_true rfl) (cel_cons rfl (cel_cons (IsSl.cel sl26) (cel_cons rfl (cel_cons rfl (cel_cons rfl (cel_cons rfl cel_nil)))))) rfl rfl (fun w29 M => ?_)
   refine WL.nil ?_
   refine W.seq' ?_
   refine W.seq' ?_
   refine W.region rfl ?_
   refine WL.step (v := (Value.pointer (some ⟨b27, 0, none⟩))) rfl (Step.pure (by kernel_rfl)) ?_
   refine WL.step (v := (Value.int .i64 a24.do_)) rfl (Step.load1 Try.sc3 rfl ((M.cell 0 rfl 0).trans rfl)) ?_
   refine WL.callX rfl (kit_pick a24.do_ 6 (by omega) (M.enterW0 trivial)) (CallsF.func Try.en24 rfl) ?_
   rintro _ w30 ⟨rfl, m⟩
   replace M := M.leaveW0 m
   clear m
   replace M : Mem _ _ _ [blk b27 (.cells #[(Value.int .i64 a24.do_), lv25, (Value.int .u8 a24.p.sort), (Value.int .u64 a24.p.id), (Value.int .u64 a24.p.epoch), (Value.int .u64 a24.now)] 37), own 35 3 v18 ((sortP ps_).length) ((sortP ps_).flatMap pinE), blk zb7 (.cells #[(Value.map (some zm8)), (Value.int .u64 fo_)] 87), mapP zm8 ps_] [EC v 6 i_ [(Value.int .i64 a24.do_), lv25, (Value.int .u8 a24.p.sort), (Value.int .u64 a24.p.id), (Value.int .u64 a24.p.epoch), (Value.int .u64 a24.now)], SlAt 3 lv25 a24.l.length (a24.l.flatMap pinE), SlAt 6 v l.length cs3, RepL HActT cs3 l, RepS HActT v l] _ := M
   have hFl1_ := hFl_.later (now' := now2_) (by omega)
   refine WL.nil ?_
   refine W.block ?_
   refine W.seq' ?_
   refine W.region rfl ?_
   refine WL.step (v := (Value.bool ((pickI a24.do_ 6 : Int) == (2 : Int)))) rfl (Step.pure (by kernel_rfl)) ?_
   refine WL.step (v := (Value.bool ((pickI a24.do_ 6 : Int) == (2 : Int)))) rfl (Step.assign rfl) ?_
   refine WL.nil ?_
   refine W.cond (t := (pickI a24.do_ 6 : Int) == (2 : Int)) rfl (fun h31 => ?_) (fun h31 => ?_)
   ·
    have h31p : (pickI a24.do_ 6 : Int) = (2 : Int) := by simpa using h31
    refine W.seq' ?_
    refine W.region rfl ?_
    refine WL.step (v := (Value.pointer (some ⟨b27, 2, none⟩))) rfl (Step.pure (by kernel_rfl)) ?_
    refine WL.step (v := (Value.agg #[(Value.int .u8 a24.p.sort), (Value.int .u64 a24.p.id), (Value.int .u64 a24.p.epoch)])) rfl (Step.loadN Try.ag35 rfl (M.blk 0 rfl) (Nat.le_of_ble_eq_true rfl) rfl) ?_
    refine WL.alloc (c := #[(Value.int .u8 0), (Value.int .u64 0), (Value.int .u64 0)]) M rfl Try.el35.zero rfl (fun b32 w33 hb32 M => ?_)
    refine WL.store (v := (Value.agg #[(Value.int .u8 a24.p.sort), (Value.int .u64 a24.p.id), (Value.int .u64 a24.p.epoch)])) (cs := [(Value.int .u8 a24.p.sort), (Value.int .u64 a24.p.id), (Value.int .u64 a24.p.epoch)]) (c' := #[(Value.int .u8 a24.p.sort), (Value.int .u64 a24.p.id), (Value.int .u64 a24.p.epoch)]) M 0 rfl rfl Try.el35.sized rfl rfl rfl rfl (Nat.le_of_ble_eq_true rfl) (cel_cons rfl (cel_cons rfl (cel_cons rfl cel_nil))) rfl rfl (fun w34 M => ?_)
    refine WL.nil ?_
    refine W.seq' ?_
    refine W.region rfl ?_
    refine WL.step (v := (Value.pointer (some ⟨b32, 2, none⟩))) rfl (Step.pure (by kernel_rfl)) ?_
    refine WL.step (v := (Value.int .u64 a24.p.epoch)) rfl (Step.load1 Try.sc23 rfl ((M.cell 0 rfl 2).trans rfl)) ?_
    refine WL.step (v := (Value.int .u64 now2_)) rfl (Step.move rfl) ?_
    obtain ⟨ep_, hep_⟩ : ∃ q : Int, (min (a24.p.epoch : Int) (now2_ : Int)) = q := ⟨_, rfl⟩
    refine WL.step (v := (Value.int .u64 ep_)) rfl (Step.cast (congrArg (Value.int .u64) hep_) (Step.minI rfl rfl)) ?_
    refine WL.step (v := (Value.pointer (some ⟨b32, 2, none⟩))) rfl (Step.pure (by kernel_rfl)) ?_
    refine WL.store (v := (Value.int .u64 ep_)) (cs := [(Value.int .u64 ep_)]) (c' := #[(Value.int .u8 a24.p.sort), (Value.int .u64 a24.p.id), (Value.int .u64 ep_)]) M 0 rfl rfl Try.el23.sized rfl rfl rfl rfl (Nat.le_of_ble_eq_true rfl) (cel_cons rfl cel_nil) rfl rfl (fun w35 M => ?_)
    refine WL.nil ?_
    refine W.region rfl ?_
    refine WL.step (v := (Value.pointer (some ⟨zb7, 0, none⟩))) rfl (Step.move rfl) ?_
    refine WL.step (v := (Value.agg #[(Value.int .u8 a24.p.sort), (Value.int .u64 a24.p.id), (Value.int .u64 ep_)])) rfl (Step.loadN Try.ag35 rfl (M.blk 0 rfl) (Nat.le_of_ble_eq_true rfl) rfl) ?_
    refine WL.callX rfl (hz_move zb7 zm8 ps_ fo_ (⟨a24.p.sort, a24.p.id, ep_⟩ : PinH) (M.enterW (C := [blk zb7 (.cells #[(Value.map (some zm8)), (Value.int .u64 fo_)] 87), mapP zm8 ps_]) (D := [blk b32 (.cells #[(Value.int .u8 a24.p.sort), (Value.int .u64 a24.p.id), (Value.int .u64 ep_)] 35), blk b27 (.cells #[(Value.int .i64 a24.do_), lv25, (Value.int .u8 a24.p.sort), (Value.int .u64 a24.p.id), (Value.int .u64 a24.p.epoch), (Value.int .u64 a24.now)] 37), own 35 3 v18 ((sortP ps_).length) ((sortP ps_).flatMap pinE)]) [3, 4, 0, 1, 2] rfl (by decide) trivial)) (CallsF.func Try.en25 rfl) ?_
    rintro _ w36 ⟨rfl, m⟩
    replace M := M.leaveW (C := [blk zb7 (.cells #[(Value.map (some zm8)), (Value.int .u64 fo_)] 87), mapP zm8 ps_]) (D := [blk b32 (.cells #[(Value.int .u8 a24.p.sort), (Value.int .u64 a24.p.id), (Value.int .u64 ep_)] 35), blk b27 (.cells #[(Value.int .i64 a24.do_), lv25, (Value.int .u8 a24.p.sort), (Value.int .u64 a24.p.id), (Value.int .u64 a24.p.epoch), (Value.int .u64 a24.now)] 37), own 35 3 v18 ((sortP ps_).length) ((sortP ps_).flatMap pinE)]) [3, 4, 0, 1, 2] rfl (by decide) m
    clear m
    replace M : Mem _ _ _ [blk zb7 (.cells #[(Value.map (some zm8)), (Value.int .u64 fo_)] 87), mapP zm8 (mvS ps_ (⟨a24.p.sort, a24.p.id, ep_⟩ : PinH)), blk b32 (.cells #[(Value.int .u8 a24.p.sort), (Value.int .u64 a24.p.id), (Value.int .u64 ep_)] 35), blk b27 (.cells #[(Value.int .i64 a24.do_), lv25, (Value.int .u8 a24.p.sort), (Value.int .u64 a24.p.id), (Value.int .u64 a24.p.epoch), (Value.int .u64 a24.now)] 37), own 35 3 v18 ((sortP ps_).length) ((sortP ps_).flatMap pinE)] [EC v 6 i_ [(Value.int .i64 a24.do_), lv25, (Value.int .u8 a24.p.sort), (Value.int .u64 a24.p.id), (Value.int .u64 a24.p.epoch), (Value.int .u64 a24.now)], SlAt 3 lv25 a24.l.length (a24.l.flatMap pinE), SlAt 6 v l.length cs3, RepL HActT cs3 l, RepS HActT v l] _ := M
    have hFl2_ : FlI (mvS ps_ (⟨a24.p.sort, a24.p.id, ep_⟩ : PinH)) fo_ now2_ := hFl1_.move (p := (⟨a24.p.sort, a24.p.id, ep_⟩ : PinH)) (by simp only; omega)
    have hln_ := mvS_len ps_ (⟨a24.p.sort, a24.p.id, ep_⟩ : PinH)
    have hdl_ := mvS_low ps_ (⟨a24.p.sort, a24.p.id, ep_⟩ : PinH)
    obtain ⟨ps2_, hps2_⟩ : ∃ q : List PinH, (mvS ps_ (⟨a24.p.sort, a24.p.id, ep_⟩ : PinH)) = q := ⟨_, rfl⟩
    rw [hps2_] at hFl2_ hln_ hdl_
    replace M := M.rechunk 1 (c' := mapP zm8 ps2_) rfl (by rw [hps2_])
    replace M : Mem _ _ _ [blk zb7 (.cells #[(Value.map (some zm8)), (Value.int .u64 fo_)] 87), mapP zm8 ps2_, blk b32 (.cells #[(Value.int .u8 a24.p.sort), (Value.int .u64 a24.p.id), (Value.int .u64 ep_)] 35), blk b27 (.cells #[(Value.int .i64 a24.do_), lv25, (Value.int .u8 a24.p.sort), (Value.int .u64 a24.p.id), (Value.int .u64 a24.p.epoch), (Value.int .u64 a24.now)] 37), own 35 3 v18 ((sortP ps_).length) ((sortP ps_).flatMap pinE)] [EC v 6 i_ [(Value.int .i64 a24.do_), lv25, (Value.int .u8 a24.p.sort), (Value.int .u64 a24.p.id), (Value.int .u64 a24.p.epoch), (Value.int .u64 a24.now)], SlAt 3 lv25 a24.l.length (a24.l.flatMap pinE), SlAt 6 v l.length cs3, RepL HActT cs3 l, RepS HActT v l] _ := M
    have hap2_ := hFl2_.apart
    have hsb_ := sortP_len hap2_
    have hfl2_ := hFl2_.floor
    refine WL.nil ?_
    refine W.seq' ?_
    refine W.seq' ?_
    refine W.region rfl ?_
    refine WL.step (v := (Value.pointer (some ⟨zb7, 0, none⟩))) rfl (Step.move rfl) ?_
    refine WL.callX rfl (hz_floor zb7 zm8 ps2_ fo_ (M.enterW (C := [blk zb7 (.cells #[(Value.map (some zm8)), (Value.int .u64 fo_)] 87), mapP zm8 ps2_]) (D := [blk b32 (.cells #[(Value.int .u8 a24.p.sort), (Value.int .u64 a24.p.id), (Value.int .u64 ep_)] 35), blk b27 (.cells #[(Value.int .i64 a24.do_), lv25, (Value.int .u8 a24.p.sort), (Value.int .u64 a24.p.id), (Value.int .u64 a24.p.epoch), (Value.int .u64 a24.now)] 37), own 35 3 v18 ((sortP ps_).length) ((sortP ps_).flatMap pinE)]) [0, 1, 2, 3, 4] rfl (by decide) trivial)) (CallsF.func Try.en17 rfl) ?_
    rintro _ w37 ⟨rfl, m⟩
    replace M := M.leaveW (C := [blk zb7 (.cells #[(Value.map (some zm8)), (Value.int .u64 fo_)] 87), mapP zm8 ps2_]) (D := [blk b32 (.cells #[(Value.int .u8 a24.p.sort), (Value.int .u64 a24.p.id), (Value.int .u64 ep_)] 35), blk b27 (.cells #[(Value.int .i64 a24.do_), lv25, (Value.int .u8 a24.p.sort), (Value.int .u64 a24.p.id), (Value.int .u64 a24.p.epoch), (Value.int .u64 a24.now)] 37), own 35 3 v18 ((sortP ps_).length) ((sortP ps_).flatMap pinE)]) [0, 1, 2, 3, 4] rfl (by decide) m
    replace M := M.sel (L' := [blk zb7 (.cells #[(Value.map (some zm8)), (Value.int .u64 fo_)] 87), mapP zm8 ps2_, blk b32 (.cells #[(Value.int .u8 a24.p.sort), (Value.int .u64 a24.p.id), (Value.int .u64 ep_)] 35), blk b27 (.cells #[(Value.int .i64 a24.do_), lv25, (Value.int .u8 a24.p.sort), (Value.int .u64 a24.p.id), (Value.int .u64 a24.p.epoch), (Value.int .u64 a24.now)] 37), own 35 3 v18 ((sortP ps_).length) ((sortP ps_).flatMap pinE)]) [0, 1, 2, 3, 4] rfl (by decide)
    clear m
    replace M : Mem _ _ _ [blk zb7 (.cells #[(Value.map (some zm8)), (Value.int .u64 fo_)] 87), mapP zm8 ps2_, blk b32 (.cells #[(Value.int .u8 a24.p.sort), (Value.int .u64 a24.p.id), (Value.int .u64 ep_)] 35), blk b27 (.cells #[(Value.int .i64 a24.do_), lv25, (Value.int .u8 a24.p.sort), (Value.int .u64 a24.p.id), (Value.int .u64 a24.p.epoch), (Value.int .u64 a24.now)] 37), own 35 3 v18 ((sortP ps_).length) ((sortP ps_).flatMap pinE)] [EC v 6 i_ [(Value.int .i64 a24.do_), lv25, (Value.int .u8 a24.p.sort), (Value.int .u64 a24.p.id), (Value.int .u64 a24.p.epoch), (Value.int .u64 a24.now)], SlAt 3 lv25 a24.l.length (a24.l.flatMap pinE), SlAt 6 v l.length cs3, RepL HActT cs3 l, RepS HActT v l] _ := M
    replace M := M.sel (L' := [blk zb7 (.cells #[(Value.map (some zm8)), (Value.int .u64 fo_)] 87), mapP zm8 ps2_, own 35 3 v18 ((sortP ps_).length) ((sortP ps_).flatMap pinE)]) [0, 1, 4] rfl (by decide)
    replace M : Mem _ _ _ [blk zb7 (.cells #[(Value.map (some zm8)), (Value.int .u64 fo_)] 87), mapP zm8 ps2_, own 35 3 v18 ((sortP ps_).length) ((sortP ps_).flatMap pinE)] [EC v 6 i_ [(Value.int .i64 a24.do_), lv25, (Value.int .u8 a24.p.sort), (Value.int .u64 a24.p.id), (Value.int .u64 a24.p.epoch), (Value.int .u64 a24.now)], SlAt 3 lv25 a24.l.length (a24.l.flatMap pinE), SlAt 6 v l.length cs3, RepL HActT cs3 l, RepS HActT v l] _ := M
    replace M := M.sub (List.Sublist.refl _) (R' := [SlAt 6 v l.length cs3, RepL HActT cs3 l, RepS HActT v l]) (fun r h => (List.mem_cons_of_mem _ (List.mem_cons_of_mem _ h)))
    replace M : Mem _ _ _ [blk zb7 (.cells #[(Value.map (some zm8)), (Value.int .u64 fo_)] 87), mapP zm8 ps2_, own 35 3 v18 ((sortP ps_).length) ((sortP ps_).flatMap pinE)] [SlAt 6 v l.length cs3, RepL HActT cs3 l, RepS HActT v l] _ := M
    refine WL.step (v := (Value.int .u64 fo_)) rfl (Step.move rfl) ?_
    refine WL.step (v := (Value.bool false)) rfl (Step.cast (congrArg Value.bool (show (decide ((fo_ : Int) < (fo_ : Int))) = false by rw [decide_eq_false_iff_not]; omega)) (Step.pure (by kernel_rfl))) ?_
    refine WL.step (v := (Value.bool false)) rfl (Step.move rfl) ?_
    refine WL.step (v := (Value.pointer (some ⟨zb7, 0, none⟩))) rfl (Step.move rfl) ?_
    refine WL.callX rfl (hz_floor zb7 zm8 ps2_ fo_ (M.enterW (C := [blk zb7 (.cells #[(Value.map (some zm8)), (Value.int .u64 fo_)] 87), mapP zm8 ps2_]) (D := [own 35 3 v18 ((sortP ps_).length) ((sortP ps_).flatMap pinE)]) [0, 1, 2] rfl (by decide) trivial)) (CallsF.func Try.en17 rfl) ?_
    rintro _ w38 ⟨rfl, m⟩
    replace M := M.leaveW (C := [blk zb7 (.cells #[(Value.map (some zm8)), (Value.int .u64 fo_)] 87), mapP zm8 ps2_]) (D := [own 35 3 v18 ((sortP ps_).length) ((sortP ps_).flatMap pinE)]) [0, 1, 2] rfl (by decide) m
    replace M := M.sel (L' := [blk zb7 (.cells #[(Value.map (some zm8)), (Value.int .u64 fo_)] 87), mapP zm8 ps2_, own 35 3 v18 ((sortP ps_).length) ((sortP ps_).flatMap pinE)]) [0, 1, 2] rfl (by decide)
    clear m
    replace M : Mem _ _ _ [blk zb7 (.cells #[(Value.map (some zm8)), (Value.int .u64 fo_)] 87), mapP zm8 ps2_, own 35 3 v18 ((sortP ps_).length) ((sortP ps_).flatMap pinE)] [SlAt 6 v l.length cs3, RepL HActT cs3 l, RepS HActT v l] _ := M
    refine WL.step (v := (Value.int .u64 now2_)) rfl (Step.move rfl) ?_
    refine WL.step (v := (Value.bool false)) rfl (Step.cast (congrArg Value.bool (show (decide ((fo_ : Int) > (now2_ : Int))) = false by rw [decide_eq_false_iff_not]; omega)) (Step.pure (by kernel_rfl))) ?_
    refine WL.step (v := (Value.bool false)) rfl (Step.pick (t := false) rfl rfl) ?_
    refine WL.nil ?_
    refine W.cond (t := false) rfl (fun h => by cases h) (fun _ => ?_)
    refine W.skip ?_
    refine W.seq' ?_
    refine W.region rfl ?_
    refine WL.step (v := (Value.pointer (some ⟨zb7, 0, none⟩))) rfl (Step.move rfl) ?_
    refine WL.callX rfl (hz_pins zb7 zm8 ps2_ fo_ (by first | omega | (simp; done)) (by assumption) (M.enterW (C := [blk zb7 (.cells #[(Value.map (some zm8)), (Value.int .u64 fo_)] 87), mapP zm8 ps2_]) (D := [own 35 3 v18 ((sortP ps_).length) ((sortP ps_).flatMap pinE)]) [0, 1, 2] rfl (by decide) trivial)) (CallsF.func Try.en14 rfl) ?_
    rintro v39 w40 ⟨_, rfl, m⟩
    replace M := M.leaveW (C := [blk zb7 (.cells #[(Value.map (some zm8)), (Value.int .u64 fo_)] 87), mapP zm8 ps2_]) (D := [own 35 3 v18 ((sortP ps_).length) ((sortP ps_).flatMap pinE)]) [0, 1, 2] rfl (by decide) m
    replace M := M.sel (L' := [own 35 3 v39 ((sortP ps2_).length) ((sortP ps2_).flatMap pinE), blk zb7 (.cells #[(Value.map (some zm8)), (Value.int .u64 fo_)] 87), mapP zm8 ps2_, own 35 3 v18 ((sortP ps_).length) ((sortP ps_).flatMap pinE)]) [2, 0, 1, 3] rfl (by decide)
    clear m
    replace M : Mem _ _ _ [own 35 3 v39 ((sortP ps2_).length) ((sortP ps2_).flatMap pinE), blk zb7 (.cells #[(Value.map (some zm8)), (Value.int .u64 fo_)] 87), mapP zm8 ps2_, own 35 3 v18 ((sortP ps_).length) ((sortP ps_).flatMap pinE)] [SlAt 6 v l.length cs3, RepL HActT cs3 l, RepS HActT v l] _ := M
    have sl41 : IsSl v39 := SlAt.isSl (own_slAt (Mem.chunk M 0 rfl).inv)
    have hle42 := SlAt.le' (own_slAt (Mem.chunk M 0 rfl).inv)
    refine WL.step (v := v39) rfl (Step.assign rfl) ?_
    refine WL.nil ?_
    refine W.seq' ?_
    refine W.seq' ?_
    refine W.region rfl ?_
    refine WL.step (v := (Value.int .i64 0)) rfl (Step.assign rfl) ?_
    refine WL.nil ?_
    refine W.block ?_
    refine W.loop (fun kk ρ w' => ∃ (k_ : Nat), ((k_ ≤ (sortP ps2_).length) ∧ kk = (sortP ps2_).length - k_) ∧ ρ.has [(0, v), (3, (Value.pointer (some ⟨zb7, 0, none⟩))), (4, (Value.int .u64 now2_)), (5, (Value.int .i64 ↑i_)), (6, (Value.int .u64 fo_)), (7, v18), (8, (Value.pointer (some ⟨b27, 0, none⟩))), (9, (Value.pointer (some ⟨b32, 0, none⟩))), (14, v39), (15, (Value.int .i64 ↑k_)), (25, (Value.int .i64 ↑i_)), (26, v), (27, (Value.int .i64 ↑l.length)), (28, (Value.bool (decide ((↑i_ : Int) < (↑l.length : Int))))), (31, (Value.pointer (some ⟨zb7, 0, none⟩))), (32, (Value.int .u64 fo_)), (33, (Value.pointer (some ⟨zb7, 0, none⟩))), (34, v18), (35, (Value.int .u64 now_)), (36, v), (37, (Value.int .i64 ↑i_)), (38, (Value.pointer (some ⟨(sBlk v), sOff v + i_ * 6, none⟩))), (39, (Value.pointer (some ⟨(sBlk v), sOff v + i_ * 6 + 5, none⟩))), (40, (Value.int .u64 a24.now)), (41, (Value.int .u64 ((a24.now : Int) % 1048576))), (42, (Value.int .u64 now2_)), (43, v), (44, (Value.int .i64 ↑i_)), (45, (Value.pointer (some ⟨(sBlk v), sOff v + i_ * 6, none⟩))), (46, (Value.agg #[(Value.int .i64 a24.do_), lv25, (Value.int .u8 a24.p.sort), (Value.int .u64 a24.p.id), (Value.int .u64 a24.p.epoch), (Value.int .u64 a24.now)])), (47, (Value.pointer (some ⟨b27, 0, none⟩))), (48, (Value.int .i64 a24.do_)), (49, (Value.int .i64 (pickI a24.do_ 6))), (84, (Value.bool ((pickI a24.do_ 6 : Int) == (2 : Int)))), (85, (Value.bool ((pickI a24.do_ 6 : Int) == (2 : Int)))), (86, (Value.pointer (some ⟨b27, 2, none⟩))), (87, (Value.agg #[(Value.int .u8 a24.p.sort), (Value.int .u64 a24.p.id), (Value.int .u64 a24.p.epoch)])), (88, (Value.pointer (some ⟨b32, 2, none⟩))), (89, (Value.int .u64 a24.p.epoch)), (90, (Value.int .u64 now2_)), (91, (Value.int .u64 ep_)), (92, (Value.pointer (some ⟨b32, 2, none⟩))), (93, (Value.pointer (some ⟨zb7, 0, none⟩))), (94, (Value.agg #[(Value.int .u8 a24.p.sort), (Value.int .u64 a24.p.id), (Value.int .u64 ep_)])), (115, (Value.pointer (some ⟨zb7, 0, none⟩))), (116, (Value.int .u64 fo_)), (117, (Value.int .u64 fo_)), (118, (Value.bool false)), (119, (Value.bool false)), (120, (Value.pointer (some ⟨zb7, 0, none⟩))), (121, (Value.int .u64 fo_)), (122, (Value.int .u64 now2_)), (123, (Value.bool false)), (124, (Value.bool false)), (125, (Value.pointer (some ⟨zb7, 0, none⟩))), (126, v39)] ∧ Mem G (fun _ => False) w [own 35 3 v39 ((sortP ps2_).length) ((sortP ps2_).flatMap pinE), blk zb7 (.cells #[(Value.map (some zm8)), (Value.int .u64 fo_)] 87), mapP zm8 ps2_, own 35 3 v18 ((sortP ps_).length) ((sortP ps_).flatMap pinE)] [SlAt 6 v l.length cs3, RepL HActT cs3 l, RepS HActT v l]  w') _ ⟨0, ⟨(Nat.zero_le _), rfl⟩, ⟨rfl, rfl, rfl, rfl, rfl, rfl, rfl, rfl, rfl, rfl, rfl, rfl, rfl, rfl, rfl, rfl, rfl, rfl, rfl, rfl, rfl, rfl, rfl, rfl, rfl, rfl, rfl, rfl, rfl, rfl, rfl, rfl, rfl, rfl, rfl, rfl, rfl, rfl, rfl, rfl, rfl, rfl, rfl, rfl, rfl, rfl, rfl, rfl, rfl, rfl, rfl, rfl, rfl, rfl, rfl, rfl, rfl, rfl⟩, M⟩ ?_
    rintro _ ρ44 w43 ⟨k_, ⟨hi45, rfl⟩, hρ, M⟩
    obtain ⟨ρ44, rfl⟩ := hρ.know
    clear hρ
    refine W.seq' ?_
    refine W.seq' ?_
    refine W.region rfl ?_
    refine WL.step (v := (Value.int .i64 ↑k_)) rfl (Step.move rfl) ?_
    refine WL.step (v := v39) rfl (Step.move rfl) ?_
    refine WL.step (v := (Value.int .i64 (↑((sortP ps2_).length)))) rfl (Step.lenSl Try.un33 rfl (own_slAt (M.chunk 0 rfl).inv)) ?_
    refine WL.step (v := (Value.bool (decide ((↑k_ : Int) < (↑((sortP ps2_).length) : Int))))) rfl (Step.pure (by kernel_rfl)) ?_
    refine WL.nil ?_
    refine W.cond (t := decide ((↑k_ : Int) < (↑((sortP ps2_).length) : Int))) rfl (fun h46 => ?_) (fun h46 => ?_)
    ·
     have h46p := of_decide_eq_true h46
     refine W.skip ?_
     refine W.seq' ?_
     refine W.block ?_
     refine W.seq' ?_
     refine W.region rfl ?_
     refine WL.step (v := (Value.pointer (some ⟨zb7, 0, none⟩))) rfl (Step.move rfl) ?_
     refine WL.step (v := v39) rfl (Step.move rfl) ?_
     refine WL.step (v := (Value.int .i64 ↑k_)) rfl (Step.move rfl) ?_
     obtain ⟨cap48, hb47⟩ := SlAt.base (own_slAt (M.chunk 0 rfl).inv) (by omega)
     refine WL.step (v := (Value.pointer (some ⟨(sBlk v39), sOff v39 + k_ * 3, none⟩))) rfl (Step.indexAddr (i := k_) (Try.un33).run Try.el35.sized rfl rfl (by omega) hb47 (by omega)) ?_
     refine WL.step (v := (Value.pointer (some ⟨(sBlk v39), sOff v39 + k_ * 3 + 2, none⟩))) rfl (Step.pure (by kernel_rfl)) ?_
     obtain ⟨x49, hx49⟩ := elem_of_lt (xs := sortP ps2_) (i := k_) (by omega)
     have hm_ := (sortP_mem hap2_).1 (List.mem_of_getElem? hx49)
     have hlo_ := hFl2_.low _ hm_
     refine WL.step (v := (Value.int .u64 x49.epoch)) rfl (Step.loadE (k := 2) Try.sc23 (flat_ec (own_slAt (M.chunk 0 rfl).inv) hx49 pinE_len) (by decide) rfl rfl) ?_
     refine WL.step (v := (Value.int .u64 now2_)) rfl (Step.move rfl) ?_
     refine WL.callX rfl (hz_read zb7 zm8 ps2_ fo_ x49.epoch now2_ (M.enterW (C := [blk zb7 (.cells #[(Value.map (some zm8)), (Value.int .u64 fo_)] 87), mapP zm8 ps2_]) (D := [own 35 3 v39 ((sortP ps2_).length) ((sortP ps2_).flatMap pinE), own 35 3 v18 ((sortP ps_).length) ((sortP ps_).flatMap pinE)]) [1, 2, 0, 3] rfl (by decide) trivial)) (CallsF.func Try.en22 rfl) ?_
     rintro _ w50 ⟨rfl, m⟩
     replace M := M.leaveW (C := [blk zb7 (.cells #[(Value.map (some zm8)), (Value.int .u64 fo_)] 87), mapP zm8 ps2_]) (D := [own 35 3 v39 ((sortP ps2_).length) ((sortP ps2_).flatMap pinE), own 35 3 v18 ((sortP ps_).length) ((sortP ps_).flatMap pinE)]) [1, 2, 0, 3] rfl (by decide) m
     replace M := M.sel (L' := [own 35 3 v39 ((sortP ps2_).length) ((sortP ps2_).flatMap pinE), blk zb7 (.cells #[(Value.map (some zm8)), (Value.int .u64 fo_)] 87), mapP zm8 ps2_, own 35 3 v18 ((sortP ps_).length) ((sortP ps_).flatMap pinE)]) [2, 0, 1, 3] rfl (by decide)
     clear m
     replace M : Mem _ _ _ [own 35 3 v39 ((sortP ps2_).length) ((sortP ps2_).flatMap pinE), blk zb7 (.cells #[(Value.map (some zm8)), (Value.int .u64 fo_)] 87), mapP zm8 ps2_, own 35 3 v18 ((sortP ps_).length) ((sortP ps_).flatMap pinE)] [SlAt 6 v l.length cs3, RepL HActT cs3 l, RepS HActT v l] _ := M
     refine WL.step (v := (Value.tuple #[(Value.int .u64 ((readV fo_ x49.epoch now2_).1)), (Value.int .i64 ((readV fo_ x49.epoch now2_).2))])) rfl (Step.move rfl) ?_
     refine WL.step (v := (Value.int .u64 ((readV fo_ x49.epoch now2_).1))) rfl (Step.pure (by kernel_rfl)) ?_
     refine WL.step (v := (Value.int .i64 ((readV fo_ x49.epoch now2_).2))) rfl (Step.pure (by kernel_rfl)) ?_
     refine WL.step (v := (Value.int .u64 ((readV fo_ x49.epoch now2_).1))) rfl (Step.assign rfl) ?_
     refine WL.step (v := (Value.int .i64 ((readV fo_ x49.epoch now2_).2))) rfl (Step.assign rfl) ?_
     refine WL.nil ?_
     refine W.seq' ?_
     rcases Bool.eq_false_or_eq_true (decide ((x49.epoch : Int) > (0 : Int))) with h51 | h51
     ·
      have h51p := of_decide_eq_true h51
      refine W.drawn M [0, 1, 2, 3, 4, 5, 6, 7, 8, 9, 10, 11, 12, 13, 14, 15, 16, 17, 18, 19, 20, 21, 22, 23, 24, 25, 26, 27, 28] [6] [] [own 35 3 v39 ((sortP ps2_).length) ((sortP ps2_).flatMap pinE), blk zb7 (.cells #[(Value.map (some zm8)), (Value.int .u64 fo_)] 87), mapP zm8 ps2_, own 35 3 v18 ((sortP ps_).length) ((sortP ps_).flatMap pinE)] [SlAt 6 v l.length cs3, RepL HActT cs3 l, RepS HActT v l] (List.Sublist.cons_cons _ (List.Sublist.cons_cons _ (List.Sublist.cons_cons _ (List.Sublist.cons_cons _ List.Sublist.slnil)))) (fun _ h => h) Try.mixed (by kernel_rfl) ?_
      refine TW.pure (v := v39) rfl (by decide) (by decide) rfl (fun w => (Step.move rfl)) ?_
      refine TW.pure (v := (Value.int .i64 ↑k_)) rfl (by decide) (by decide) rfl (fun w => (Step.move rfl)) ?_
      refine TW.pure (v := (Value.pointer (some ⟨(sBlk v39), sOff v39 + k_ * 3, none⟩))) rfl (by decide) (by decide) rfl (fun w => (Step.indexAddr (i := k_) (Try.un33).run Try.el35.sized rfl rfl (by omega) hb47 (by omega))) ?_
      refine TW.pure (v := (Value.pointer (some ⟨(sBlk v39), sOff v39 + k_ * 3 + 2, none⟩))) rfl (by decide) (by decide) rfl (fun w => (Step.pure (by kernel_rfl))) ?_
      refine TW.read (v := (Value.int .u64 x49.epoch)) rfl (by decide) (by decide) rfl (fun A w M => (Step.loadE (k := 2) Try.sc23 (flat_ec (own_slAt (M.chunk 1 rfl).inv) hx49 pinE_len) (by decide) rfl rfl)) ?_
      refine TW.pure (v := (Value.pointer (some ⟨zb7, 0, none⟩))) rfl (by decide) (by decide) rfl (fun w => (Step.move rfl)) ?_
      refine TW.callX (ι := Unit) (fun jx v_ => v_ = (Value.int .u64 fo_)) (fun jx => [own 35 3 v39 ((sortP ps2_).length) ((sortP ps2_).flatMap pinE), blk zb7 (.cells #[(Value.map (some zm8)), (Value.int .u64 fo_)] 87), mapP zm8 ps2_, own 35 3 v18 ((sortP ps_).length) ((sortP ps_).flatMap pinE)]) (fun jx => [SlAt 6 v l.length cs3, RepL HActT cs3 l, RepS HActT v l]) rfl (by decide) rfl (fun jx => (List.Sublist.cons_cons _ (List.Sublist.cons_cons _ (List.Sublist.cons_cons _ (List.Sublist.cons_cons _ List.Sublist.slnil))))) (fun jx r h => h) (fun A w M => Rets.mono (hz_floor zb7 zm8 ps2_ fo_ (M.enterW (C := [blk zb7 (.cells #[(Value.map (some zm8)), (Value.int .u64 fo_)] 87), mapP zm8 ps2_]) (D := [fl A, own 35 3 v39 ((sortP ps2_).length) ((sortP ps2_).flatMap pinE), own 35 3 v18 ((sortP ps_).length) ((sortP ps_).flatMap pinE)]) [2, 3, 0, 1, 4] rfl (by decide) trivial)) (fun v_ w_ ⟨e_, m⟩ => ⟨(), e_, (M.leaveW (C := [blk zb7 (.cells #[(Value.map (some zm8)), (Value.int .u64 fo_)] 87), mapP zm8 ps2_]) (D := [fl A, own 35 3 v39 ((sortP ps2_).length) ((sortP ps2_).flatMap pinE), own 35 3 v18 ((sortP ps_).length) ((sortP ps_).flatMap pinE)]) [2, 3, 0, 1, 4] rfl (by decide) m).sel (L' := [fl A, own 35 3 v39 ((sortP ps2_).length) ((sortP ps2_).flatMap pinE), blk zb7 (.cells #[(Value.map (some zm8)), (Value.int .u64 fo_)] 87), mapP zm8 ps2_, own 35 3 v18 ((sortP ps_).length) ((sortP ps_).flatMap pinE)]) [2, 3, 0, 1, 4] rfl (by decide), fun b hb => M.keptW (C := [blk zb7 (.cells #[(Value.map (some zm8)), (Value.int .u64 fo_)] 87), mapP zm8 ps2_]) (D := [fl A, own 35 3 v39 ((sortP ps2_).length) ((sortP ps2_).flatMap pinE), own 35 3 v18 ((sortP ps_).length) ((sortP ps_).flatMap pinE)]) [2, 3, 0, 1, 4] rfl (by decide) m (fl A) (List.mem_cons_self ..) b hb⟩)) (fun w => CallsF.func Try.en17 rfl) (fun jx v hp hin => ?_)
      replace hp := hp.symm; subst hp
      clear hin
      change TW _ _ _ _ _ _ _ _ (MemA _ _ _ [own 35 3 v39 ((sortP ps2_).length) ((sortP ps2_).flatMap pinE), blk zb7 (.cells #[(Value.map (some zm8)), (Value.int .u64 fo_)] 87), mapP zm8 ps2_, own 35 3 v18 ((sortP ps_).length) ((sortP ps_).flatMap pinE)] [SlAt 6 v l.length cs3, RepL HActT cs3 l, RepS HActT v l])
      refine TW.pure (v := (Value.bool false)) rfl (by decide) (by decide) rfl (fun w => (Step.cast (congrArg Value.bool (show (decide ((x49.epoch : Int) < (fo_ : Int))) = false by rw [decide_eq_false_iff_not]; omega)) (Step.pure (by kernel_rfl)))) ?_
      refine TW.pure (v := (Value.bool false)) rfl (by decide) (by decide) rfl (fun w => (Step.move rfl)) ?_
      refine TW.pure (v := v39) rfl (by decide) (by decide) rfl (fun w => (Step.move rfl)) ?_
      refine TW.pure (v := (Value.int .i64 ↑k_)) rfl (by decide) (by decide) rfl (fun w => (Step.move rfl)) ?_
      refine TW.pure (v := (Value.pointer (some ⟨(sBlk v39), sOff v39 + k_ * 3, none⟩))) rfl (by decide) (by decide) rfl (fun w => (Step.indexAddr (i := k_) (Try.un33).run Try.el35.sized rfl rfl (by omega) hb47 (by omega))) ?_
      refine TW.pure (v := (Value.pointer (some ⟨(sBlk v39), sOff v39 + k_ * 3 + 2, none⟩))) rfl (by decide) (by decide) rfl (fun w => (Step.pure (by kernel_rfl))) ?_
      refine TW.read (v := (Value.int .u64 x49.epoch)) rfl (by decide) (by decide) rfl (fun A w M => (Step.loadE (k := 2) Try.sc23 (flat_ec (own_slAt (M.chunk 1 rfl).inv) hx49 pinE_len) (by decide) rfl rfl)) ?_
      refine TW.pure (v := (Value.bool true)) rfl (by decide) (by decide) rfl (fun w => (Step.cast (congrArg Value.bool h51) (Step.pure (by kernel_rfl)))) ?_
      refine TW.pure (v := (Value.bool true)) rfl (by decide) (by decide) rfl (fun w => (Step.move rfl)) ?_
      refine TW.pure (v := (Value.int .i64 ((readV fo_ x49.epoch now2_).2))) rfl (by decide) (by decide) rfl (fun w => (Step.move rfl)) ?_
      refine TW.pure (v := (Value.bool false)) rfl (by decide) (by decide) rfl (fun w => (Step.cast (congrArg Value.bool (show (((readV fo_ x49.epoch now2_).2 : Int) != (0 : Int)) = false by rw [hFl2_.read hm_ h51p]; simp)) (Step.pure (by kernel_rfl)))) ?_
      refine TW.pure (v := (Value.bool false)) rfl (by decide) (by decide) rfl (fun w => (Step.move rfl)) ?_
      refine TW.pure (v := (Value.int .u64 ((readV fo_ x49.epoch now2_).1))) rfl (by decide) (by decide) rfl (fun w => (Step.move rfl)) ?_
      refine TW.pure (v := v39) rfl (by decide) (by decide) rfl (fun w => (Step.move rfl)) ?_
      refine TW.pure (v := (Value.int .i64 ↑k_)) rfl (by decide) (by decide) rfl (fun w => (Step.move rfl)) ?_
      refine TW.pure (v := (Value.pointer (some ⟨(sBlk v39), sOff v39 + k_ * 3, none⟩))) rfl (by decide) (by decide) rfl (fun w => (Step.indexAddr (i := k_) (Try.un33).run Try.el35.sized rfl rfl (by omega) hb47 (by omega))) ?_
      refine TW.pure (v := (Value.pointer (some ⟨(sBlk v39), sOff v39 + k_ * 3 + 2, none⟩))) rfl (by decide) (by decide) rfl (fun w => (Step.pure (by kernel_rfl))) ?_
      refine TW.read (v := (Value.int .u64 x49.epoch)) rfl (by decide) (by decide) rfl (fun A w M => (Step.loadE (k := 2) Try.sc23 (flat_ec (own_slAt (M.chunk 1 rfl).inv) hx49 pinE_len) (by decide) rfl rfl)) ?_
      refine TW.pure (v := (Value.bool false)) rfl (by decide) (by decide) rfl (fun w => (Step.cast (congrArg Value.bool (show (((readV fo_ x49.epoch now2_).1 : Int) != (x49.epoch : Int)) = false by rw [hFl2_.read hm_ h51p]; simp)) (Step.pure (by kernel_rfl)))) ?_
      refine TW.pure (v := (Value.bool false)) rfl (by decide) (by decide) rfl (fun w => (Step.pick (t := false) rfl rfl)) ?_
      refine TW.pure (v := (Value.bool false)) rfl (by decide) (by decide) rfl (fun w => (Step.pick (t := true) rfl rfl)) ?_
      refine TW.pure (v := (Value.bool false)) rfl (by decide) (by decide) rfl (fun w => (Step.pick (t := false) rfl rfl)) ?_
      refine TW.done (fun w52 M => ?_)
      refine W.cond (t := false) rfl (fun h => by cases h) (fun _ => ?_)
      refine W.skip ?_
      refine W.region rfl ?_
      refine WL.step (v := (Value.int .i64 ↑k_)) rfl (Step.move rfl) ?_
      refine WL.step (v := (Value.int .i64 (↑k_ + 1))) rfl (Step.add rfl rfl (wrap_i64 (by omega))) ?_
      refine WL.step (v := (Value.int .i64 (↑k_ + 1))) rfl (Step.assign rfl) ?_
      refine WL.nil ?_
      exact ⟨_, (by omega), k_ + 1, ⟨(by omega), rfl⟩, ⟨rfl, rfl, rfl, rfl, rfl, rfl, rfl, rfl, rfl, rfl, rfl, rfl, rfl, rfl, rfl, rfl, rfl, rfl, rfl, rfl, rfl, rfl, rfl, rfl, rfl, rfl, rfl, rfl, rfl, rfl, rfl, rfl, rfl, rfl, rfl, rfl, rfl, rfl, rfl, rfl, rfl, rfl, rfl, rfl, rfl, rfl, rfl, rfl, rfl, rfl, rfl, rfl, rfl, rfl, rfl, rfl, rfl, rfl⟩, M⟩
     ·
      have h51p := of_decide_eq_false h51
      refine W.drawn M [0, 1, 2, 3, 4, 5, 6, 7, 8, 9, 10, 11, 12, 13, 14, 15, 16, 17, 18, 19, 20, 21, 22, 23, 24, 25, 26, 27, 28] [6] [] [own 35 3 v39 ((sortP ps2_).length) ((sortP ps2_).flatMap pinE), blk zb7 (.cells #[(Value.map (some zm8)), (Value.int .u64 fo_)] 87), mapP zm8 ps2_, own 35 3 v18 ((sortP ps_).length) ((sortP ps_).flatMap pinE)] [SlAt 6 v l.length cs3, RepL HActT cs3 l, RepS HActT v l] (List.Sublist.cons_cons _ (List.Sublist.cons_cons _ (List.Sublist.cons_cons _ (List.Sublist.cons_cons _ List.Sublist.slnil)))) (fun _ h => h) Try.mixed (by kernel_rfl) ?_
      refine TW.pure (v := v39) rfl (by decide) (by decide) rfl (fun w => (Step.move rfl)) ?_
      refine TW.pure (v := (Value.int .i64 ↑k_)) rfl (by decide) (by decide) rfl (fun w => (Step.move rfl)) ?_
      refine TW.pure (v := (Value.pointer (some ⟨(sBlk v39), sOff v39 + k_ * 3, none⟩))) rfl (by decide) (by decide) rfl (fun w => (Step.indexAddr (i := k_) (Try.un33).run Try.el35.sized rfl rfl (by omega) hb47 (by omega))) ?_
      refine TW.pure (v := (Value.pointer (some ⟨(sBlk v39), sOff v39 + k_ * 3 + 2, none⟩))) rfl (by decide) (by decide) rfl (fun w => (Step.pure (by kernel_rfl))) ?_
      refine TW.read (v := (Value.int .u64 x49.epoch)) rfl (by decide) (by decide) rfl (fun A w M => (Step.loadE (k := 2) Try.sc23 (flat_ec (own_slAt (M.chunk 1 rfl).inv) hx49 pinE_len) (by decide) rfl rfl)) ?_
      refine TW.pure (v := (Value.pointer (some ⟨zb7, 0, none⟩))) rfl (by decide) (by decide) rfl (fun w => (Step.move rfl)) ?_
      refine TW.callX (ι := Unit) (fun jx v_ => v_ = (Value.int .u64 fo_)) (fun jx => [own 35 3 v39 ((sortP ps2_).length) ((sortP ps2_).flatMap pinE), blk zb7 (.cells #[(Value.map (some zm8)), (Value.int .u64 fo_)] 87), mapP zm8 ps2_, own 35 3 v18 ((sortP ps_).length) ((sortP ps_).flatMap pinE)]) (fun jx => [SlAt 6 v l.length cs3, RepL HActT cs3 l, RepS HActT v l]) rfl (by decide) rfl (fun jx => (List.Sublist.cons_cons _ (List.Sublist.cons_cons _ (List.Sublist.cons_cons _ (List.Sublist.cons_cons _ List.Sublist.slnil))))) (fun jx r h => h) (fun A w M => Rets.mono (hz_floor zb7 zm8 ps2_ fo_ (M.enterW (C := [blk zb7 (.cells #[(Value.map (some zm8)), (Value.int .u64 fo_)] 87), mapP zm8 ps2_]) (D := [fl A, own 35 3 v39 ((sortP ps2_).length) ((sortP ps2_).flatMap pinE), own 35 3 v18 ((sortP ps_).length) ((sortP ps_).flatMap pinE)]) [2, 3, 0, 1, 4] rfl (by decide) trivial)) (fun v_ w_ ⟨e_, m⟩ => ⟨(), e_, (M.leaveW (C := [blk zb7 (.cells #[(Value.map (some zm8)), (Value.int .u64 fo_)] 87), mapP zm8 ps2_]) (D := [fl A, own 35 3 v39 ((sortP ps2_).length) ((sortP ps2_).flatMap pinE), own 35 3 v18 ((sortP ps_).length) ((sortP ps_).flatMap pinE)]) [2, 3, 0, 1, 4] rfl (by decide) m).sel (L' := [fl A, own 35 3 v39 ((sortP ps2_).length) ((sortP ps2_).flatMap pinE), blk zb7 (.cells #[(Value.map (some zm8)), (Value.int .u64 fo_)] 87), mapP zm8 ps2_, own 35 3 v18 ((sortP ps_).length) ((sortP ps_).flatMap pinE)]) [2, 3, 0, 1, 4] rfl (by decide), fun b hb => M.keptW (C := [blk zb7 (.cells #[(Value.map (some zm8)), (Value.int .u64 fo_)] 87), mapP zm8 ps2_]) (D := [fl A, own 35 3 v39 ((sortP ps2_).length) ((sortP ps2_).flatMap pinE), own 35 3 v18 ((sortP ps_).length) ((sortP ps_).flatMap pinE)]) [2, 3, 0, 1, 4] rfl (by decide) m (fl A) (List.mem_cons_self ..) b hb⟩)) (fun w => CallsF.func Try.en17 rfl) (fun jx v hp hin => ?_)
      replace hp := hp.symm; subst hp
      clear hin
      change TW _ _ _ _ _ _ _ _ (MemA _ _ _ [own 35 3 v39 ((sortP ps2_).length) ((sortP ps2_).flatMap pinE), blk zb7 (.cells #[(Value.map (some zm8)), (Value.int .u64 fo_)] 87), mapP zm8 ps2_, own 35 3 v18 ((sortP ps_).length) ((sortP ps_).flatMap pinE)] [SlAt 6 v l.length cs3, RepL HActT cs3 l, RepS HActT v l])
      refine TW.pure (v := (Value.bool false)) rfl (by decide) (by decide) rfl (fun w => (Step.cast (congrArg Value.bool (show (decide ((x49.epoch : Int) < (fo_ : Int))) = false by rw [decide_eq_false_iff_not]; omega)) (Step.pure (by kernel_rfl)))) ?_
      refine TW.pure (v := (Value.bool false)) rfl (by decide) (by decide) rfl (fun w => (Step.move rfl)) ?_
      refine TW.pure (v := v39) rfl (by decide) (by decide) rfl (fun w => (Step.move rfl)) ?_
      refine TW.pure (v := (Value.int .i64 ↑k_)) rfl (by decide) (by decide) rfl (fun w => (Step.move rfl)) ?_
      refine TW.pure (v := (Value.pointer (some ⟨(sBlk v39), sOff v39 + k_ * 3, none⟩))) rfl (by decide) (by decide) rfl (fun w => (Step.indexAddr (i := k_) (Try.un33).run Try.el35.sized rfl rfl (by omega) hb47 (by omega))) ?_
      refine TW.pure (v := (Value.pointer (some ⟨(sBlk v39), sOff v39 + k_ * 3 + 2, none⟩))) rfl (by decide) (by decide) rfl (fun w => (Step.pure (by kernel_rfl))) ?_
      refine TW.read (v := (Value.int .u64 x49.epoch)) rfl (by decide) (by decide) rfl (fun A w M => (Step.loadE (k := 2) Try.sc23 (flat_ec (own_slAt (M.chunk 1 rfl).inv) hx49 pinE_len) (by decide) rfl rfl)) ?_
      refine TW.pure (v := (Value.bool false)) rfl (by decide) (by decide) rfl (fun w => (Step.cast (congrArg Value.bool h51) (Step.pure (by kernel_rfl)))) ?_
      refine TW.pure (v := (Value.bool false)) rfl (by decide) (by decide) rfl (fun w => (Step.move rfl)) ?_
      refine TW.skip rfl rfl ?_
      refine TW.skip rfl rfl ?_
      refine TW.skip rfl rfl ?_
      refine TW.skip rfl rfl ?_
      refine TW.skip rfl rfl ?_
      refine TW.skip rfl rfl ?_
      refine TW.skip rfl rfl ?_
      refine TW.skip rfl rfl ?_
      refine TW.skip rfl rfl ?_
      refine TW.skip rfl rfl ?_
      refine TW.skip rfl rfl ?_
      refine TW.pure (v := (Value.bool false)) rfl (by decide) (by decide) rfl (fun w => (Step.pick (t := false) rfl rfl)) ?_
      refine TW.pure (v := (Value.bool false)) rfl (by decide) (by decide) rfl (fun w => (Step.pick (t := false) rfl rfl)) ?_
      refine TW.done (fun w53 M => ?_)
      refine W.cond (t := false) rfl (fun h => by cases h) (fun _ => ?_)
      refine W.skip ?_
      refine W.region rfl ?_
      refine WL.step (v := (Value.int .i64 ↑k_)) rfl (Step.move rfl) ?_
      refine WL.step (v := (Value.int .i64 (↑k_ + 1))) rfl (Step.add rfl rfl (wrap_i64 (by omega))) ?_
      refine WL.step (v := (Value.int .i64 (↑k_ + 1))) rfl (Step.assign rfl) ?_
      refine WL.nil ?_
      exact ⟨_, (by omega), k_ + 1, ⟨(by omega), rfl⟩, ⟨rfl, rfl, rfl, rfl, rfl, rfl, rfl, rfl, rfl, rfl, rfl, rfl, rfl, rfl, rfl, rfl, rfl, rfl, rfl, rfl, rfl, rfl, rfl, rfl, rfl, rfl, rfl, rfl, rfl, rfl, rfl, rfl, rfl, rfl, rfl, rfl, rfl, rfl, rfl, rfl, rfl, rfl, rfl, rfl, rfl, rfl, rfl, rfl, rfl, rfl, rfl, rfl, rfl, rfl, rfl, rfl, rfl, rfl⟩, M⟩
    ·
     have h46p := of_decide_eq_false h46
     refine W.exit ?_
     refine thn_exit ?_
     refine thn_exit ?_
     refine inBlk_hit ?_
     refine W.seq' ?_
     refine W.region rfl ?_
     refine WL.step (v := v18) rfl (Step.move rfl) ?_
     refine WL.step (v := (Value.int .i64 (↑((sortP ps_).length)))) rfl (Step.lenSl Try.un33 rfl (own_slAt (M.chunk 3 rfl).inv)) ?_
     refine WL.step (v := v39) rfl (Step.move rfl) ?_
     refine WL.step (v := (Value.int .i64 (↑((sortP ps2_).length)))) rfl (Step.lenSl Try.un33 rfl (own_slAt (M.chunk 0 rfl).inv)) ?_
     refine WL.step (v := (Value.int .i64 (↑((sortP ps2_).length) + 1))) rfl (Step.add rfl rfl (wrap_i64 (by omega))) ?_
     refine WL.step (v := (Value.bool false)) rfl (Step.cast (congrArg Value.bool (show (decide ((↑((sortP ps_).length) : Int) > (↑((sortP ps2_).length) + 1 : Int))) = false by rw [decide_eq_false_iff_not]; omega)) (Step.pure (by kernel_rfl))) ?_
     refine WL.nil ?_
     refine W.cond (t := false) rfl (fun h => by cases h) (fun _ => ?_)
     refine W.skip ?_
     refine W.region rfl ?_
     refine WL.step (v := (Value.int .i64 ↑i_)) rfl (Step.move rfl) ?_
     refine WL.step (v := (Value.int .i64 (↑i_ + 1))) rfl (Step.add rfl rfl (wrap_i64 (by omega))) ?_
     refine WL.step (v := (Value.int .i64 (↑i_ + 1))) rfl (Step.assign rfl) ?_
     refine WL.nil ?_
     replace M := M.sel (L' := [blk zb7 (.cells #[(Value.map (some zm8)), (Value.int .u64 fo_)] 87), mapP zm8 ps2_]) [1, 2] rfl (by decide)
     exact ⟨_, (by omega), i_ + 1, ps2_, fo_, now2_, ⟨(by omega), hFl2_, (by omega), (by omega), rfl⟩, ⟨rfl, rfl, rfl, rfl, rfl, rfl⟩, M⟩
   ·
    have h31p : ¬ (pickI a24.do_ 6 : Int) = (2 : Int) := by simpa using h31
    refine W.seq' ?_
    refine W.region rfl ?_
    refine WL.step (v := (Value.bool ((pickI a24.do_ 6 : Int) == (3 : Int)))) rfl (Step.pure (by kernel_rfl)) ?_
    refine WL.step (v := (Value.bool ((pickI a24.do_ 6 : Int) == (3 : Int)))) rfl (Step.assign rfl) ?_
    refine WL.nil ?_
    refine W.cond (t := (pickI a24.do_ 6 : Int) == (3 : Int)) rfl (fun h54 => ?_) (fun h54 => ?_)
    ·
     have h54p : (pickI a24.do_ 6 : Int) = (3 : Int) := by simpa using h54
     refine W.region rfl ?_
     refine WL.step (v := (Value.pointer (some ⟨zb7, 0, none⟩))) rfl (Step.move rfl) ?_
     refine WL.step (v := (Value.pointer (some ⟨b27, 2, none⟩))) rfl (Step.pure (by kernel_rfl)) ?_
     refine WL.step (v := (Value.pointer (some ⟨b27, 2, none⟩))) rfl (Step.pure (by kernel_rfl)) ?_
     refine WL.step (v := (Value.int .u8 a24.p.sort)) rfl (Step.load1 Try.sc5 rfl ((M.cell 0 rfl 2).trans rfl)) ?_
     refine WL.step (v := (Value.pointer (some ⟨b27, 2, none⟩))) rfl (Step.pure (by kernel_rfl)) ?_
     refine WL.step (v := (Value.pointer (some ⟨b27, 3, none⟩))) rfl (Step.pure (by kernel_rfl)) ?_
     refine WL.step (v := (Value.int .u64 a24.p.id)) rfl (Step.load1 Try.sc23 rfl ((M.cell 0 rfl 3).trans rfl)) ?_
     refine WL.callX rfl (hz_drop zb7 zm8 ps_ fo_ a24.p.sort a24.p.id (M.enterW (C := [blk zb7 (.cells #[(Value.map (some zm8)), (Value.int .u64 fo_)] 87), mapP zm8 ps_]) (D := [blk b27 (.cells #[(Value.int .i64 a24.do_), lv25, (Value.int .u8 a24.p.sort), (Value.int .u64 a24.p.id), (Value.int .u64 a24.p.epoch), (Value.int .u64 a24.now)] 37), own 35 3 v18 ((sortP ps_).length) ((sortP ps_).flatMap pinE)]) [2, 3, 0, 1] rfl (by decide) trivial)) (CallsF.func Try.en26 rfl) ?_
     rintro _ w55 ⟨rfl, m⟩
     replace M := M.leaveW (C := [blk zb7 (.cells #[(Value.map (some zm8)), (Value.int .u64 fo_)] 87), mapP zm8 ps_]) (D := [blk b27 (.cells #[(Value.int .i64 a24.do_), lv25, (Value.int .u8 a24.p.sort), (Value.int .u64 a24.p.id), (Value.int .u64 a24.p.epoch), (Value.int .u64 a24.now)] 37), own 35 3 v18 ((sortP ps_).length) ((sortP ps_).flatMap pinE)]) [2, 3, 0, 1] rfl (by decide) m
     clear m
     replace M : Mem _ _ _ [blk zb7 (.cells #[(Value.map (some zm8)), (Value.int .u64 fo_)] 87), mapP zm8 (delP a24.p.sort a24.p.id ps_), blk b27 (.cells #[(Value.int .i64 a24.do_), lv25, (Value.int .u8 a24.p.sort), (Value.int .u64 a24.p.id), (Value.int .u64 a24.p.epoch), (Value.int .u64 a24.now)] 37), own 35 3 v18 ((sortP ps_).length) ((sortP ps_).flatMap pinE)] [EC v 6 i_ [(Value.int .i64 a24.do_), lv25, (Value.int .u8 a24.p.sort), (Value.int .u64 a24.p.id), (Value.int .u64 a24.p.epoch), (Value.int .u64 a24.now)], SlAt 3 lv25 a24.l.length (a24.l.flatMap pinE), SlAt 6 v l.length cs3, RepL HActT cs3 l, RepS HActT v l] _ := M
     have hFl2_ : FlI (delP a24.p.sort a24.p.id ps_) fo_ now2_ := hFl1_.drop _ _
     have hln_ := delP_len a24.p.sort a24.p.id ps_
     have hdl_ := delP_low a24.p.sort a24.p.id ps_
     obtain ⟨ps2_, hps2_⟩ : ∃ q : List PinH, (delP a24.p.sort a24.p.id ps_) = q := ⟨_, rfl⟩
     rw [hps2_] at hFl2_ hln_ hdl_
     replace M := M.rechunk 1 (c' := mapP zm8 ps2_) rfl (by rw [hps2_])
     replace M : Mem _ _ _ [blk zb7 (.cells #[(Value.map (some zm8)), (Value.int .u64 fo_)] 87), mapP zm8 ps2_, blk b27 (.cells #[(Value.int .i64 a24.do_), lv25, (Value.int .u8 a24.p.sort), (Value.int .u64 a24.p.id), (Value.int .u64 a24.p.epoch), (Value.int .u64 a24.now)] 37), own 35 3 v18 ((sortP ps_).length) ((sortP ps_).flatMap pinE)] [EC v 6 i_ [(Value.int .i64 a24.do_), lv25, (Value.int .u8 a24.p.sort), (Value.int .u64 a24.p.id), (Value.int .u64 a24.p.epoch), (Value.int .u64 a24.now)], SlAt 3 lv25 a24.l.length (a24.l.flatMap pinE), SlAt 6 v l.length cs3, RepL HActT cs3 l, RepS HActT v l] _ := M
     have hap2_ := hFl2_.apart
     have hsb_ := sortP_len hap2_
     have hfl2_ := hFl2_.floor
     refine WL.nil ?_
     refine W.seq' ?_
     refine W.seq' ?_
     refine W.region rfl ?_
     refine WL.step (v := (Value.pointer (some ⟨zb7, 0, none⟩))) rfl (Step.move rfl) ?_
     refine WL.callX rfl (hz_floor zb7 zm8 ps2_ fo_ (M.enterW (C := [blk zb7 (.cells #[(Value.map (some zm8)), (Value.int .u64 fo_)] 87), mapP zm8 ps2_]) (D := [blk b27 (.cells #[(Value.int .i64 a24.do_), lv25, (Value.int .u8 a24.p.sort), (Value.int .u64 a24.p.id), (Value.int .u64 a24.p.epoch), (Value.int .u64 a24.now)] 37), own 35 3 v18 ((sortP ps_).length) ((sortP ps_).flatMap pinE)]) [0, 1, 2, 3] rfl (by decide) trivial)) (CallsF.func Try.en17 rfl) ?_
     rintro _ w56 ⟨rfl, m⟩
     replace M := M.leaveW (C := [blk zb7 (.cells #[(Value.map (some zm8)), (Value.int .u64 fo_)] 87), mapP zm8 ps2_]) (D := [blk b27 (.cells #[(Value.int .i64 a24.do_), lv25, (Value.int .u8 a24.p.sort), (Value.int .u64 a24.p.id), (Value.int .u64 a24.p.epoch), (Value.int .u64 a24.now)] 37), own 35 3 v18 ((sortP ps_).length) ((sortP ps_).flatMap pinE)]) [0, 1, 2, 3] rfl (by decide) m
     replace M := M.sel (L' := [blk zb7 (.cells #[(Value.map (some zm8)), (Value.int .u64 fo_)] 87), mapP zm8 ps2_, blk b27 (.cells #[(Value.int .i64 a24.do_), lv25, (Value.int .u8 a24.p.sort), (Value.int .u64 a24.p.id), (Value.int .u64 a24.p.epoch), (Value.int .u64 a24.now)] 37), own 35 3 v18 ((sortP ps_).length) ((sortP ps_).flatMap pinE)]) [0, 1, 2, 3] rfl (by decide)
     clear m
     replace M : Mem _ _ _ [blk zb7 (.cells #[(Value.map (some zm8)), (Value.int .u64 fo_)] 87), mapP zm8 ps2_, blk b27 (.cells #[(Value.int .i64 a24.do_), lv25, (Value.int .u8 a24.p.sort), (Value.int .u64 a24.p.id), (Value.int .u64 a24.p.epoch), (Value.int .u64 a24.now)] 37), own 35 3 v18 ((sortP ps_).length) ((sortP ps_).flatMap pinE)] [EC v 6 i_ [(Value.int .i64 a24.do_), lv25, (Value.int .u8 a24.p.sort), (Value.int .u64 a24.p.id), (Value.int .u64 a24.p.epoch), (Value.int .u64 a24.now)], SlAt 3 lv25 a24.l.length (a24.l.flatMap pinE), SlAt 6 v l.length cs3, RepL HActT cs3 l, RepS HActT v l] _ := M
     replace M := M.sel (L' := [blk zb7 (.cells #[(Value.map (some zm8)), (Value.int .u64 fo_)] 87), mapP zm8 ps2_, own 35 3 v18 ((sortP ps_).length) ((sortP ps_).flatMap pinE)]) [0, 1, 3] rfl (by decide)
     replace M : Mem _ _ _ [blk zb7 (.cells #[(Value.map (some zm8)), (Value.int .u64 fo_)] 87), mapP zm8 ps2_, own 35 3 v18 ((sortP ps_).length) ((sortP ps_).flatMap pinE)] [EC v 6 i_ [(Value.int .i64 a24.do_), lv25, (Value.int .u8 a24.p.sort), (Value.int .u64 a24.p.id), (Value.int .u64 a24.p.epoch), (Value.int .u64 a24.now)], SlAt 3 lv25 a24.l.length (a24.l.flatMap pinE), SlAt 6 v l.length cs3, RepL HActT cs3 l, RepS HActT v l] _ := M
     replace M := M.sub (List.Sublist.refl _) (R' := [SlAt 6 v l.length cs3, RepL HActT cs3 l, RepS HActT v l]) (fun r h => (List.mem_cons_of_mem _ (List.mem_cons_of_mem _ h)))
     replace M : Mem _ _ _ [blk zb7 (.cells #[(Value.map (some zm8)), (Value.int .u64 fo_)] 87), mapP zm8 ps2_, own 35 3 v18 ((sortP ps_).length) ((sortP ps_).flatMap pinE)] [SlAt 6 v l.length cs3, RepL HActT cs3 l, RepS HActT v l] _ := M
     refine WL.step (v := (Value.int .u64 fo_)) rfl (Step.move rfl) ?_
     refine WL.step (v := (Value.bool false)) rfl (Step.cast (congrArg Value.bool (show (decide ((fo_ : Int) < (fo_ : Int))) = false by rw [decide_eq_false_iff_not]; omega)) (Step.pure (by kernel_rfl))) ?_
     refine WL.step (v := (Value.bool false)) rfl (Step.move rfl) ?_
     refine WL.step (v := (Value.pointer (some ⟨zb7, 0, none⟩))) rfl (Step.move rfl) ?_
     refine WL.callX rfl (hz_floor zb7 zm8 ps2_ fo_ (M.enterW (C := [blk zb7 (.cells #[(Value.map (some zm8)), (Value.int .u64 fo_)] 87), mapP zm8 ps2_]) (D := [own 35 3 v18 ((sortP ps_).length) ((sortP ps_).flatMap pinE)]) [0, 1, 2] rfl (by decide) trivial)) (CallsF.func Try.en17 rfl) ?_
     rintro _ w57 ⟨rfl, m⟩
     replace M := M.leaveW (C := [blk zb7 (.cells #[(Value.map (some zm8)), (Value.int .u64 fo_)] 87), mapP zm8 ps2_]) (D := [own 35 3 v18 ((sortP ps_).length) ((sortP ps_).flatMap pinE)]) [0, 1, 2] rfl (by decide) m
     replace M := M.sel (L' := [blk zb7 (.cells #[(Value.map (some zm8)), (Value.int .u64 fo_)] 87), mapP zm8 ps2_, own 35 3 v18 ((sortP ps_).length) ((sortP ps_).flatMap pinE)]) [0, 1, 2] rfl (by decide)
     clear m
     replace M : Mem _ _ _ [blk zb7 (.cells #[(Value.map (some zm8)), (Value.int .u64 fo_)] 87), mapP zm8 ps2_, own 35 3 v18 ((sortP ps_).length) ((sortP ps_).flatMap pinE)] [SlAt 6 v l.length cs3, RepL HActT cs3 l, RepS HActT v l] _ := M
     refine WL.step (v := (Value.int .u64 now2_)) rfl (Step.move rfl) ?_
     refine WL.step (v := (Value.bool false)) rfl (Step.cast (congrArg Value.bool (show (decide ((fo_ : Int) > (now2_ : Int))) = false by rw [decide_eq_false_iff_not]; omega)) (Step.pure (by kernel_rfl))) ?_
     refine WL.step (v := (Value.bool false)) rfl (Step.pick (t := false) rfl rfl) ?_
     refine WL.nil ?_
     refine W.cond (t := false) rfl (fun h => by cases h) (fun _ => ?_)
     refine W.skip ?_
     refine W.seq' ?_
     refine W.region rfl ?_
     refine WL.step (v := (Value.pointer (some ⟨zb7, 0, none⟩))) rfl (Step.move rfl) ?_
     refine WL.callX rfl (hz_pins zb7 zm8 ps2_ fo_ (by first | omega | (simp; done)) (by assumption) (M.enterW (C := [blk zb7 (.cells #[(Value.map (some zm8)), (Value.int .u64 fo_)] 87), mapP zm8 ps2_]) (D := [own 35 3 v18 ((sortP ps_).length) ((sortP ps_).flatMap pinE)]) [0, 1, 2] rfl (by decide) trivial)) (CallsF.func Try.en14 rfl) ?_
     rintro v58 w59 ⟨_, rfl, m⟩
     replace M := M.leaveW (C := [blk zb7 (.cells #[(Value.map (some zm8)), (Value.int .u64 fo_)] 87), mapP zm8 ps2_]) (D := [own 35 3 v18 ((sortP ps_).length) ((sortP ps_).flatMap pinE)]) [0, 1, 2] rfl (by decide) m
     replace M := M.sel (L' := [own 35 3 v58 ((sortP ps2_).length) ((sortP ps2_).flatMap pinE), blk zb7 (.cells #[(Value.map (some zm8)), (Value.int .u64 fo_)] 87), mapP zm8 ps2_, own 35 3 v18 ((sortP ps_).length) ((sortP ps_).flatMap pinE)]) [2, 0, 1, 3] rfl (by decide)
     clear m
     replace M : Mem _ _ _ [own 35 3 v58 ((sortP ps2_).length) ((sortP ps2_).flatMap pinE), blk zb7 (.cells #[(Value.map (some zm8)), (Value.int .u64 fo_)] 87), mapP zm8 ps2_, own 35 3 v18 ((sortP ps_).length) ((sortP ps_).flatMap pinE)] [SlAt 6 v l.length cs3, RepL HActT cs3 l, RepS HActT v l] _ := M
     have sl60 : IsSl v58 := SlAt.isSl (own_slAt (Mem.chunk M 0 rfl).inv)
     have hle61 := SlAt.le' (own_slAt (Mem.chunk M 0 rfl).inv)
     refine WL.step (v := v58) rfl (Step.assign rfl) ?_
     refine WL.nil ?_
     refine W.seq' ?_
     refine W.seq' ?_
     refine W.region rfl ?_
     refine WL.step (v := (Value.int .i64 0)) rfl (Step.assign rfl) ?_
     refine WL.nil ?_
     refine W.block ?_
     refine W.loop (fun kk ρ w' => ∃ (k_ : Nat), ((k_ ≤ (sortP ps2_).length) ∧ kk = (sortP ps2_).length - k_) ∧ ρ.has [(0, v), (3, (Value.pointer (some ⟨zb7, 0, none⟩))), (4, (Value.int .u64 now2_)), (5, (Value.int .i64 ↑i_)), (6, (Value.int .u64 fo_)), (7, v18), (8, (Value.pointer (some ⟨b27, 0, none⟩))), (14, v58), (15, (Value.int .i64 ↑k_)), (25, (Value.int .i64 ↑i_)), (26, v), (27, (Value.int .i64 ↑l.length)), (28, (Value.bool (decide ((↑i_ : Int) < (↑l.length : Int))))), (31, (Value.pointer (some ⟨zb7, 0, none⟩))), (32, (Value.int .u64 fo_)), (33, (Value.pointer (some ⟨zb7, 0, none⟩))), (34, v18), (35, (Value.int .u64 now_)), (36, v), (37, (Value.int .i64 ↑i_)), (38, (Value.pointer (some ⟨(sBlk v), sOff v + i_ * 6, none⟩))), (39, (Value.pointer (some ⟨(sBlk v), sOff v + i_ * 6 + 5, none⟩))), (40, (Value.int .u64 a24.now)), (41, (Value.int .u64 ((a24.now : Int) % 1048576))), (42, (Value.int .u64 now2_)), (43, v), (44, (Value.int .i64 ↑i_)), (45, (Value.pointer (some ⟨(sBlk v), sOff v + i_ * 6, none⟩))), (46, (Value.agg #[(Value.int .i64 a24.do_), lv25, (Value.int .u8 a24.p.sort), (Value.int .u64 a24.p.id), (Value.int .u64 a24.p.epoch), (Value.int .u64 a24.now)])), (47, (Value.pointer (some ⟨b27, 0, none⟩))), (48, (Value.int .i64 a24.do_)), (49, (Value.int .i64 (pickI a24.do_ 6))), (84, (Value.bool ((pickI a24.do_ 6 : Int) == (2 : Int)))), (85, (Value.bool ((pickI a24.do_ 6 : Int) == (2 : Int)))), (96, (Value.bool ((pickI a24.do_ 6 : Int) == (3 : Int)))), (97, (Value.bool ((pickI a24.do_ 6 : Int) == (3 : Int)))), (98, (Value.pointer (some ⟨zb7, 0, none⟩))), (99, (Value.pointer (some ⟨b27, 2, none⟩))), (100, (Value.pointer (some ⟨b27, 2, none⟩))), (101, (Value.int .u8 a24.p.sort)), (102, (Value.pointer (some ⟨b27, 2, none⟩))), (103, (Value.pointer (some ⟨b27, 3, none⟩))), (104, (Value.int .u64 a24.p.id)), (115, (Value.pointer (some ⟨zb7, 0, none⟩))), (116, (Value.int .u64 fo_)), (117, (Value.int .u64 fo_)), (118, (Value.bool false)), (119, (Value.bool false)), (120, (Value.pointer (some ⟨zb7, 0, none⟩))), (121, (Value.int .u64 fo_)), (122, (Value.int .u64 now2_)), (123, (Value.bool false)), (124, (Value.bool false)), (125, (Value.pointer (some ⟨zb7, 0, none⟩))), (126, v58)] ∧ Mem G (fun _ => False) w [own 35 3 v58 ((sortP ps2_).length) ((sortP ps2_).flatMap pinE), blk zb7 (.cells #[(Value.map (some zm8)), (Value.int .u64 fo_)] 87), mapP zm8 ps2_, own 35 3 v18 ((sortP ps_).length) ((sortP ps_).flatMap pinE)] [SlAt 6 v l.length cs3, RepL HActT cs3 l, RepS HActT v l]  w') _ ⟨0, ⟨(Nat.zero_le _), rfl⟩, ⟨rfl, rfl, rfl, rfl, rfl, rfl, rfl, rfl, rfl, rfl, rfl, rfl, rfl, rfl, rfl, rfl, rfl, rfl, rfl, rfl, rfl, rfl, rfl, rfl, rfl, rfl, rfl, rfl, rfl, rfl, rfl, rfl, rfl, rfl, rfl, rfl, rfl, rfl, rfl, rfl, rfl, rfl, rfl, rfl, rfl, rfl, rfl, rfl, rfl, rfl, rfl, rfl, rfl, rfl, rfl, rfl, rfl⟩, M⟩ ?_
     rintro _ ρ63 w62 ⟨k_, ⟨hi64, rfl⟩, hρ, M⟩
     obtain ⟨ρ63, rfl⟩ := hρ.know
     clear hρ
     refine W.seq' ?_
     refine W.seq' ?_
     refine W.region rfl ?_
     refine WL.step (v := (Value.int .i64 ↑k_)) rfl (Step.move rfl) ?_
     refine WL.step (v := v58) rfl (Step.move rfl) ?_
     refine WL.step (v := (Value.int .i64 (↑((sortP ps2_).length)))) rfl (Step.lenSl Try.un33 rfl (own_slAt (M.chunk 0 rfl).inv)) ?_
     refine WL.step (v := (Value.bool (decide ((↑k_ : Int) < (↑((sortP ps2_).length) : Int))))) rfl (Step.pure (by kernel_rfl)) ?_
     refine WL.nil ?_
     refine W.cond (t := decide ((↑k_ : Int) < (↑((sortP ps2_).length) : Int))) rfl (fun h65 => ?_) (fun h65 => ?_)
     ·
      have h65p := of_decide_eq_true h65
      refine W.skip ?_
      refine W.seq' ?_
      refine W.block ?_
      refine W.seq' ?_
      refine W.region rfl ?_
      refine WL.step (v := (Value.pointer (some ⟨zb7, 0, none⟩))) rfl (Step.move rfl) ?_
      refine WL.step (v := v58) rfl (Step.move rfl) ?_
      refine WL.step (v := (Value.int .i64 ↑k_)) rfl (Step.move rfl) ?_
      obtain ⟨cap67, hb66⟩ := SlAt.base (own_slAt (M.chunk 0 rfl).inv) (by omega)
      refine WL.step (v := (Value.pointer (some ⟨(sBlk v58), sOff v58 + k_ * 3, none⟩))) rfl (Step.indexAddr (i := k_) (Try.un33).run Try.el35.sized rfl rfl (by omega) hb66 (by omega)) ?_
      refine WL.step (v := (Value.pointer (some ⟨(sBlk v58), sOff v58 + k_ * 3 + 2, none⟩))) rfl (Step.pure (by kernel_rfl)) ?_
      obtain ⟨x68, hx68⟩ := elem_of_lt (xs := sortP ps2_) (i := k_) (by omega)
      have hm_ := (sortP_mem hap2_).1 (List.mem_of_getElem? hx68)
      have hlo_ := hFl2_.low _ hm_
      refine WL.step (v := (Value.int .u64 x68.epoch)) rfl (Step.loadE (k := 2) Try.sc23 (flat_ec (own_slAt (M.chunk 0 rfl).inv) hx68 pinE_len) (by decide) rfl rfl) ?_
      refine WL.step (v := (Value.int .u64 now2_)) rfl (Step.move rfl) ?_
      refine WL.callX rfl (hz_read zb7 zm8 ps2_ fo_ x68.epoch now2_ (M.enterW (C := [blk zb7 (.cells #[(Value.map (some zm8)), (Value.int .u64 fo_)] 87), mapP zm8 ps2_]) (D := [own 35 3 v58 ((sortP ps2_).length) ((sortP ps2_).flatMap pinE), own 35 3 v18 ((sortP ps_).length) ((sortP ps_).flatMap pinE)]) [1, 2, 0, 3] rfl (by decide) trivial)) (CallsF.func Try.en22 rfl) ?_
      rintro _ w69 ⟨rfl, m⟩
      replace M := M.leaveW (C := [blk zb7 (.cells #[(Value.map (some zm8)), (Value.int .u64 fo_)] 87), mapP zm8 ps2_]) (D := [own 35 3 v58 ((sortP ps2_).length) ((sortP ps2_).flatMap pinE), own 35 3 v18 ((sortP ps_).length) ((sortP ps_).flatMap pinE)]) [1, 2, 0, 3] rfl (by decide) m
      replace M := M.sel (L' := [own 35 3 v58 ((sortP ps2_).length) ((sortP ps2_).flatMap pinE), blk zb7 (.cells #[(Value.map (some zm8)), (Value.int .u64 fo_)] 87), mapP zm8 ps2_, own 35 3 v18 ((sortP ps_).length) ((sortP ps_).flatMap pinE)]) [2, 0, 1, 3] rfl (by decide)
      clear m
      replace M : Mem _ _ _ [own 35 3 v58 ((sortP ps2_).length) ((sortP ps2_).flatMap pinE), blk zb7 (.cells #[(Value.map (some zm8)), (Value.int .u64 fo_)] 87), mapP zm8 ps2_, own 35 3 v18 ((sortP ps_).length) ((sortP ps_).flatMap pinE)] [SlAt 6 v l.length cs3, RepL HActT cs3 l, RepS HActT v l] _ := M
      refine WL.step (v := (Value.tuple #[(Value.int .u64 ((readV fo_ x68.epoch now2_).1)), (Value.int .i64 ((readV fo_ x68.epoch now2_).2))])) rfl (Step.move rfl) ?_
      refine WL.step (v := (Value.int .u64 ((readV fo_ x68.epoch now2_).1))) rfl (Step.pure (by kernel_rfl)) ?_
      refine WL.step (v := (Value.int .i64 ((readV fo_ x68.epoch now2_).2))) rfl (Step.pure (by kernel_rfl)) ?_
      refine WL.step (v := (Value.int .u64 ((readV fo_ x68.epoch now2_).1))) rfl (Step.assign rfl) ?_
      refine WL.step (v := (Value.int .i64 ((readV fo_ x68.epoch now2_).2))) rfl (Step.assign rfl) ?_
      refine WL.nil ?_
      refine W.seq' ?_
      rcases Bool.eq_false_or_eq_true (decide ((x68.epoch : Int) > (0 : Int))) with h70 | h70
      ·
       have h70p := of_decide_eq_true h70
       refine W.drawn M [0, 1, 2, 3, 4, 5, 6, 7, 8, 9, 10, 11, 12, 13, 14, 15, 16, 17, 18, 19, 20, 21, 22, 23, 24, 25, 26, 27, 28] [6] [] [own 35 3 v58 ((sortP ps2_).length) ((sortP ps2_).flatMap pinE), blk zb7 (.cells #[(Value.map (some zm8)), (Value.int .u64 fo_)] 87), mapP zm8 ps2_, own 35 3 v18 ((sortP ps_).length) ((sortP ps_).flatMap pinE)] [SlAt 6 v l.length cs3, RepL HActT cs3 l, RepS HActT v l] (List.Sublist.cons_cons _ (List.Sublist.cons_cons _ (List.Sublist.cons_cons _ (List.Sublist.cons_cons _ List.Sublist.slnil)))) (fun _ h => h) Try.mixed (by kernel_rfl) ?_
       refine TW.pure (v := v58) rfl (by decide) (by decide) rfl (fun w => (Step.move rfl)) ?_
       refine TW.pure (v := (Value.int .i64 ↑k_)) rfl (by decide) (by decide) rfl (fun w => (Step.move rfl)) ?_
       refine TW.pure (v := (Value.pointer (some ⟨(sBlk v58), sOff v58 + k_ * 3, none⟩))) rfl (by decide) (by decide) rfl (fun w => (Step.indexAddr (i := k_) (Try.un33).run Try.el35.sized rfl rfl (by omega) hb66 (by omega))) ?_
       refine TW.pure (v := (Value.pointer (some ⟨(sBlk v58), sOff v58 + k_ * 3 + 2, none⟩))) rfl (by decide) (by decide) rfl (fun w => (Step.pure (by kernel_rfl))) ?_
       refine TW.read (v := (Value.int .u64 x68.epoch)) rfl (by decide) (by decide) rfl (fun A w M => (Step.loadE (k := 2) Try.sc23 (flat_ec (own_slAt (M.chunk 1 rfl).inv) hx68 pinE_len) (by decide) rfl rfl)) ?_
       refine TW.pure (v := (Value.pointer (some ⟨zb7, 0, none⟩))) rfl (by decide) (by decide) rfl (fun w => (Step.move rfl)) ?_
       refine TW.callX (ι := Unit) (fun jx v_ => v_ = (Value.int .u64 fo_)) (fun jx => [own 35 3 v58 ((sortP ps2_).length) ((sortP ps2_).flatMap pinE), blk zb7 (.cells #[(Value.map (some zm8)), (Value.int .u64 fo_)] 87), mapP zm8 ps2_, own 35 3 v18 ((sortP ps_).length) ((sortP ps_).flatMap pinE)]) (fun jx => [SlAt 6 v l.length cs3, RepL HActT cs3 l, RepS HActT v l]) rfl (by decide) rfl (fun jx => (List.Sublist.cons_cons _ (List.Sublist.cons_cons _ (List.Sublist.cons_cons _ (List.Sublist.cons_cons _ List.Sublist.slnil))))) (fun jx r h => h) (fun A w M => Rets.mono (hz_floor zb7 zm8 ps2_ fo_ (M.enterW (C := [blk zb7 (.cells #[(Value.map (some zm8)), (Value.int .u64 fo_)] 87), mapP zm8 ps2_]) (D := [fl A, own 35 3 v58 ((sortP ps2_).length) ((sortP ps2_).flatMap pinE), own 35 3 v18 ((sortP ps_).length) ((sortP ps_).flatMap pinE)]) [2, 3, 0, 1, 4] rfl (by decide) trivial)) (fun v_ w_ ⟨e_, m⟩ => ⟨(), e_, (M.leaveW (C := [blk zb7 (.cells #[(Value.map (some zm8)), (Value.int .u64 fo_)] 87), mapP zm8 ps2_]) (D := [fl A, own 35 3 v58 ((sortP ps2_).length) ((sortP ps2_).flatMap pinE), own 35 3 v18 ((sortP ps_).length) ((sortP ps_).flatMap pinE)]) [2, 3, 0, 1, 4] rfl (by decide) m).sel (L' := [fl A, own 35 3 v58 ((sortP ps2_).length) ((sortP ps2_).flatMap pinE), blk zb7 (.cells #[(Value.map (some zm8)), (Value.int .u64 fo_)] 87), mapP zm8 ps2_, own 35 3 v18 ((sortP ps_).length) ((sortP ps_).flatMap pinE)]) [2, 3, 0, 1, 4] rfl (by decide), fun b hb => M.keptW (C := [blk zb7 (.cells #[(Value.map (some zm8)), (Value.int .u64 fo_)] 87), mapP zm8 ps2_]) (D := [fl A, own 35 3 v58 ((sortP ps2_).length) ((sortP ps2_).flatMap pinE), own 35 3 v18 ((sortP ps_).length) ((sortP ps_).flatMap pinE)]) [2, 3, 0, 1, 4] rfl (by decide) m (fl A) (List.mem_cons_self ..) b hb⟩)) (fun w => CallsF.func Try.en17 rfl) (fun jx v hp hin => ?_)
       replace hp := hp.symm; subst hp
       clear hin
       change TW _ _ _ _ _ _ _ _ (MemA _ _ _ [own 35 3 v58 ((sortP ps2_).length) ((sortP ps2_).flatMap pinE), blk zb7 (.cells #[(Value.map (some zm8)), (Value.int .u64 fo_)] 87), mapP zm8 ps2_, own 35 3 v18 ((sortP ps_).length) ((sortP ps_).flatMap pinE)] [SlAt 6 v l.length cs3, RepL HActT cs3 l, RepS HActT v l])
       refine TW.pure (v := (Value.bool false)) rfl (by decide) (by decide) rfl (fun w => (Step.cast (congrArg Value.bool (show (decide ((x68.epoch : Int) < (fo_ : Int))) = false by rw [decide_eq_false_iff_not]; omega)) (Step.pure (by kernel_rfl)))) ?_
       refine TW.pure (v := (Value.bool false)) rfl (by decide) (by decide) rfl (fun w => (Step.move rfl)) ?_
       refine TW.pure (v := v58) rfl (by decide) (by decide) rfl (fun w => (Step.move rfl)) ?_
       refine TW.pure (v := (Value.int .i64 ↑k_)) rfl (by decide) (by decide) rfl (fun w => (Step.move rfl)) ?_
       refine TW.pure (v := (Value.pointer (some ⟨(sBlk v58), sOff v58 + k_ * 3, none⟩))) rfl (by decide) (by decide) rfl (fun w => (Step.indexAddr (i := k_) (Try.un33).run Try.el35.sized rfl rfl (by omega) hb66 (by omega))) ?_
       refine TW.pure (v := (Value.pointer (some ⟨(sBlk v58), sOff v58 + k_ * 3 + 2, none⟩))) rfl (by decide) (by decide) rfl (fun w => (Step.pure (by kernel_rfl))) ?_
       refine TW.read (v := (Value.int .u64 x68.epoch)) rfl (by decide) (by decide) rfl (fun A w M => (Step.loadE (k := 2) Try.sc23 (flat_ec (own_slAt (M.chunk 1 rfl).inv) hx68 pinE_len) (by decide) rfl rfl)) ?_
       refine TW.pure (v := (Value.bool true)) rfl (by decide) (by decide) rfl (fun w => (Step.cast (congrArg Value.bool h70) (Step.pure (by kernel_rfl)))) ?_
       refine TW.pure (v := (Value.bool true)) rfl (by decide) (by decide) rfl (fun w => (Step.move rfl)) ?_
       refine TW.pure (v := (Value.int .i64 ((readV fo_ x68.epoch now2_).2))) rfl (by decide) (by decide) rfl (fun w => (Step.move rfl)) ?_
       refine TW.pure (v := (Value.bool false)) rfl (by decide) (by decide) rfl (fun w => (Step.cast (congrArg Value.bool (show (((readV fo_ x68.epoch now2_).2 : Int) != (0 : Int)) = false by rw [hFl2_.read hm_ h70p]; simp)) (Step.pure (by kernel_rfl)))) ?_
       refine TW.pure (v := (Value.bool false)) rfl (by decide) (by decide) rfl (fun w => (Step.move rfl)) ?_
       refine TW.pure (v := (Value.int .u64 ((readV fo_ x68.epoch now2_).1))) rfl (by decide) (by decide) rfl (fun w => (Step.move rfl)) ?_
       refine TW.pure (v := v58) rfl (by decide) (by decide) rfl (fun w => (Step.move rfl)) ?_
       refine TW.pure (v := (Value.int .i64 ↑k_)) rfl (by decide) (by decide) rfl (fun w => (Step.move rfl)) ?_
       refine TW.pure (v := (Value.pointer (some ⟨(sBlk v58), sOff v58 + k_ * 3, none⟩))) rfl (by decide) (by decide) rfl (fun w => (Step.indexAddr (i := k_) (Try.un33).run Try.el35.sized rfl rfl (by omega) hb66 (by omega))) ?_
       refine TW.pure (v := (Value.pointer (some ⟨(sBlk v58), sOff v58 + k_ * 3 + 2, none⟩))) rfl (by decide) (by decide) rfl (fun w => (Step.pure (by kernel_rfl))) ?_
       refine TW.read (v := (Value.int .u64 x68.epoch)) rfl (by decide) (by decide) rfl (fun A w M => (Step.loadE (k := 2) Try.sc23 (flat_ec (own_slAt (M.chunk 1 rfl).inv) hx68 pinE_len) (by decide) rfl rfl)) ?_
       refine TW.pure (v := (Value.bool false)) rfl (by decide) (by decide) rfl (fun w => (Step.cast (congrArg Value.bool (show (((readV fo_ x68.epoch now2_).1 : Int) != (x68.epoch : Int)) = false by rw [hFl2_.read hm_ h70p]; simp)) (Step.pure (by kernel_rfl)))) ?_
       refine TW.pure (v := (Value.bool false)) rfl (by decide) (by decide) rfl (fun w => (Step.pick (t := false) rfl rfl)) ?_
       refine TW.pure (v := (Value.bool false)) rfl (by decide) (by decide) rfl (fun w => (Step.pick (t := true) rfl rfl)) ?_
       refine TW.pure (v := (Value.bool false)) rfl (by decide) (by decide) rfl (fun w => (Step.pick (t := false) rfl rfl)) ?_
       refine TW.done (fun w71 M => ?_)
       refine W.cond (t := false) rfl (fun h => by cases h) (fun _ => ?_)
       refine W.skip ?_
       refine W.region rfl ?_
       refine WL.step (v := (Value.int .i64 ↑k_)) rfl (Step.move rfl) ?_
       refine WL.step (v := (Value.int .i64 (↑k_ + 1))) rfl (Step.add rfl rfl (wrap_i64 (by omega))) ?_
       refine WL.step (v := (Value.int .i64 (↑k_ + 1))) rfl (Step.assign rfl) ?_
       refine WL.nil ?_
       exact ⟨_, (by omega), k_ + 1, ⟨(by omega), rfl⟩, ⟨rfl, rfl, rfl, rfl, rfl, rfl, rfl, rfl, rfl, rfl, rfl, rfl, rfl, rfl, rfl, rfl, rfl, rfl, rfl, rfl, rfl, rfl, rfl, rfl, rfl, rfl, rfl, rfl, rfl, rfl, rfl, rfl, rfl, rfl, rfl, rfl, rfl, rfl, rfl, rfl, rfl, rfl, rfl, rfl, rfl, rfl, rfl, rfl, rfl, rfl, rfl, rfl, rfl, rfl, rfl, rfl, rfl⟩, M⟩
      ·
       have h70p := of_decide_eq_false h70
       refine W.drawn M [0, 1, 2, 3, 4, 5, 6, 7, 8, 9, 10, 11, 12, 13, 14, 15, 16, 17, 18, 19, 20, 21, 22, 23, 24, 25, 26, 27, 28] [6] [] [own 35 3 v58 ((sortP ps2_).length) ((sortP ps2_).flatMap pinE), blk zb7 (.cells #[(Value.map (some zm8)), (Value.int .u64 fo_)] 87), mapP zm8 ps2_, own 35 3 v18 ((sortP ps_).length) ((sortP ps_).flatMap pinE)] [SlAt 6 v l.length cs3, RepL HActT cs3 l, RepS HActT v l] (List.Sublist.cons_cons _ (List.Sublist.cons_cons _ (List.Sublist.cons_cons _ (List.Sublist.cons_cons _ List.Sublist.slnil)))) (fun _ h => h) Try.mixed (by kernel_rfl) ?_
       refine TW.pure (v := v58) rfl (by decide) (by decide) rfl (fun w => (Step.move rfl)) ?_
       refine TW.pure (v := (Value.int .i64 ↑k_)) rfl (by decide) (by decide) rfl (fun w => (Step.move rfl)) ?_
       refine TW.pure (v := (Value.pointer (some ⟨(sBlk v58), sOff v58 + k_ * 3, none⟩))) rfl (by decide) (by decide) rfl (fun w => (Step.indexAddr (i := k_) (Try.un33).run Try.el35.sized rfl rfl (by omega) hb66 (by omega))) ?_
       refine TW.pure (v := (Value.pointer (some ⟨(sBlk v58), sOff v58 + k_ * 3 + 2, none⟩))) rfl (by decide) (by decide) rfl (fun w => (Step.pure (by kernel_rfl))) ?_
       refine TW.read (v := (Value.int .u64 x68.epoch)) rfl (by decide) (by decide) rfl (fun A w M => (Step.loadE (k := 2) Try.sc23 (flat_ec (own_slAt (M.chunk 1 rfl).inv) hx68 pinE_len) (by decide) rfl rfl)) ?_
       refine TW.pure (v := (Value.pointer (some ⟨zb7, 0, none⟩))) rfl (by decide) (by decide) rfl (fun w => (Step.move rfl)) ?_
       refine TW.callX (ι := Unit) (fun jx v_ => v_ = (Value.int .u64 fo_)) (fun jx => [own 35 3 v58 ((sortP ps2_).length) ((sortP ps2_).flatMap pinE), blk zb7 (.cells #[(Value.map (some zm8)), (Value.int .u64 fo_)] 87), mapP zm8 ps2_, own 35 3 v18 ((sortP ps_).length) ((sortP ps_).flatMap pinE)]) (fun jx => [SlAt 6 v l.length cs3, RepL HActT cs3 l, RepS HActT v l]) rfl (by decide) rfl (fun jx => (List.Sublist.cons_cons _ (List.Sublist.cons_cons _ (List.Sublist.cons_cons _ (List.Sublist.cons_cons _ List.Sublist.slnil))))) (fun jx r h => h) (fun A w M => Rets.mono (hz_floor zb7 zm8 ps2_ fo_ (M.enterW (C := [blk zb7 (.cells #[(Value.map (some zm8)), (Value.int .u64 fo_)] 87), mapP zm8 ps2_]) (D := [fl A, own 35 3 v58 ((sortP ps2_).length) ((sortP ps2_).flatMap pinE), own 35 3 v18 ((sortP ps_).length) ((sortP ps_).flatMap pinE)]) [2, 3, 0, 1, 4] rfl (by decide) trivial)) (fun v_ w_ ⟨e_, m⟩ => ⟨(), e_, (M.leaveW (C := [blk zb7 (.cells #[(Value.map (some zm8)), (Value.int .u64 fo_)] 87), mapP zm8 ps2_]) (D := [fl A, own 35 3 v58 ((sortP ps2_).length) ((sortP ps2_).flatMap pinE), own 35 3 v18 ((sortP ps_).length) ((sortP ps_).flatMap pinE)]) [2, 3, 0, 1, 4] rfl (by decide) m).sel (L' := [fl A, own 35 3 v58 ((sortP ps2_).length) ((sortP ps2_).flatMap pinE), blk zb7 (.cells #[(Value.map (some zm8)), (Value.int .u64 fo_)] 87), mapP zm8 ps2_, own 35 3 v18 ((sortP ps_).length) ((sortP ps_).flatMap pinE)]) [2, 3, 0, 1, 4] rfl (by decide), fun b hb => M.keptW (C := [blk zb7 (.cells #[(Value.map (some zm8)), (Value.int .u64 fo_)] 87), mapP zm8 ps2_]) (D := [fl A, own 35 3 v58 ((sortP ps2_).length) ((sortP ps2_).flatMap pinE), own 35 3 v18 ((sortP ps_).length) ((sortP ps_).flatMap pinE)]) [2, 3, 0, 1, 4] rfl (by decide) m (fl A) (List.mem_cons_self ..) b hb⟩)) (fun w => CallsF.func Try.en17 rfl) (fun jx v hp hin => ?_)
       replace hp := hp.symm; subst hp
       clear hin
       change TW _ _ _ _ _ _ _ _ (MemA _ _ _ [own 35 3 v58 ((sortP ps2_).length) ((sortP ps2_).flatMap pinE), blk zb7 (.cells #[(Value.map (some zm8)), (Value.int .u64 fo_)] 87), mapP zm8 ps2_, own 35 3 v18 ((sortP ps_).length) ((sortP ps_).flatMap pinE)] [SlAt 6 v l.length cs3, RepL HActT cs3 l, RepS HActT v l])
       refine TW.pure (v := (Value.bool false)) rfl (by decide) (by decide) rfl (fun w => (Step.cast (congrArg Value.bool (show (decide ((x68.epoch : Int) < (fo_ : Int))) = false by rw [decide_eq_false_iff_not]; omega)) (Step.pure (by kernel_rfl)))) ?_
       refine TW.pure (v := (Value.bool false)) rfl (by decide) (by decide) rfl (fun w => (Step.move rfl)) ?_
       refine TW.pure (v := v58) rfl (by decide) (by decide) rfl (fun w => (Step.move rfl)) ?_
       refine TW.pure (v := (Value.int .i64 ↑k_)) rfl (by decide) (by decide) rfl (fun w => (Step.move rfl)) ?_
       refine TW.pure (v := (Value.pointer (some ⟨(sBlk v58), sOff v58 + k_ * 3, none⟩))) rfl (by decide) (by decide) rfl (fun w => (Step.indexAddr (i := k_) (Try.un33).run Try.el35.sized rfl rfl (by omega) hb66 (by omega))) ?_
       refine TW.pure (v := (Value.pointer (some ⟨(sBlk v58), sOff v58 + k_ * 3 + 2, none⟩))) rfl (by decide) (by decide) rfl (fun w => (Step.pure (by kernel_rfl))) ?_
       refine TW.read (v := (Value.int .u64 x68.epoch)) rfl (by decide) (by decide) rfl (fun A w M => (Step.loadE (k := 2) Try.sc23 (flat_ec (own_slAt (M.chunk 1 rfl).inv) hx68 pinE_len) (by decide) rfl rfl)) ?_
       refine TW.pure (v := (Value.bool false)) rfl (by decide) (by decide) rfl (fun w => (Step.cast (congrArg Value.bool h70) (Step.pure (by kernel_rfl)))) ?_
       refine TW.pure (v := (Value.bool false)) rfl (by decide) (by decide) rfl (fun w => (Step.move rfl)) ?_
       refine TW.skip rfl rfl ?_
       refine TW.skip rfl rfl ?_
       refine TW.skip rfl rfl ?_
       refine TW.skip rfl rfl ?_
       refine TW.skip rfl rfl ?_
       refine TW.skip rfl rfl ?_
       refine TW.skip rfl rfl ?_
       refine TW.skip rfl rfl ?_
       refine TW.skip rfl rfl ?_
       refine TW.skip rfl rfl ?_
       refine TW.skip rfl rfl ?_
       refine TW.pure (v := (Value.bool false)) rfl (by decide) (by decide) rfl (fun w => (Step.pick (t := false) rfl rfl)) ?_
       refine TW.pure (v := (Value.bool false)) rfl (by decide) (by decide) rfl (fun w => (Step.pick (t := false) rfl rfl)) ?_
       refine TW.done (fun w72 M => ?_)
       refine W.cond (t := false) rfl (fun h => by cases h) (fun _ => ?_)
       refine W.skip ?_
       refine W.region rfl ?_
       refine WL.step (v := (Value.int .i64 ↑k_)) rfl (Step.move rfl) ?_
       refine WL.step (v := (Value.int .i64 (↑k_ + 1))) rfl (Step.add rfl rfl (wrap_i64 (by omega))) ?_
       refine WL.step (v := (Value.int .i64 (↑k_ + 1))) rfl (Step.assign rfl) ?_
       refine WL.nil ?_
       exact ⟨_, (by omega), k_ + 1, ⟨(by omega), rfl⟩, ⟨rfl, rfl, rfl, rfl, rfl, rfl, rfl, rfl, rfl, rfl, rfl, rfl, rfl, rfl, rfl, rfl, rfl, rfl, rfl, rfl, rfl, rfl, rfl, rfl, rfl, rfl, rfl, rfl, rfl, rfl, rfl, rfl, rfl, rfl, rfl, rfl, rfl, rfl, rfl, rfl, rfl, rfl, rfl, rfl, rfl, rfl, rfl, rfl, rfl, rfl, rfl, rfl, rfl, rfl, rfl, rfl, rfl⟩, M⟩
     ·
      have h65p := of_decide_eq_false h65
      refine W.exit ?_
      refine thn_exit ?_
      refine thn_exit ?_
      refine inBlk_hit ?_
      refine W.seq' ?_
      refine W.region rfl ?_
      refine WL.step (v := v18) rfl (Step.move rfl) ?_
      refine WL.step (v := (Value.int .i64 (↑((sortP ps_).length)))) rfl (Step.lenSl Try.un33 rfl (own_slAt (M.chunk 3 rfl).inv)) ?_
      refine WL.step (v := v58) rfl (Step.move rfl) ?_
      refine WL.step (v := (Value.int .i64 (↑((sortP ps2_).length)))) rfl (Step.lenSl Try.un33 rfl (own_slAt (M.chunk 0 rfl).inv)) ?_
      refine WL.step (v := (Value.int .i64 (↑((sortP ps2_).length) + 1))) rfl (Step.add rfl rfl (wrap_i64 (by omega))) ?_
      refine WL.step (v := (Value.bool false)) rfl (Step.cast (congrArg Value.bool (show (decide ((↑((sortP ps_).length) : Int) > (↑((sortP ps2_).length) + 1 : Int))) = false by rw [decide_eq_false_iff_not]; omega)) (Step.pure (by kernel_rfl))) ?_
      refine WL.nil ?_
      refine W.cond (t := false) rfl (fun h => by cases h) (fun _ => ?_)
      refine W.skip ?_
      refine W.region rfl ?_
      refine WL.step (v := (Value.int .i64 ↑i_)) rfl (Step.move rfl) ?_
      refine WL.step (v := (Value.int .i64 (↑i_ + 1))) rfl (Step.add rfl rfl (wrap_i64 (by omega))) ?_
      refine WL.step (v := (Value.int .i64 (↑i_ + 1))) rfl (Step.assign rfl) ?_
      refine WL.nil ?_
      replace M := M.sel (L' := [blk zb7 (.cells #[(Value.map (some zm8)), (Value.int .u64 fo_)] 87), mapP zm8 ps2_]) [1, 2] rfl (by decide)
      exact ⟨_, (by omega), i_ + 1, ps2_, fo_, now2_, ⟨(by omega), hFl2_, (by omega), (by omega), rfl⟩, ⟨rfl, rfl, rfl, rfl, rfl, rfl⟩, M⟩
    ·
     have h54p : ¬ (pickI a24.do_ 6 : Int) = (3 : Int) := by simpa using h54
     refine W.seq' ?_
     refine W.seq' ?_
     refine W.region rfl ?_
     refine WL.step (v := (Value.bool ((pickI a24.do_ 6 : Int) == (4 : Int)))) rfl (Step.pure (by kernel_rfl)) ?_
     refine WL.step (v := (Value.bool ((pickI a24.do_ 6 : Int) == (4 : Int)))) rfl (Step.assign rfl) ?_
     refine WL.nil ?_
     refine W.cond (t := (pickI a24.do_ 6 : Int) == (4 : Int)) rfl (fun h73 => ?_) (fun h73 => ?_)
     ·
      have h73p : (pickI a24.do_ 6 : Int) = (4 : Int) := by simpa using h73
      refine W.skip ?_
      refine W.cond (t := (pickI a24.do_ 6 : Int) == (4 : Int)) rfl (fun h74 => ?_) (fun h74 => ?_)
      ·
       refine W.seq' ?_
       refine W.region rfl ?_
       refine WL.step (v := (Value.pointer (some ⟨zb7, 0, none⟩))) rfl (Step.move rfl) ?_
       refine WL.step (v := (Value.int .u64 now2_)) rfl (Step.move rfl) ?_
       refine WL.callX rfl (hz_raise zb7 zm8 ps_ fo_ now2_ (M.enterW (C := [blk zb7 (.cells #[(Value.map (some zm8)), (Value.int .u64 fo_)] 87), mapP zm8 ps_]) (D := [blk b27 (.cells #[(Value.int .i64 a24.do_), lv25, (Value.int .u8 a24.p.sort), (Value.int .u64 a24.p.id), (Value.int .u64 a24.p.epoch), (Value.int .u64 a24.now)] 37), own 35 3 v18 ((sortP ps_).length) ((sortP ps_).flatMap pinE)]) [2, 3, 0, 1] rfl (by decide) trivial)) (CallsF.func Try.en27 rfl) ?_
       rintro _ w75 ⟨rfl, m⟩
       replace M := M.leaveW (C := [blk zb7 (.cells #[(Value.map (some zm8)), (Value.int .u64 fo_)] 87), mapP zm8 ps_]) (D := [blk b27 (.cells #[(Value.int .i64 a24.do_), lv25, (Value.int .u8 a24.p.sort), (Value.int .u64 a24.p.id), (Value.int .u64 a24.p.epoch), (Value.int .u64 a24.now)] 37), own 35 3 v18 ((sortP ps_).length) ((sortP ps_).flatMap pinE)]) [2, 3, 0, 1] rfl (by decide) m
       clear m
       replace M : Mem _ _ _ [blk zb7 (.cells #[(Value.map (some zm8)), (Value.int .u64 (max (fo_ : Int) (minE now2_ ps_ : Int)))] 87), mapP zm8 ps_, blk b27 (.cells #[(Value.int .i64 a24.do_), lv25, (Value.int .u8 a24.p.sort), (Value.int .u64 a24.p.id), (Value.int .u64 a24.p.epoch), (Value.int .u64 a24.now)] 37), own 35 3 v18 ((sortP ps_).length) ((sortP ps_).flatMap pinE)] [EC v 6 i_ [(Value.int .i64 a24.do_), lv25, (Value.int .u8 a24.p.sort), (Value.int .u64 a24.p.id), (Value.int .u64 a24.p.epoch), (Value.int .u64 a24.now)], SlAt 3 lv25 a24.l.length (a24.l.flatMap pinE), SlAt 6 v l.length cs3, RepL HActT cs3 l, RepS HActT v l] _ := M
       have hFl2_ : FlI ps_ (max (fo_ : Int) (minE now2_ ps_ : Int)) now2_ := hFl1_.raise
       have hln_ := Nat.le_succ ps_.length
       have hdl_ := Nat.le_succ ps_.length
       have hap2_ := hFl2_.apart
       have hsb_ := sortP_len hap2_
       have hfl2_ := hFl2_.floor
       refine WL.step (v := (Value.pointer (some ⟨zb7, 0, none⟩))) rfl (Step.move rfl) ?_
       refine WL.callX rfl (hz_floor zb7 zm8 ps_ (max (fo_ : Int) (minE now2_ ps_ : Int)) (M.enterW (C := [blk zb7 (.cells #[(Value.map (some zm8)), (Value.int .u64 (max (fo_ : Int) (minE now2_ ps_ : Int)))] 87), mapP zm8 ps_]) (D := [blk b27 (.cells #[(Value.int .i64 a24.do_), lv25, (Value.int .u8 a24.p.sort), (Value.int .u64 a24.p.id), (Value.int .u64 a24.p.epoch), (Value.int .u64 a24.now)] 37), own 35 3 v18 ((sortP ps_).length) ((sortP ps_).flatMap pinE)]) [0, 1, 2, 3] rfl (by decide) trivial)) (CallsF.func Try.en17 rfl) ?_
       rintro _ w76 ⟨rfl, m⟩
       replace M := M.leaveW (C := [blk zb7 (.cells #[(Value.map (some zm8)), (Value.int .u64 (max (fo_ : Int) (minE now2_ ps_ : Int)))] 87), mapP zm8 ps_]) (D := [blk b27 (.cells #[(Value.int .i64 a24.do_), lv25, (Value.int .u8 a24.p.sort), (Value.int .u64 a24.p.id), (Value.int .u64 a24.p.epoch), (Value.int .u64 a24.now)] 37), own 35 3 v18 ((sortP ps_).length) ((sortP ps_).flatMap pinE)]) [0, 1, 2, 3] rfl (by decide) m
       replace M := M.sel (L' := [blk zb7 (.cells #[(Value.map (some zm8)), (Value.int .u64 (max (fo_ : Int) (minE now2_ ps_ : Int)))] 87), mapP zm8 ps_, blk b27 (.cells #[(Value.int .i64 a24.do_), lv25, (Value.int .u8 a24.p.sort), (Value.int .u64 a24.p.id), (Value.int .u64 a24.p.epoch), (Value.int .u64 a24.now)] 37), own 35 3 v18 ((sortP ps_).length) ((sortP ps_).flatMap pinE)]) [0, 1, 2, 3] rfl (by decide)
       clear m
       replace M : Mem _ _ _ [blk zb7 (.cells #[(Value.map (some zm8)), (Value.int .u64 (max (fo_ : Int) (minE now2_ ps_ : Int)))] 87), mapP zm8 ps_, blk b27 (.cells #[(Value.int .i64 a24.do_), lv25, (Value.int .u8 a24.p.sort), (Value.int .u64 a24.p.id), (Value.int .u64 a24.p.epoch), (Value.int .u64 a24.now)] 37), own 35 3 v18 ((sortP ps_).length) ((sortP ps_).flatMap pinE)] [EC v 6 i_ [(Value.int .i64 a24.do_), lv25, (Value.int .u8 a24.p.sort), (Value.int .u64 a24.p.id), (Value.int .u64 a24.p.epoch), (Value.int .u64 a24.now)], SlAt 3 lv25 a24.l.length (a24.l.flatMap pinE), SlAt 6 v l.length cs3, RepL HActT cs3 l, RepS HActT v l] _ := M
       replace M := M.sel (L' := [blk zb7 (.cells #[(Value.map (some zm8)), (Value.int .u64 (max (fo_ : Int) (minE now2_ ps_ : Int)))] 87), mapP zm8 ps_, own 35 3 v18 ((sortP ps_).length) ((sortP ps_).flatMap pinE)]) [0, 1, 3] rfl (by decide)
       replace M : Mem _ _ _ [blk zb7 (.cells #[(Value.map (some zm8)), (Value.int .u64 (max (fo_ : Int) (minE now2_ ps_ : Int)))] 87), mapP zm8 ps_, own 35 3 v18 ((sortP ps_).length) ((sortP ps_).flatMap pinE)] [EC v 6 i_ [(Value.int .i64 a24.do_), lv25, (Value.int .u8 a24.p.sort), (Value.int .u64 a24.p.id), (Value.int .u64 a24.p.epoch), (Value.int .u64 a24.now)], SlAt 3 lv25 a24.l.length (a24.l.flatMap pinE), SlAt 6 v l.length cs3, RepL HActT cs3 l, RepS HActT v l] _ := M
       replace M := M.sub (List.Sublist.refl _) (R' := [SlAt 6 v l.length cs3, RepL HActT cs3 l, RepS HActT v l]) (fun r h => (List.mem_cons_of_mem _ (List.mem_cons_of_mem _ h)))
       replace M : Mem _ _ _ [blk zb7 (.cells #[(Value.map (some zm8)), (Value.int .u64 (max (fo_ : Int) (minE now2_ ps_ : Int)))] 87), mapP zm8 ps_, own 35 3 v18 ((sortP ps_).length) ((sortP ps_).flatMap pinE)] [SlAt 6 v l.length cs3, RepL HActT cs3 l, RepS HActT v l] _ := M
       refine WL.step (v := (Value.bool false)) rfl (Step.cast (congrArg Value.bool (show ((max (fo_ : Int) (minE now2_ ps_ : Int) : Int) != ((max (fo_ : Int) (minE now2_ ps_ : Int)) : Int)) = false by simp)) (Step.pure (by kernel_rfl))) ?_
       refine WL.nil ?_
       refine W.cond (t := false) rfl (fun h => by cases h) (fun _ => ?_)
       refine W.skip ?_
       refine W.seq' ?_
       refine W.seq' ?_
       refine W.region rfl ?_
       refine WL.step (v := (Value.pointer (some ⟨zb7, 0, none⟩))) rfl (Step.move rfl) ?_
       refine WL.callX rfl (hz_floor zb7 zm8 ps_ (max (fo_ : Int) (minE now2_ ps_ : Int)) (M.enterW (C := [blk zb7 (.cells #[(Value.map (some zm8)), (Value.int .u64 (max (fo_ : Int) (minE now2_ ps_ : Int)))] 87), mapP zm8 ps_]) (D := [own 35 3 v18 ((sortP ps_).length) ((sortP ps_).flatMap pinE)]) [0, 1, 2] rfl (by decide) trivial)) (CallsF.func Try.en17 rfl) ?_
       rintro _ w77 ⟨rfl, m⟩
       replace M := M.leaveW (C := [blk zb7 (.cells #[(Value.map (some zm8)), (Value.int .u64 (max (fo_ : Int) (minE now2_ ps_ : Int)))] 87), mapP zm8 ps_]) (D := [own 35 3 v18 ((sortP ps_).length) ((sortP ps_).flatMap pinE)]) [0, 1, 2] rfl (by decide) m
       replace M := M.sel (L' := [blk zb7 (.cells #[(Value.map (some zm8)), (Value.int .u64 (max (fo_ : Int) (minE now2_ ps_ : Int)))] 87), mapP zm8 ps_, own 35 3 v18 ((sortP ps_).length) ((sortP ps_).flatMap pinE)]) [0, 1, 2] rfl (by decide)
       clear m
       replace M : Mem _ _ _ [blk zb7 (.cells #[(Value.map (some zm8)), (Value.int .u64 (max (fo_ : Int) (minE now2_ ps_ : Int)))] 87), mapP zm8 ps_, own 35 3 v18 ((sortP ps_).length) ((sortP ps_).flatMap pinE)] [SlAt 6 v l.length cs3, RepL HActT cs3 l, RepS HActT v l] _ := M
       refine WL.step (v := (Value.int .u64 fo_)) rfl (Step.move rfl) ?_
       refine WL.step (v := (Value.bool false)) rfl (Step.cast (congrArg Value.bool (show (decide (((max (fo_ : Int) (minE now2_ ps_ : Int)) : Int) < (fo_ : Int))) = false by rw [decide_eq_false_iff_not]; omega)) (Step.pure (by kernel_rfl))) ?_
       refine WL.step (v := (Value.bool false)) rfl (Step.move rfl) ?_
       refine WL.step (v := (Value.pointer (some ⟨zb7, 0, none⟩))) rfl (Step.move rfl) ?_
       refine WL.callX rfl (hz_floor zb7 zm8 ps_ (max (fo_ : Int) (minE now2_ ps_ : Int)) (M.enterW (C := [blk zb7 (.cells #[(Value.map (some zm8)), (Value.int .u64 (max (fo_ : Int) (minE now2_ ps_ : Int)))] 87), mapP zm8 ps_]) (D := [own 35 3 v18 ((sortP ps_).length) ((sortP ps_).flatMap pinE)]) [0, 1, 2] rfl (by decide) trivial)) (CallsF.func Try.en17 rfl) ?_
       rintro _ w78 ⟨rfl, m⟩
       replace M := M.leaveW (C := [blk zb7 (.cells #[(Value.map (some zm8)), (Value.int .u64 (max (fo_ : Int) (minE now2_ ps_ : Int)))] 87), mapP zm8 ps_]) (D := [own 35 3 v18 ((sortP ps_).length) ((sortP ps_).flatMap pinE)]) [0, 1, 2] rfl (by decide) m
       replace M := M.sel (L' := [blk zb7 (.cells #[(Value.map (some zm8)), (Value.int .u64 (max (fo_ : Int) (minE now2_ ps_ : Int)))] 87), mapP zm8 ps_, own 35 3 v18 ((sortP ps_).length) ((sortP ps_).flatMap pinE)]) [0, 1, 2] rfl (by decide)
       clear m
       replace M : Mem _ _ _ [blk zb7 (.cells #[(Value.map (some zm8)), (Value.int .u64 (max (fo_ : Int) (minE now2_ ps_ : Int)))] 87), mapP zm8 ps_, own 35 3 v18 ((sortP ps_).length) ((sortP ps_).flatMap pinE)] [SlAt 6 v l.length cs3, RepL HActT cs3 l, RepS HActT v l] _ := M
       refine WL.step (v := (Value.int .u64 now2_)) rfl (Step.move rfl) ?_
       refine WL.step (v := (Value.bool false)) rfl (Step.cast (congrArg Value.bool (show (decide (((max (fo_ : Int) (minE now2_ ps_ : Int)) : Int) > (now2_ : Int))) = false by rw [decide_eq_false_iff_not]; omega)) (Step.pure (by kernel_rfl))) ?_
       refine WL.step (v := (Value.bool false)) rfl (Step.pick (t := false) rfl rfl) ?_
       refine WL.nil ?_
       refine W.cond (t := false) rfl (fun h => by cases h) (fun _ => ?_)
       refine W.skip ?_
       refine W.seq' ?_
       refine W.region rfl ?_
       refine WL.step (v := (Value.pointer (some ⟨zb7, 0, none⟩))) rfl (Step.move rfl) ?_
       refine WL.callX rfl (hz_pins zb7 zm8 ps_ (max (fo_ : Int) (minE now2_ ps_ : Int)) (by first | omega | (simp; done)) (by assumption) (M.enterW (C := [blk zb7 (.cells #[(Value.map (some zm8)), (Value.int .u64 (max (fo_ : Int) (minE now2_ ps_ : Int)))] 87), mapP zm8 ps_]) (D := [own 35 3 v18 ((sortP ps_).length) ((sortP ps_).flatMap pinE)]) [0, 1, 2] rfl (by decide) trivial)) (CallsF.func Try.en14 rfl) ?_
       rintro v79 w80 ⟨_, rfl, m⟩
       replace M := M.leaveW (C := [blk zb7 (.cells #[(Value.map (some zm8)), (Value.int .u64 (max (fo_ : Int) (minE now2_ ps_ : Int)))] 87), mapP zm8 ps_]) (D := [own 35 3 v18 ((sortP ps_).length) ((sortP ps_).flatMap pinE)]) [0, 1, 2] rfl (by decide) m
       replace M := M.sel (L' := [own 35 3 v79 ((sortP ps_).length) ((sortP ps_).flatMap pinE), blk zb7 (.cells #[(Value.map (some zm8)), (Value.int .u64 (max (fo_ : Int) (minE now2_ ps_ : Int)))] 87), mapP zm8 ps_, own 35 3 v18 ((sortP ps_).length) ((sortP ps_).flatMap pinE)]) [2, 0, 1, 3] rfl (by decide)
       clear m
       replace M : Mem _ _ _ [own 35 3 v79 ((sortP ps_).length) ((sortP ps_).flatMap pinE), blk zb7 (.cells #[(Value.map (some zm8)), (Value.int .u64 (max (fo_ : Int) (minE now2_ ps_ : Int)))] 87), mapP zm8 ps_, own 35 3 v18 ((sortP ps_).length) ((sortP ps_).flatMap pinE)] [SlAt 6 v l.length cs3, RepL HActT cs3 l, RepS HActT v l] _ := M
       have sl81 : IsSl v79 := SlAt.isSl (own_slAt (Mem.chunk M 0 rfl).inv)
       have hle82 := SlAt.le' (own_slAt (Mem.chunk M 0 rfl).inv)
       refine WL.step (v := v79) rfl (Step.assign rfl) ?_
       refine WL.nil ?_
       refine W.seq' ?_
       refine W.seq' ?_
       refine W.region rfl ?_
       refine WL.step (v := (Value.int .i64 0)) rfl (Step.assign rfl) ?_
       refine WL.nil ?_
       refine W.block ?_
       refine W.loop (fun kk ρ w' => ∃ (k_ : Nat), ((k_ ≤ (sortP ps_).length) ∧ kk = (sortP ps_).length - k_) ∧ ρ.has [(0, v), (3, (Value.pointer (some ⟨zb7, 0, none⟩))), (4, (Value.int .u64 now2_)), (5, (Value.int .i64 ↑i_)), (6, (Value.int .u64 fo_)), (7, v18), (8, (Value.pointer (some ⟨b27, 0, none⟩))), (14, v79), (15, (Value.int .i64 ↑k_)), (25, (Value.int .i64 ↑i_)), (26, v), (27, (Value.int .i64 ↑l.length)), (28, (Value.bool (decide ((↑i_ : Int) < (↑l.length : Int))))), (31, (Value.pointer (some ⟨zb7, 0, none⟩))), (32, (Value.int .u64 fo_)), (33, (Value.pointer (some ⟨zb7, 0, none⟩))), (34, v18), (35, (Value.int .u64 now_)), (36, v), (37, (Value.int .i64 ↑i_)), (38, (Value.pointer (some ⟨(sBlk v), sOff v + i_ * 6, none⟩))), (39, (Value.pointer (some ⟨(sBlk v), sOff v + i_ * 6 + 5, none⟩))), (40, (Value.int .u64 a24.now)), (41, (Value.int .u64 ((a24.now : Int) % 1048576))), (42, (Value.int .u64 now2_)), (43, v), (44, (Value.int .i64 ↑i_)), (45, (Value.pointer (some ⟨(sBlk v), sOff v + i_ * 6, none⟩))), (46, (Value.agg #[(Value.int .i64 a24.do_), lv25, (Value.int .u8 a24.p.sort), (Value.int .u64 a24.p.id), (Value.int .u64 a24.p.epoch), (Value.int .u64 a24.now)])), (47, (Value.pointer (some ⟨b27, 0, none⟩))), (48, (Value.int .i64 a24.do_)), (49, (Value.int .i64 (pickI a24.do_ 6))), (84, (Value.bool ((pickI a24.do_ 6 : Int) == (2 : Int)))), (85, (Value.bool ((pickI a24.do_ 6 : Int) == (2 : Int)))), (96, (Value.bool ((pickI a24.do_ 6 : Int) == (3 : Int)))), (97, (Value.bool ((pickI a24.do_ 6 : Int) == (3 : Int)))), (106, (Value.bool ((pickI a24.do_ 6 : Int) == (4 : Int)))), (107, (Value.bool ((pickI a24.do_ 6 : Int) == (4 : Int)))), (109, (Value.pointer (some ⟨zb7, 0, none⟩))), (110, (Value.int .u64 now2_)), (111, (Value.int .u64 (max (fo_ : Int) (minE now2_ ps_ : Int)))), (112, (Value.pointer (some ⟨zb7, 0, none⟩))), (113, (Value.int .u64 (max (fo_ : Int) (minE now2_ ps_ : Int)))), (114, (Value.bool false)), (115, (Value.pointer (some ⟨zb7, 0, none⟩))), (116, (Value.int .u64 (max (fo_ : Int) (minE now2_ ps_ : Int)))), (117, (Value.int .u64 fo_)), (118, (Value.bool false)), (119, (Value.bool false)), (120, (Value.pointer (some ⟨zb7, 0, none⟩))), (121, (Value.int .u64 (max (fo_ : Int) (minE now2_ ps_ : Int)))), (122, (Value.int .u64 now2_)), (123, (Value.bool false)), (124, (Value.bool false)), (125, (Value.pointer (some ⟨zb7, 0, none⟩))), (126, v79)] ∧ Mem G (fun _ => False) w [own 35 3 v79 ((sortP ps_).length) ((sortP ps_).flatMap pinE), blk zb7 (.cells #[(Value.map (some zm8)), (Value.int .u64 (max (fo_ : Int) (minE now2_ ps_ : Int)))] 87), mapP zm8 ps_, own 35 3 v18 ((sortP ps_).length) ((sortP ps_).flatMap pinE)] [SlAt 6 v l.length cs3, RepL HActT cs3 l, RepS HActT v l]  w') _ ⟨0, ⟨(Nat.zero_le _), rfl⟩, ⟨rfl, rfl, rfl, rfl, rfl, rfl, rfl, rfl, rfl, rfl, rfl, rfl, rfl, rfl, rfl, rfl, rfl, rfl, rfl, rfl, rfl, rfl, rfl, rfl, rfl, rfl, rfl, rfl, rfl, rfl, rfl, rfl, rfl, rfl, rfl, rfl, rfl, rfl, rfl, rfl, rfl, rfl, rfl, rfl, rfl, rfl, rfl, rfl, rfl, rfl, rfl, rfl, rfl, rfl, rfl, rfl, rfl, rfl⟩, M⟩ ?_
       rintro _ ρ84 w83 ⟨k_, ⟨hi85, rfl⟩, hρ, M⟩
       obtain ⟨ρ84, rfl⟩ := hρ.know
       clear hρ
       refine W.seq' ?_
       refine W.seq' ?_
       refine W.region rfl ?_
       refine WL.step (v := (Value.int .i64 ↑k_)) rfl (Step.move rfl) ?_
       refine WL.step (v := v79) rfl (Step.move rfl) ?_
       refine WL.step (v := (Value.int .i64 (↑((sortP ps_).length)))) rfl (Step.lenSl Try.un33 rfl (own_slAt (M.chunk 0 rfl).inv)) ?_
       refine WL.step (v := (Value.bool (decide ((↑k_ : Int) < (↑((sortP ps_).length) : Int))))) rfl (Step.pure (by kernel_rfl)) ?_
       refine WL.nil ?_
       refine W.cond (t := decide ((↑k_ : Int) < (↑((sortP ps_).length) : Int))) rfl (fun h86 => ?_) (fun h86 => ?_)
       ·
        have h86p := of_decide_eq_true h86
        refine W.skip ?_
        refine W.seq' ?_
        refine W.block ?_
        refine W.seq' ?_
        refine W.region rfl ?_
        refine WL.step (v := (Value.pointer (some ⟨zb7, 0, none⟩))) rfl (Step.move rfl) ?_
        refine WL.step (v := v79) rfl (Step.move rfl) ?_
        refine WL.step (v := (Value.int .i64 ↑k_)) rfl (Step.move rfl) ?_
        obtain ⟨cap88, hb87⟩ := SlAt.base (own_slAt (M.chunk 0 rfl).inv) (by omega)
        refine WL.step (v := (Value.pointer (some ⟨(sBlk v79), sOff v79 + k_ * 3, none⟩))) rfl (Step.indexAddr (i := k_) (Try.un33).run Try.el35.sized rfl rfl (by omega) hb87 (by omega)) ?_
        refine WL.step (v := (Value.pointer (some ⟨(sBlk v79), sOff v79 + k_ * 3 + 2, none⟩))) rfl (Step.pure (by kernel_rfl)) ?_
        obtain ⟨x89, hx89⟩ := elem_of_lt (xs := sortP ps_) (i := k_) (by omega)
        have hm_ := (sortP_mem hap2_).1 (List.mem_of_getElem? hx89)
        have hlo_ := hFl2_.low _ hm_
        refine WL.step (v := (Value.int .u64 x89.epoch)) rfl (Step.loadE (k := 2) Try.sc23 (flat_ec (own_slAt (M.chunk 0 rfl).inv) hx89 pinE_len) (by decide) rfl rfl) ?_
        refine WL.step (v := (Value.int .u64 now2_)) rfl (Step.move rfl) ?_
        refine WL.callX rfl (hz_read zb7 zm8 ps_ (max (fo_ : Int) (minE now2_ ps_ : Int)) x89.epoch now2_ (M.enterW (C := [blk zb7 (.cells #[(Value.map (some zm8)), (Value.int .u64 (max (fo_ : Int) (minE now2_ ps_ : Int)))] 87), mapP zm8 ps_]) (D := [own 35 3 v79 ((sortP ps_).length) ((sortP ps_).flatMap pinE), own 35 3 v18 ((sortP ps_).length) ((sortP ps_).flatMap pinE)]) [1, 2, 0, 3] rfl (by decide) trivial)) (CallsF.func Try.en22 rfl) ?_
        rintro _ w90 ⟨rfl, m⟩
        replace M := M.leaveW (C := [blk zb7 (.cells #[(Value.map (some zm8)), (Value.int .u64 (max (fo_ : Int) (minE now2_ ps_ : Int)))] 87), mapP zm8 ps_]) (D := [own 35 3 v79 ((sortP ps_).length) ((sortP ps_).flatMap pinE), own 35 3 v18 ((sortP ps_).length) ((sortP ps_).flatMap pinE)]) [1, 2, 0, 3] rfl (by decide) m
        replace M := M.sel (L' := [own 35 3 v79 ((sortP ps_).length) ((sortP ps_).flatMap pinE), blk zb7 (.cells #[(Value.map (some zm8)), (Value.int .u64 (max (fo_ : Int) (minE now2_ ps_ : Int)))] 87), mapP zm8 ps_, own 35 3 v18 ((sortP ps_).length) ((sortP ps_).flatMap pinE)]) [2, 0, 1, 3] rfl (by decide)
        clear m
        replace M : Mem _ _ _ [own 35 3 v79 ((sortP ps_).length) ((sortP ps_).flatMap pinE), blk zb7 (.cells #[(Value.map (some zm8)), (Value.int .u64 (max (fo_ : Int) (minE now2_ ps_ : Int)))] 87), mapP zm8 ps_, own 35 3 v18 ((sortP ps_).length) ((sortP ps_).flatMap pinE)] [SlAt 6 v l.length cs3, RepL HActT cs3 l, RepS HActT v l] _ := M
        refine WL.step (v := (Value.tuple #[(Value.int .u64 ((readV (max (fo_ : Int) (minE now2_ ps_ : Int)) x89.epoch now2_).1)), (Value.int .i64 ((readV (max (fo_ : Int) (minE now2_ ps_ : Int)) x89.epoch now2_).2))])) rfl (Step.move rfl) ?_
        refine WL.step (v := (Value.int .u64 ((readV (max (fo_ : Int) (minE now2_ ps_ : Int)) x89.epoch now2_).1))) rfl (Step.pure (by kernel_rfl)) ?_
        refine WL.step (v := (Value.int .i64 ((readV (max (fo_ : Int) (minE now2_ ps_ : Int)) x89.epoch now2_).2))) rfl (Step.pure (by kernel_rfl)) ?_
        refine WL.step (v := (Value.int .u64 ((readV (max (fo_ : Int) (minE now2_ ps_ : Int)) x89.epoch now2_).1))) rfl (Step.assign rfl) ?_
        refine WL.step (v := (Value.int .i64 ((readV (max (fo_ : Int) (minE now2_ ps_ : Int)) x89.epoch now2_).2))) rfl (Step.assign rfl) ?_
        refine WL.nil ?_
        refine W.seq' ?_
        rcases Bool.eq_false_or_eq_true (decide ((x89.epoch : Int) > (0 : Int))) with h91 | h91
        ·
         have h91p := of_decide_eq_true h91
         refine W.drawn M [0, 1, 2, 3, 4, 5, 6, 7, 8, 9, 10, 11, 12, 13, 14, 15, 16, 17, 18, 19, 20, 21, 22, 23, 24, 25, 26, 27, 28] [6] [] [own 35 3 v79 ((sortP ps_).length) ((sortP ps_).flatMap pinE), blk zb7 (.cells #[(Value.map (some zm8)), (Value.int .u64 (max (fo_ : Int) (minE now2_ ps_ : Int)))] 87), mapP zm8 ps_, own 35 3 v18 ((sortP ps_).length) ((sortP ps_).flatMap pinE)] [SlAt 6 v l.length cs3, RepL HActT cs3 l, RepS HActT v l] (List.Sublist.cons_cons _ (List.Sublist.cons_cons _ (List.Sublist.cons_cons _ (List.Sublist.cons_cons _ List.Sublist.slnil)))) (fun _ h => h) Try.mixed (by kernel_rfl) ?_
         refine TW.pure (v := v79) rfl (by decide) (by decide) rfl (fun w => (Step.move rfl)) ?_
         refine TW.pure (v := (Value.int .i64 ↑k_)) rfl (by decide) (by decide) rfl (fun w => (Step.move rfl)) ?_
         refine TW.pure (v := (Value.pointer (some ⟨(sBlk v79), sOff v79 + k_ * 3, none⟩))) rfl (by decide) (by decide) rfl (fun w => (Step.indexAddr (i := k_) (Try.un33).run Try.el35.sized rfl rfl (by omega) hb87 (by omega))) ?_
         refine TW.pure (v := (Value.pointer (some ⟨(sBlk v79), sOff v79 + k_ * 3 + 2, none⟩))) rfl (by decide) (by decide) rfl (fun w => (Step.pure (by kernel_rfl))) ?_
         refine TW.read (v := (Value.int .u64 x89.epoch)) rfl (by decide) (by decide) rfl (fun A w M => (Step.loadE (k := 2) Try.sc23 (flat_ec (own_slAt (M.chunk 1 rfl).inv) hx89 pinE_len) (by decide) rfl rfl)) ?_
         refine TW.pure (v := (Value.pointer (some ⟨zb7, 0, none⟩))) rfl (by decide) (by decide) rfl (fun w => (Step.move rfl)) ?_
         refine TW.callX (ι := Unit) (fun jx v_ => v_ = (Value.int .u64 (max (fo_ : Int) (minE now2_ ps_ : Int)))) (fun jx => [own 35 3 v79 ((sortP ps_).length) ((sortP ps_).flatMap pinE), blk zb7 (.cells #[(Value.map (some zm8)), (Value.int .u64 (max (fo_ : Int) (minE now2_ ps_ : Int)))] 87), mapP zm8 ps_, own 35 3 v18 ((sortP ps_).length) ((sortP ps_).flatMap pinE)]) (fun jx => [SlAt 6 v l.length cs3, RepL HActT cs3 l, RepS HActT v l]) rfl (by decide) rfl (fun jx => (List.Sublist.cons_cons _ (List.Sublist.cons_cons _ (List.Sublist.cons_cons _ (List.Sublist.cons_cons _ List.Sublist.slnil))))) (fun jx r h => h) (fun A w M => Rets.mono (hz_floor zb7 zm8 ps_ (max (fo_ : Int) (minE now2_ ps_ : Int)) (M.enterW (C := [blk zb7 (.cells #[(Value.map (some zm8)), (Value.int .u64 (max (fo_ : Int) (minE now2_ ps_ : Int)))] 87), mapP zm8 ps_]) (D := [fl A, own 35 3 v79 ((sortP ps_).length) ((sortP ps_).flatMap pinE), own 35 3 v18 ((sortP ps_).length) ((sortP ps_).flatMap pinE)]) [2, 3, 0, 1, 4] rfl (by decide) trivial)) (fun v_ w_ ⟨e_, m⟩ => ⟨(), e_, (M.leaveW (C := [blk zb7 (.cells #[(Value.map (some zm8)), (Value.int .u64 (max (fo_ : Int) (minE now2_ ps_ : Int)))] 87), mapP zm8 ps_]) (D := [fl A, own 35 3 v79 ((sortP ps_).length) ((sortP ps_).flatMap pinE), own 35 3 v18 ((sortP ps_).length) ((sortP ps_).flatMap pinE)]) [2, 3, 0, 1, 4] rfl (by decide) m).sel (L' := [fl A, own 35 3 v79 ((sortP ps_).length) ((sortP ps_).flatMap pinE), blk zb7 (.cells #[(Value.map (some zm8)), (Value.int .u64 (max (fo_ : Int) (minE now2_ ps_ : Int)))] 87), mapP zm8 ps_, own 35 3 v18 ((sortP ps_).length) ((sortP ps_).flatMap pinE)]) [2, 3, 0, 1, 4] rfl (by decide), fun b hb => M.keptW (C := [blk zb7 (.cells #[(Value.map (some zm8)), (Value.int .u64 (max (fo_ : Int) (minE now2_ ps_ : Int)))] 87), mapP zm8 ps_]) (D := [fl A, own 35 3 v79 ((sortP ps_).length) ((sortP ps_).flatMap pinE), own 35 3 v18 ((sortP ps_).length) ((sortP ps_).flatMap pinE)]) [2, 3, 0, 1, 4] rfl (by decide) m (fl A) (List.mem_cons_self ..) b hb⟩)) (fun w => CallsF.func Try.en17 rfl) (fun jx v hp hin => ?_)
         replace hp := hp.symm; subst hp
         clear hin
         change TW _ _ _ _ _ _ _ _ (MemA _ _ _ [own 35 3 v79 ((sortP ps_).length) ((sortP ps_).flatMap pinE), blk zb7 (.cells #[(Value.map (some zm8)), (Value.int .u64 (max (fo_ : Int) (minE now2_ ps_ : Int)))] 87), mapP zm8 ps_, own 35 3 v18 ((sortP ps_).length) ((sortP ps_).flatMap pinE)] [SlAt 6 v l.length cs3, RepL HActT cs3 l, RepS HActT v l])
         refine TW.pure (v := (Value.bool false)) rfl (by decide) (by decide) rfl (fun w => (Step.cast (congrArg Value.bool (show (decide ((x89.epoch : Int) < ((max (fo_ : Int) (minE now2_ ps_ : Int)) : Int))) = false by rw [decide_eq_false_iff_not]; omega)) (Step.pure (by kernel_rfl)))) ?_
         refine TW.pure (v := (Value.bool false)) rfl (by decide) (by decide) rfl (fun w => (Step.move rfl)) ?_
         refine TW.pure (v := v79) rfl (by decide) (by decide) rfl (fun w => (Step.move rfl)) ?_
         refine TW.pure (v := (Value.int .i64 ↑k_)) rfl (by decide) (by decide) rfl (fun w => (Step.move rfl)) ?_
         refine TW.pure (v := (Value.pointer (some ⟨(sBlk v79), sOff v79 + k_ * 3, none⟩))) rfl (by decide) (by decide) rfl (fun w => (Step.indexAddr (i := k_) (Try.un33).run Try.el35.sized rfl rfl (by omega) hb87 (by omega))) ?_
         refine TW.pure (v := (Value.pointer (some ⟨(sBlk v79), sOff v79 + k_ * 3 + 2, none⟩))) rfl (by decide) (by decide) rfl (fun w => (Step.pure (by kernel_rfl))) ?_
         refine TW.read (v := (Value.int .u64 x89.epoch)) rfl (by decide) (by decide) rfl (fun A w M => (Step.loadE (k := 2) Try.sc23 (flat_ec (own_slAt (M.chunk 1 rfl).inv) hx89 pinE_len) (by decide) rfl rfl)) ?_
         refine TW.pure (v := (Value.bool true)) rfl (by decide) (by decide) rfl (fun w => (Step.cast (congrArg Value.bool h91) (Step.pure (by kernel_rfl)))) ?_
         refine TW.pure (v := (Value.bool true)) rfl (by decide) (by decide) rfl (fun w => (Step.move rfl)) ?_
         refine TW.pure (v := (Value.int .i64 ((readV (max (fo_ : Int) (minE now2_ ps_ : Int)) x89.epoch now2_).2))) rfl (by decide) (by decide) rfl (fun w => (Step.move rfl)) ?_
         refine TW.pure (v := (Value.bool false)) rfl (by decide) (by decide) rfl (fun w => (Step.cast (congrArg Value.bool (show (((readV (max (fo_ : Int) (minE now2_ ps_ : Int)) x89.epoch now2_).2 : Int) != (0 : Int)) = false by rw [hFl2_.read hm_ h91p]; simp)) (Step.pure (by kernel_rfl)))) ?_
         refine TW.pure (v := (Value.bool false)) rfl (by decide) (by decide) rfl (fun w => (Step.move rfl)) ?_
         refine TW.pure (v := (Value.int .u64 ((readV (max (fo_ : Int) (minE now2_ ps_ : Int)) x89.epoch now2_).1))) rfl (by decide) (by decide) rfl (fun w => (Step.move rfl)) ?_
         refine TW.pure (v := v79) rfl (by decide) (by decide) rfl (fun w => (Step.move rfl)) ?_
         refine TW.pure (v := (Value.int .i64 ↑k_)) rfl (by decide) (by decide) rfl (fun w => (Step.move rfl)) ?_
         refine TW.pure (v := (Value.pointer (some ⟨(sBlk v79), sOff v79 + k_ * 3, none⟩))) rfl (by decide) (by decide) rfl (fun w => (Step.indexAddr (i := k_) (Try.un33).run Try.el35.sized rfl rfl (by omega) hb87 (by omega))) ?_
         refine TW.pure (v := (Value.pointer (some ⟨(sBlk v79), sOff v79 + k_ * 3 + 2, none⟩))) rfl (by decide) (by decide) rfl (fun w => (Step.pure (by kernel_rfl))) ?_
         refine TW.read (v := (Value.int .u64 x89.epoch)) rfl (by decide) (by decide) rfl (fun A w M => (Step.loadE (k := 2) Try.sc23 (flat_ec (own_slAt (M.chunk 1 rfl).inv) hx89 pinE_len) (by decide) rfl rfl)) ?_
         refine TW.pure (v := (Value.bool false)) rfl (by decide) (by decide) rfl (fun w => (Step.cast (congrArg Value.bool (show (((readV (max (fo_ : Int) (minE now2_ ps_ : Int)) x89.epoch now2_).1 : Int) != (x89.epoch : Int)) = false by rw [hFl2_.read hm_ h91p]; simp)) (Step.pure (by kernel_rfl)))) ?_
         refine TW.pure (v := (Value.bool false)) rfl (by decide) (by decide) rfl (fun w => (Step.pick (t := false) rfl rfl)) ?_
         refine TW.pure (v := (Value.bool false)) rfl (by decide) (by decide) rfl (fun w => (Step.pick (t := true) rfl rfl)) ?_
         refine TW.pure (v := (Value.bool false)) rfl (by decide) (by decide) rfl (fun w => (Step.pick (t := false) rfl rfl)) ?_
         refine TW.done (fun w92 M => ?_)
         refine W.cond (t := false) rfl (fun h => by cases h) (fun _ => ?_)
         refine W.skip ?_
         refine W.region rfl ?_
         refine WL.step (v := (Value.int .i64 ↑k_)) rfl (Step.move rfl) ?_
         refine WL.step (v := (Value.int .i64 (↑k_ + 1))) rfl (Step.add rfl rfl (wrap_i64 (by omega))) ?_
         refine WL.step (v := (Value.int .i64 (↑k_ + 1))) rfl (Step.assign rfl) ?_
         refine WL.nil ?_
         exact ⟨_, (by omega), k_ + 1, ⟨(by omega), rfl⟩, ⟨rfl, rfl, rfl, rfl, rfl, rfl, rfl, rfl, rfl, rfl, rfl, rfl, rfl, rfl, rfl, rfl, rfl, rfl, rfl, rfl, rfl, rfl, rfl, rfl, rfl, rfl, rfl, rfl, rfl, rfl, rfl, rfl, rfl, rfl, rfl, rfl, rfl, rfl, rfl, rfl, rfl, rfl, rfl, rfl, rfl, rfl, rfl, rfl, rfl, rfl, rfl, rfl, rfl, rfl, rfl, rfl, rfl, rfl⟩, M⟩
        ·
         have h91p := of_decide_eq_false h91
         refine W.drawn M [0, 1, 2, 3, 4, 5, 6, 7, 8, 9, 10, 11, 12, 13, 14, 15, 16, 17, 18, 19, 20, 21, 22, 23, 24, 25, 26, 27, 28] [6] [] [own 35 3 v79 ((sortP ps_).length) ((sortP ps_).flatMap pinE), blk zb7 (.cells #[(Value.map (some zm8)), (Value.int .u64 (max (fo_ : Int) (minE now2_ ps_ : Int)))] 87), mapP zm8 ps_, own 35 3 v18 ((sortP ps_).length) ((sortP ps_).flatMap pinE)] [SlAt 6 v l.length cs3, RepL HActT cs3 l, RepS HActT v l] (List.Sublist.cons_cons _ (List.Sublist.cons_cons _ (List.Sublist.cons_cons _ (List.Sublist.cons_cons _ List.Sublist.slnil)))) (fun _ h => h) Try.mixed (by kernel_rfl) ?_
         refine TW.pure (v := v79) rfl (by decide) (by decide) rfl (fun w => (Step.move rfl)) ?_
         refine TW.pure (v := (Value.int .i64 ↑k_)) rfl (by decide) (by decide) rfl (fun w => (Step.move rfl)) ?_
         refine TW.pure (v := (Value.pointer (some ⟨(sBlk v79), sOff v79 + k_ * 3, none⟩))) rfl (by decide) (by decide) rfl (fun w => (Step.indexAddr (i := k_) (Try.un33).run Try.el35.sized rfl rfl (by omega) hb87 (by omega))) ?_
         refine TW.pure (v := (Value.pointer (some ⟨(sBlk v79), sOff v79 + k_ * 3 + 2, none⟩))) rfl (by decide) (by decide) rfl (fun w => (Step.pure (by kernel_rfl))) ?_
         refine TW.read (v := (Value.int .u64 x89.epoch)) rfl (by decide) (by decide) rfl (fun A w M => (Step.loadE (k := 2) Try.sc23 (flat_ec (own_slAt (M.chunk 1 rfl).inv) hx89 pinE_len) (by decide) rfl rfl)) ?_
         refine TW.pure (v := (Value.pointer (some ⟨zb7, 0, none⟩))) rfl (by decide) (by decide) rfl (fun w => (Step.move rfl)) ?_
         refine TW.callX (ι := Unit) (fun jx v_ => v_ = (Value.int .u64 (max (fo_ : Int) (minE now2_ ps_ : Int)))) (fun jx => [own 35 3 v79 ((sortP ps_).length) ((sortP ps_).flatMap pinE), blk zb7 (.cells #[(Value.map (some zm8)), (Value.int .u64 (max (fo_ : Int) (minE now2_ ps_ : Int)))] 87), mapP zm8 ps_, own 35 3 v18 ((sortP ps_).length) ((sortP ps_).flatMap pinE)]) (fun jx => [SlAt 6 v l.length cs3, RepL HActT cs3 l, RepS HActT v l]) rfl (by decide) rfl (fun jx => (List.Sublist.cons_cons _ (List.Sublist.cons_cons _ (List.Sublist.cons_cons _ (List.Sublist.cons_cons _ List.Sublist.slnil))))) (fun jx r h => h) (fun A w M => Rets.mono (hz_floor zb7 zm8 ps_ (max (fo_ : Int) (minE now2_ ps_ : Int)) (M.enterW (C := [blk zb7 (.cells #[(Value.map (some zm8)), (Value.int .u64 (max (fo_ : Int) (minE now2_ ps_ : Int)))] 87), mapP zm8 ps_]) (D := [fl A, own 35 3 v79 ((sortP ps_).length) ((sortP ps_).flatMap pinE), own 35 3 v18 ((sortP ps_).length) ((sortP ps_).flatMap pinE)]) [2, 3, 0, 1, 4] rfl (by decide) trivial)) (fun v_ w_ ⟨e_, m⟩ => ⟨(), e_, (M.leaveW (C := [blk zb7 (.cells #[(Value.map (some zm8)), (Value.int .u64 (max (fo_ : Int) (minE now2_ ps_ : Int)))] 87), mapP zm8 ps_]) (D := [fl A, own 35 3 v79 ((sortP ps_).length) ((sortP ps_).flatMap pinE), own 35 3 v18 ((sortP ps_).length) ((sortP ps_).flatMap pinE)]) [2, 3, 0, 1, 4] rfl (by decide) m).sel (L' := [fl A, own 35 3 v79 ((sortP ps_).length) ((sortP ps_).flatMap pinE), blk zb7 (.cells #[(Value.map (some zm8)), (Value.int .u64 (max (fo_ : Int) (minE now2_ ps_ : Int)))] 87), mapP zm8 ps_, own 35 3 v18 ((sortP ps_).length) ((sortP ps_).flatMap pinE)]) [2, 3, 0, 1, 4] rfl (by decide), fun b hb => M.keptW (C := [blk zb7 (.cells #[(Value.map (some zm8)), (Value.int .u64 (max (fo_ : Int) (minE now2_ ps_ : Int)))] 87), mapP zm8 ps_]) (D := [fl A, own 35 3 v79 ((sortP ps_).length) ((sortP ps_).flatMap pinE), own 35 3 v18 ((sortP ps_).length) ((sortP ps_).flatMap pinE)]) [2, 3, 0, 1, 4] rfl (by decide) m (fl A) (List.mem_cons_self ..) b hb⟩)) (fun w => CallsF.func Try.en17 rfl) (fun jx v hp hin => ?_)
         replace hp := hp.symm; subst hp
         clear hin
         change TW _ _ _ _ _ _ _ _ (MemA _ _ _ [own 35 3 v79 ((sortP ps_).length) ((sortP ps_).flatMap pinE), blk zb7 (.cells #[(Value.map (some zm8)), (Value.int .u64 (max (fo_ : Int) (minE now2_ ps_ : Int)))] 87), mapP zm8 ps_, own 35 3 v18 ((sortP ps_).length) ((sortP ps_).flatMap pinE)] [SlAt 6 v l.length cs3, RepL HActT cs3 l, RepS HActT v l])
         refine TW.pure (v := (Value.bool false)) rfl (by decide) (by decide) rfl (fun w => (Step.cast (congrArg Value.bool (show (decide ((x89.epoch : Int) < ((max (fo_ : Int) (minE now2_ ps_ : Int)) : Int))) = false by rw [decide_eq_false_iff_not]; omega)) (Step.pure (by kernel_rfl)))) ?_
         refine TW.pure (v := (Value.bool false)) rfl (by decide) (by decide) rfl (fun w => (Step.move rfl)) ?_
         refine TW.pure (v := v79) rfl (by decide) (by decide) rfl (fun w => (Step.move rfl)) ?_
         refine TW.pure (v := (Value.int .i64 ↑k_)) rfl (by decide) (by decide) rfl (fun w => (Step.move rfl)) ?_
         refine TW.pure (v := (Value.pointer (some ⟨(sBlk v79), sOff v79 + k_ * 3, none⟩))) rfl (by decide) (by decide) rfl (fun w => (Step.indexAddr (i := k_) (Try.un33).run Try.el35.sized rfl rfl (by omega) hb87 (by omega))) ?_
         refine TW.pure (v := (Value.pointer (some ⟨(sBlk v79), sOff v79 + k_ * 3 + 2, none⟩))) rfl (by decide) (by decide) rfl (fun w => (Step.pure (by kernel_rfl))) ?_
         refine TW.read (v := (Value.int .u64 x89.epoch)) rfl (by decide) (by decide) rfl (fun A w M => (Step.loadE (k := 2) Try.sc23 (flat_ec (own_slAt (M.chunk 1 rfl).inv) hx89 pinE_len) (by decide) rfl rfl)) ?_
         refine TW.pure (v := (Value.bool false)) rfl (by decide) (by decide) rfl (fun w => (Step.cast (congrArg Value.bool h91) (Step.pure (by kernel_rfl)))) ?_
         refine TW.pure (v := (Value.bool false)) rfl (by decide) (by decide) rfl (fun w => (Step.move rfl)) ?_
         refine TW.skip rfl rfl ?_
         refine TW.skip rfl rfl ?_
         refine TW.skip rfl rfl ?_
         refine TW.skip rfl rfl ?_
         refine TW.skip rfl rfl ?_
         refine TW.skip rfl rfl ?_
         refine TW.skip rfl rfl ?_
         refine TW.skip rfl rfl ?_
         refine TW.skip rfl rfl ?_
         refine TW.skip rfl rfl ?_
         refine TW.skip rfl rfl ?_
         refine TW.pure (v := (Value.bool false)) rfl (by decide) (by decide) rfl (fun w => (Step.pick (t := false) rfl rfl)) ?_
         refine TW.pure (v := (Value.bool false)) rfl (by decide) (by decide) rfl (fun w => (Step.pick (t := false) rfl rfl)) ?_
         refine TW.done (fun w93 M => ?_)
         refine W.cond (t := false) rfl (fun h => by cases h) (fun _ => ?_)
         refine W.skip ?_
         refine W.region rfl ?_
         refine WL.step (v := (Value.int .i64 ↑k_)) rfl (Step.move rfl) ?_
         refine WL.step (v := (Value.int .i64 (↑k_ + 1))) rfl (Step.add rfl rfl (wrap_i64 (by omega))) ?_
         refine WL.step (v := (Value.int .i64 (↑k_ + 1))) rfl (Step.assign rfl) ?_
         refine WL.nil ?_
         exact ⟨_, (by omega), k_ + 1, ⟨(by omega), rfl⟩, ⟨rfl, rfl, rfl, rfl, rfl, rfl, rfl, rfl, rfl, rfl, rfl, rfl, rfl, rfl, rfl, rfl, rfl, rfl, rfl, rfl, rfl, rfl, rfl, rfl, rfl, rfl, rfl, rfl, rfl, rfl, rfl, rfl, rfl, rfl, rfl, rfl, rfl, rfl, rfl, rfl, rfl, rfl, rfl, rfl, rfl, rfl, rfl, rfl, rfl, rfl, rfl, rfl, rfl, rfl, rfl, rfl, rfl, rfl⟩, M⟩
       ·
        have h86p := of_decide_eq_false h86
        refine W.exit ?_
        refine thn_exit ?_
        refine thn_exit ?_
        refine inBlk_hit ?_
        refine W.seq' ?_
        refine W.region rfl ?_
        refine WL.step (v := v18) rfl (Step.move rfl) ?_
        refine WL.step (v := (Value.int .i64 (↑((sortP ps_).length)))) rfl (Step.lenSl Try.un33 rfl (own_slAt (M.chunk 3 rfl).inv)) ?_
        refine WL.step (v := v79) rfl (Step.move rfl) ?_
        refine WL.step (v := (Value.int .i64 (↑((sortP ps_).length)))) rfl (Step.lenSl Try.un33 rfl (own_slAt (M.chunk 0 rfl).inv)) ?_
        refine WL.step (v := (Value.int .i64 (↑((sortP ps_).length) + 1))) rfl (Step.add rfl rfl (wrap_i64 (by omega))) ?_
        refine WL.step (v := (Value.bool false)) rfl (Step.cast (congrArg Value.bool (show (decide ((↑((sortP ps_).length) : Int) > (↑((sortP ps_).length) + 1 : Int))) = false by rw [decide_eq_false_iff_not]; omega)) (Step.pure (by kernel_rfl))) ?_
        refine WL.nil ?_
        refine W.cond (t := false) rfl (fun h => by cases h) (fun _ => ?_)
        refine W.skip ?_
        refine W.region rfl ?_
        refine WL.step (v := (Value.int .i64 ↑i_)) rfl (Step.move rfl) ?_
        refine WL.step (v := (Value.int .i64 (↑i_ + 1))) rfl (Step.add rfl rfl (wrap_i64 (by omega))) ?_
        refine WL.step (v := (Value.int .i64 (↑i_ + 1))) rfl (Step.assign rfl) ?_
        refine WL.nil ?_
        replace M := M.sel (L' := [blk zb7 (.cells #[(Value.map (some zm8)), (Value.int .u64 (max (fo_ : Int) (minE now2_ ps_ : Int)))] 87), mapP zm8 ps_]) [1, 2] rfl (by decide)
        exact ⟨_, (by omega), i_ + 1, ps_, (max (fo_ : Int) (minE now2_ ps_ : Int)), now2_, ⟨(by omega), hFl2_, (by omega), (by omega), rfl⟩, ⟨rfl, rfl, rfl, rfl, rfl, rfl⟩, M⟩
      · exact absurd (h74.symm.trans h73) (by decide)
     ·
      have h73p : ¬ (pickI a24.do_ 6 : Int) = (4 : Int) := by simpa using h73
      refine W.region rfl ?_
      refine WL.step (v := (Value.bool ((pickI a24.do_ 6 : Int) == (5 : Int)))) rfl (Step.pure (by kernel_rfl)) ?_
      refine WL.step (v := (Value.bool ((pickI a24.do_ 6 : Int) == (5 : Int)))) rfl (Step.assign rfl) ?_
      refine WL.nil ?_
      refine W.cond (t := (pickI a24.do_ 6 : Int) == (5 : Int)) rfl (fun h94 => ?_) (fun h94 => ?_)
      ·
       have h94p : (pickI a24.do_ 6 : Int) = (5 : Int) := by simpa using h94
       refine W.seq' ?_
       refine W.region rfl ?_
       refine WL.step (v := (Value.pointer (some ⟨zb7, 0, none⟩))) rfl (Step.move rfl) ?_
       refine WL.step (v := (Value.int .u64 now2_)) rfl (Step.move rfl) ?_
       refine WL.callX rfl (hz_raise zb7 zm8 ps_ fo_ now2_ (M.enterW (C := [blk zb7 (.cells #[(Value.map (some zm8)), (Value.int .u64 fo_)] 87), mapP zm8 ps_]) (D := [blk b27 (.cells #[(Value.int .i64 a24.do_), lv25, (Value.int .u8 a24.p.sort), (Value.int .u64 a24.p.id), (Value.int .u64 a24.p.epoch), (Value.int .u64 a24.now)] 37), own 35 3 v18 ((sortP ps_).length) ((sortP ps_).flatMap pinE)]) [2, 3, 0, 1] rfl (by decide) trivial)) (CallsF.func Try.en27 rfl) ?_
       rintro _ w95 ⟨rfl, m⟩
       replace M := M.leaveW (C := [blk zb7 (.cells #[(Value.map (some zm8)), (Value.int .u64 fo_)] 87), mapP zm8 ps_]) (D := [blk b27 (.cells #[(Value.int .i64 a24.do_), lv25, (Value.int .u8 a24.p.sort), (Value.int .u64 a24.p.id), (Value.int .u64 a24.p.epoch), (Value.int .u64 a24.now)] 37), own 35 3 v18 ((sortP ps_).length) ((sortP ps_).flatMap pinE)]) [2, 3, 0, 1] rfl (by decide) m
       clear m
       replace M : Mem _ _ _ [blk zb7 (.cells #[(Value.map (some zm8)), (Value.int .u64 (max (fo_ : Int) (minE now2_ ps_ : Int)))] 87), mapP zm8 ps_, blk b27 (.cells #[(Value.int .i64 a24.do_), lv25, (Value.int .u8 a24.p.sort), (Value.int .u64 a24.p.id), (Value.int .u64 a24.p.epoch), (Value.int .u64 a24.now)] 37), own 35 3 v18 ((sortP ps_).length) ((sortP ps_).flatMap pinE)] [EC v 6 i_ [(Value.int .i64 a24.do_), lv25, (Value.int .u8 a24.p.sort), (Value.int .u64 a24.p.id), (Value.int .u64 a24.p.epoch), (Value.int .u64 a24.now)], SlAt 3 lv25 a24.l.length (a24.l.flatMap pinE), SlAt 6 v l.length cs3, RepL HActT cs3 l, RepS HActT v l] _ := M
       have hFl2_ : FlI ps_ (max (fo_ : Int) (minE now2_ ps_ : Int)) now2_ := hFl1_.raise
       have hln_ := Nat.le_succ ps_.length
       have hdl_ := Nat.le_succ ps_.length
       have hap2_ := hFl2_.apart
       have hsb_ := sortP_len hap2_
       have hfl2_ := hFl2_.floor
       refine WL.step (v := (Value.pointer (some ⟨zb7, 0, none⟩))) rfl (Step.move rfl) ?_
       refine WL.callX rfl (hz_floor zb7 zm8 ps_ (max (fo_ : Int) (minE now2_ ps_ : Int)) (M.enterW (C := [blk zb7 (.cells #[(Value.map (some zm8)), (Value.int .u64 (max (fo_ : Int) (minE now2_ ps_ : Int)))] 87), mapP zm8 ps_]) (D := [blk b27 (.cells #[(Value.int .i64 a24.do_), lv25, (Value.int .u8 a24.p.sort), (Value.int .u64 a24.p.id), (Value.int .u64 a24.p.epoch), (Value.int .u64 a24.now)] 37), own 35 3 v18 ((sortP ps_).length) ((sortP ps_).flatMap pinE)]) [0, 1, 2, 3] rfl (by decide) trivial)) (CallsF.func Try.en17 rfl) ?_
       rintro _ w96 ⟨rfl, m⟩
       replace M := M.leaveW (C := [blk zb7 (.cells #[(Value.map (some zm8)), (Value.int .u64 (max (fo_ : Int) (minE now2_ ps_ : Int)))] 87), mapP zm8 ps_]) (D := [blk b27 (.cells #[(Value.int .i64 a24.do_), lv25, (Value.int .u8 a24.p.sort), (Value.int .u64 a24.p.id), (Value.int .u64 a24.p.epoch), (Value.int .u64 a24.now)] 37), own 35 3 v18 ((sortP ps_).length) ((sortP ps_).flatMap pinE)]) [0, 1, 2, 3] rfl (by decide) m
       replace M := M.sel (L' := [blk zb7 (.cells #[(Value.map (some zm8)), (Value.int .u64 (max (fo_ : Int) (minE now2_ ps_ : Int)))] 87), mapP zm8 ps_, blk b27 (.cells #[(Value.int .i64 a24.do_), lv25, (Value.int .u8 a24.p.sort), (Value.int .u64 a24.p.id), (Value.int .u64 a24.p.epoch), (Value.int .u64 a24.now)] 37), own 35 3 v18 ((sortP ps_).length) ((sortP ps_).flatMap pinE)]) [0, 1, 2, 3] rfl (by decide)
       clear m
       replace M : Mem _ _ _ [blk zb7 (.cells #[(Value.map (some zm8)), (Value.int .u64 (max (fo_ : Int) (minE now2_ ps_ : Int)))] 87), mapP zm8 ps_, blk b27 (.cells #[(Value.int .i64 a24.do_), lv25, (Value.int .u8 a24.p.sort), (Value.int .u64 a24.p.id), (Value.int .u64 a24.p.epoch), (Value.int .u64 a24.now)] 37), own 35 3 v18 ((sortP ps_).length) ((sortP ps_).flatMap pinE)] [EC v 6 i_ [(Value.int .i64 a24.do_), lv25, (Value.int .u8 a24.p.sort), (Value.int .u64 a24.p.id), (Value.int .u64 a24.p.epoch), (Value.int .u64 a24.now)], SlAt 3 lv25 a24.l.length (a24.l.flatMap pinE), SlAt 6 v l.length cs3, RepL HActT cs3 l, RepS HActT v l] _ := M
       replace M := M.sel (L' := [blk zb7 (.cells #[(Value.map (some zm8)), (Value.int .u64 (max (fo_ : Int) (minE now2_ ps_ : Int)))] 87), mapP zm8 ps_, own 35 3 v18 ((sortP ps_).length) ((sortP ps_).flatMap pinE)]) [0, 1, 3] rfl (by decide)
       replace M : Mem _ _ _ [blk zb7 (.cells #[(Value.map (some zm8)), (Value.int .u64 (max (fo_ : Int) (minE now2_ ps_ : Int)))] 87), mapP zm8 ps_, own 35 3 v18 ((sortP ps_).length) ((sortP ps_).flatMap pinE)] [EC v 6 i_ [(Value.int .i64 a24.do_), lv25, (Value.int .u8 a24.p.sort), (Value.int .u64 a24.p.id), (Value.int .u64 a24.p.epoch), (Value.int .u64 a24.now)], SlAt 3 lv25 a24.l.length (a24.l.flatMap pinE), SlAt 6 v l.length cs3, RepL HActT cs3 l, RepS HActT v l] _ := M
       replace M := M.sub (List.Sublist.refl _) (R' := [SlAt 6 v l.length cs3, RepL HActT cs3 l, RepS HActT v l]) (fun r h => (List.mem_cons_of_mem _ (List.mem_cons_of_mem _ h)))
       replace M : Mem _ _ _ [blk zb7 (.cells #[(Value.map (some zm8)), (Value.int .u64 (max (fo_ : Int) (minE now2_ ps_ : Int)))] 87), mapP zm8 ps_, own 35 3 v18 ((sortP ps_).length) ((sortP ps_).flatMap pinE)] [SlAt 6 v l.length cs3, RepL HActT cs3 l, RepS HActT v l] _ := M
       refine WL.step (v := (Value.bool false)) rfl (Step.cast (congrArg Value.bool (show ((max (fo_ : Int) (minE now2_ ps_ : Int) : Int) != ((max (fo_ : Int) (minE now2_ ps_ : Int)) : Int)) = false by simp)) (Step.pure (by kernel_rfl))) ?_
       refine WL.nil ?_
       refine W.cond (t := false) rfl (fun h => by cases h) (fun _ => ?_)
       refine W.skip ?_
       refine W.seq' ?_
       refine W.seq' ?_
       refine W.region rfl ?_
       refine WL.step (v := (Value.pointer (some ⟨zb7, 0, none⟩))) rfl (Step.move rfl) ?_
       refine WL.callX rfl (hz_floor zb7 zm8 ps_ (max (fo_ : Int) (minE now2_ ps_ : Int)) (M.enterW (C := [blk zb7 (.cells #[(Value.map (some zm8)), (Value.int .u64 (max (fo_ : Int) (minE now2_ ps_ : Int)))] 87), mapP zm8 ps_]) (D := [own 35 3 v18 ((sortP ps_).length) ((sortP ps_).flatMap pinE)]) [0, 1, 2] rfl (by decide) trivial)) (CallsF.func Try.en17 rfl) ?_
       rintro _ w97 ⟨rfl, m⟩
       replace M := M.leaveW (C := [blk zb7 (.cells #[(Value.map (some zm8)), (Value.int .u64 (max (fo_ : Int) (minE now2_ ps_ : Int)))] 87), mapP zm8 ps_]) (D := [own 35 3 v18 ((sortP ps_).length) ((sortP ps_).flatMap pinE)]) [0, 1, 2] rfl (by decide) m
       replace M := M.sel (L' := [blk zb7 (.cells #[(Value.map (some zm8)), (Value.int .u64 (max (fo_ : Int) (minE now2_ ps_ : Int)))] 87), mapP zm8 ps_, own 35 3 v18 ((sortP ps_).length) ((sortP ps_).flatMap pinE)]) [0, 1, 2] rfl (by decide)
       clear m
       replace M : Mem _ _ _ [blk zb7 (.cells #[(Value.map (some zm8)), (Value.int .u64 (max (fo_ : Int) (minE now2_ ps_ : Int)))] 87), mapP zm8 ps_, own 35 3 v18 ((sortP ps_).length) ((sortP ps_).flatMap pinE)] [SlAt 6 v l.length cs3, RepL HActT cs3 l, RepS HActT v l] _ := M
       refine WL.step (v := (Value.int .u64 fo_)) rfl (Step.move rfl) ?_
       refine WL.step (v := (Value.bool false)) rfl (Step.cast (congrArg Value.bool (show (decide (((max (fo_ : Int) (minE now2_ ps_ : Int)) : Int) < (fo_ : Int))) = false by rw [decide_eq_false_iff_not]; omega)) (Step.pure (by kernel_rfl))) ?_
       refine WL.step (v := (Value.bool false)) rfl (Step.move rfl) ?_
       refine WL.step (v := (Value.pointer (some ⟨zb7, 0, none⟩))) rfl (Step.move rfl) ?_
       refine WL.callX rfl (hz_floor zb7 zm8 ps_ (max (fo_ : Int) (minE now2_ ps_ : Int)) (M.enterW (C := [blk zb7 (.cells #[(Value.map (some zm8)), (Value.int .u64 (max (fo_ : Int) (minE now2_ ps_ : Int)))] 87), mapP zm8 ps_]) (D := [own 35 3 v18 ((sortP ps_).length) ((sortP ps_).flatMap pinE)]) [0, 1, 2] rfl (by decide) trivial)) (CallsF.func Try.en17 rfl) ?_
       rintro _ w98 ⟨rfl, m⟩
       replace M := M.leaveW (C := [blk zb7 (.cells #[(Value.map (some zm8)), (Value.int .u64 (max (fo_ : Int) (minE now2_ ps_ : Int)))] 87), mapP zm8 ps_]) (D := [own 35 3 v18 ((sortP ps_).length) ((sortP ps_).flatMap pinE)]) [0, 1, 2] rfl (by decide) m
       replace M := M.sel (L' := [blk zb7 (.cells #[(Value.map (some zm8)), (Value.int .u64 (max (fo_ : Int) (minE now2_ ps_ : Int)))] 87), mapP zm8 ps_, own 35 3 v18 ((sortP ps_).length) ((sortP ps_).flatMap pinE)]) [0, 1, 2] rfl (by decide)
       clear m
       replace M : Mem _ _ _ [blk zb7 (.cells #[(Value.map (some zm8)), (Value.int .u64 (max (fo_ : Int) (minE now2_ ps_ : Int)))] 87), mapP zm8 ps_, own 35 3 v18 ((sortP ps_).length) ((sortP ps_).flatMap pinE)] [SlAt 6 v l.length cs3, RepL HActT cs3 l, RepS HActT v l] _ := M
       refine WL.step (v := (Value.int .u64 now2_)) rfl (Step.move rfl) ?_
       refine WL.step (v := (Value.bool false)) rfl (Step.cast (congrArg Value.bool (show (decide (((max (fo_ : Int) (minE now2_ ps_ : Int)) : Int) > (now2_ : Int))) = false by rw [decide_eq_false_iff_not]; omega)) (Step.pure (by kernel_rfl))) ?_
       refine WL.step (v := (Value.bool false)) rfl (Step.pick (t := false) rfl rfl) ?_
       refine WL.nil ?_
       refine W.cond (t := false) rfl (fun h => by cases h) (fun _ => ?_)
       refine W.skip ?_
       refine W.seq' ?_
       refine W.region rfl ?_
       refine WL.step (v := (Value.pointer (some ⟨zb7, 0, none⟩))) rfl (Step.move rfl) ?_
       refine WL.callX rfl (hz_pins zb7 zm8 ps_ (max (fo_ : Int) (minE now2_ ps_ : Int)) (by first | omega | (simp; done)) (by assumption) (M.enterW (C := [blk zb7 (.cells #[(Value.map (some zm8)), (Value.int .u64 (max (fo_ : Int) (minE now2_ ps_ : Int)))] 87), mapP zm8 ps_]) (D := [own 35 3 v18 ((sortP ps_).length) ((sortP ps_).flatMap pinE)]) [0, 1, 2] rfl (by decide) trivial)) (CallsF.func Try.en14 rfl) ?_
       rintro v99 w100 ⟨_, rfl, m⟩
       replace M := M.leaveW (C := [blk zb7 (.cells #[(Value.map (some zm8)), (Value.int .u64 (max (fo_ : Int) (minE now2_ ps_ : Int)))] 87), mapP zm8 ps_]) (D := [own 35 3 v18 ((sortP ps_).length) ((sortP ps_).flatMap pinE)]) [0, 1, 2] rfl (by decide) m
       replace M := M.sel (L' := [own 35 3 v99 ((sortP ps_).length) ((sortP ps_).flatMap pinE), blk zb7 (.cells #[(Value.map (some zm8)), (Value.int .u64 (max (fo_ : Int) (minE now2_ ps_ : Int)))] 87), mapP zm8 ps_, own 35 3 v18 ((sortP ps_).length) ((sortP ps_).flatMap pinE)]) [2, 0, 1, 3] rfl (by decide)
       clear m
       replace M : Mem _ _ _ [own 35 3 v99 ((sortP ps_).length) ((sortP ps_).flatMap pinE), blk zb7 (.cells #[(Value.map (some zm8)), (Value.int .u64 (max (fo_ : Int) (minE now2_ ps_ : Int)))] 87), mapP zm8 ps_, own 35 3 v18 ((sortP ps_).length) ((sortP ps_).flatMap pinE)] [SlAt 6 v l.length cs3, RepL HActT cs3 l, RepS HActT v l] _ := M
       have sl101 : IsSl v99 := SlAt.isSl (own_slAt (Mem.chunk M 0 rfl).inv)
       have hle102 := SlAt.le' (own_slAt (Mem.chunk M 0 rfl).inv)
       refine WL.step (v := v99) rfl (Step.assign rfl) ?_
       refine WL.nil ?_
       refine W.seq' ?_
       refine W.seq' ?_
       refine W.region rfl ?_
       refine WL.step (v := (Value.int .i64 0)) rfl (Step.assign rfl) ?_
       refine WL.nil ?_
       refine W.block ?_
       refine W.loop (fun kk ρ w' => ∃ (k_ : Nat), ((k_ ≤ (sortP ps_).length) ∧ kk = (sortP ps_).length - k_) ∧ ρ.has [(0, v), (3, (Value.pointer (some ⟨zb7, 0, none⟩))), (4, (Value.int .u64 now2_)), (5, (Value.int .i64 ↑i_)), (6, (Value.int .u64 fo_)), (7, v18), (8, (Value.pointer (some ⟨b27, 0, none⟩))), (14, v99), (15, (Value.int .i64 ↑k_)), (25, (Value.int .i64 ↑i_)), (26, v), (27, (Value.int .i64 ↑l.length)), (28, (Value.bool (decide ((↑i_ : Int) < (↑l.length : Int))))), (31, (Value.pointer (some ⟨zb7, 0, none⟩))), (32, (Value.int .u64 fo_)), (33, (Value.pointer (some ⟨zb7, 0, none⟩))), (34, v18), (35, (Value.int .u64 now_)), (36, v), (37, (Value.int .i64 ↑i_)), (38, (Value.pointer (some ⟨(sBlk v), sOff v + i_ * 6, none⟩))), (39, (Value.pointer (some ⟨(sBlk v), sOff v + i_ * 6 + 5, none⟩))), (40, (Value.int .u64 a24.now)), (41, (Value.int .u64 ((a24.now : Int) % 1048576))), (42, (Value.int .u64 now2_)), (43, v), (44, (Value.int .i64 ↑i_)), (45, (Value.pointer (some ⟨(sBlk v), sOff v + i_ * 6, none⟩))), (46, (Value.agg #[(Value.int .i64 a24.do_), lv25, (Value.int .u8 a24.p.sort), (Value.int .u64 a24.p.id), (Value.int .u64 a24.p.epoch), (Value.int .u64 a24.now)])), (47, (Value.pointer (some ⟨b27, 0, none⟩))), (48, (Value.int .i64 a24.do_)), (49, (Value.int .i64 (pickI a24.do_ 6))), (84, (Value.bool ((pickI a24.do_ 6 : Int) == (2 : Int)))), (85, (Value.bool ((pickI a24.do_ 6 : Int) == (2 : Int)))), (96, (Value.bool ((pickI a24.do_ 6 : Int) == (3 : Int)))), (97, (Value.bool ((pickI a24.do_ 6 : Int) == (3 : Int)))), (106, (Value.bool ((pickI a24.do_ 6 : Int) == (5 : Int)))), (107, (Value.bool ((pickI a24.do_ 6 : Int) == (4 : Int)))), (108, (Value.bool ((pickI a24.do_ 6 : Int) == (5 : Int)))), (109, (Value.pointer (some ⟨zb7, 0, none⟩))), (110, (Value.int .u64 now2_)), (111, (Value.int .u64 (max (fo_ : Int) (minE now2_ ps_ : Int)))), (112, (Value.pointer (some ⟨zb7, 0, none⟩))), (113, (Value.int .u64 (max (fo_ : Int) (minE now2_ ps_ : Int)))), (114, (Value.bool false)), (115, (Value.pointer (some ⟨zb7, 0, none⟩))), (116, (Value.int .u64 (max (fo_ : Int) (minE now2_ ps_ : Int)))), (117, (Value.int .u64 fo_)), (118, (Value.bool false)), (119, (Value.bool false)), (120, (Value.pointer (some ⟨zb7, 0, none⟩))), (121, (Value.int .u64 (max (fo_ : Int) (minE now2_ ps_ : Int)))), (122, (Value.int .u64 now2_)), (123, (Value.bool false)), (124, (Value.bool false)), (125, (Value.pointer (some ⟨zb7, 0, none⟩))), (126, v99)] ∧ Mem G (fun _ => False) w [own 35 3 v99 ((sortP ps_).length) ((sortP ps_).flatMap pinE), blk zb7 (.cells #[(Value.map (some zm8)), (Value.int .u64 (max (fo_ : Int) (minE now2_ ps_ : Int)))] 87), mapP zm8 ps_, own 35 3 v18 ((sortP ps_).length) ((sortP ps_).flatMap pinE)] [SlAt 6 v l.length cs3, RepL HActT cs3 l, RepS HActT v l]  w') _ ⟨0, ⟨(Nat.zero_le _), rfl⟩, ⟨rfl, rfl, rfl, rfl, rfl, rfl, rfl, rfl, rfl, rfl, rfl, rfl, rfl, rfl, rfl, rfl, rfl, rfl, rfl, rfl, rfl, rfl, rfl, rfl, rfl, rfl, rfl, rfl, rfl, rfl, rfl, rfl, rfl, rfl, rfl, rfl, rfl, rfl, rfl, rfl, rfl, rfl, rfl, rfl, rfl, rfl, rfl, rfl, rfl, rfl, rfl, rfl, rfl, rfl, rfl, rfl, rfl, rfl, rfl⟩, M⟩ ?_
       rintro _ ρ104 w103 ⟨k_, ⟨hi105, rfl⟩, hρ, M⟩
       obtain ⟨ρ104, rfl⟩ := hρ.know
       clear hρ
       refine W.seq' ?_
       refine W.seq' ?_
       refine W.region rfl ?_
       refine WL.step (v := (Value.int .i64 ↑k_)) rfl (Step.move rfl) ?_
       refine WL.step (v := v99) rfl (Step.move rfl) ?_
       refine WL.step (v := (Value.int .i64 (↑((sortP ps_).length)))) rfl (Step.lenSl Try.un33 rfl (own_slAt (M.chunk 0 rfl).inv)) ?_
       refine WL.step (v := (Value.bool (decide ((↑k_ : Int) < (↑((sortP ps_).length) : Int))))) rfl (Step.pure (by kernel_rfl)) ?_
       refine WL.nil ?_
       refine W.cond (t := decide ((↑k_ : Int) < (↑((sortP ps_).length) : Int))) rfl (fun h106 => ?_) (fun h106 => ?_)
       ·
        have h106p := of_decide_eq_true h106
        refine W.skip ?_
        refine W.seq' ?_
        refine W.block ?_
        refine W.seq' ?_
        refine W.region rfl ?_
        refine WL.step (v := (Value.pointer (some ⟨zb7, 0, none⟩))) rfl (Step.move rfl) ?_
        refine WL.step (v := v99) rfl (Step.move rfl) ?_
        refine WL.step (v := (Value.int .i64 ↑k_)) rfl (Step.move rfl) ?_
        obtain ⟨cap108, hb107⟩ := SlAt.base (own_slAt (M.chunk 0 rfl).inv) (by omega)
        refine WL.step (v := (Value.pointer (some ⟨(sBlk v99), sOff v99 + k_ * 3, none⟩))) rfl (Step.indexAddr (i := k_) (Try.un33).run Try.el35.sized rfl rfl (by omega) hb107 (by omega)) ?_
        refine WL.step (v := (Value.pointer (some ⟨(sBlk v99), sOff v99 + k_ * 3 + 2, none⟩))) rfl (Step.pure (by kernel_rfl)) ?_
        obtain ⟨x109, hx109⟩ := elem_of_lt (xs := sortP ps_) (i := k_) (by omega)
        have hm_ := (sortP_mem hap2_).1 (List.mem_of_getElem? hx109)
        have hlo_ := hFl2_.low _ hm_
        refine WL.step (v := (Value.int .u64 x109.epoch)) rfl (Step.loadE (k := 2) Try.sc23 (flat_ec (own_slAt (M.chunk 0 rfl).inv) hx109 pinE_len) (by decide) rfl rfl) ?_
        refine WL.step (v := (Value.int .u64 now2_)) rfl (Step.move rfl) ?_
        refine WL.callX rfl (hz_read zb7 zm8 ps_ (max (fo_ : Int) (minE now2_ ps_ : Int)) x109.epoch now2_ (M.enterW (C := [blk zb7 (.cells #[(Value.map (some zm8)), (Value.int .u64 (max (fo_ : Int) (minE now2_ ps_ : Int)))] 87), mapP zm8 ps_]) (D := [own 35 3 v99 ((sortP ps_).length) ((sortP ps_).flatMap pinE), own 35 3 v18 ((sortP ps_).length) ((sortP ps_).flatMap pinE)]) [1, 2, 0, 3] rfl (by decide) trivial)) (CallsF.func Try.en22 rfl) ?_
        rintro _ w110 ⟨rfl, m⟩
        replace M := M.leaveW (C := [blk zb7 (.cells #[(Value.map (some zm8)), (Value.int .u64 (max (fo_ : Int) (minE now2_ ps_ : Int)))] 87), mapP zm8 ps_]) (D := [own 35 3 v99 ((sortP ps_).length) ((sortP ps_).flatMap pinE), own 35 3 v18 ((sortP ps_).length) ((sortP ps_).flatMap pinE)]) [1, 2, 0, 3] rfl (by decide) m
        replace M := M.sel (L' := [own 35 3 v99 ((sortP ps_).length) ((sortP ps_).flatMap pinE), blk zb7 (.cells #[(Value.map (some zm8)), (Value.int .u64 (max (fo_ : Int) (minE now2_ ps_ : Int)))] 87), mapP zm8 ps_, own 35 3 v18 ((sortP ps_).length) ((sortP ps_).flatMap pinE)]) [2, 0, 1, 3] rfl (by decide)
        clear m
        replace M : Mem _ _ _ [own 35 3 v99 ((sortP ps_).length) ((sortP ps_).flatMap pinE), blk zb7 (.cells #[(Value.map (some zm8)), (Value.int .u64 (max (fo_ : Int) (minE now2_ ps_ : Int)))] 87), mapP zm8 ps_, own 35 3 v18 ((sortP ps_).length) ((sortP ps_).flatMap pinE)] [SlAt 6 v l.length cs3, RepL HActT cs3 l, RepS HActT v l] _ := M
        refine WL.step (v := (Value.tuple #[(Value.int .u64 ((readV (max (fo_ : Int) (minE now2_ ps_ : Int)) x109.epoch now2_).1)), (Value.int .i64 ((readV (max (fo_ : Int) (minE now2_ ps_ : Int)) x109.epoch now2_).2))])) rfl (Step.move rfl) ?_
        refine WL.step (v := (Value.int .u64 ((readV (max (fo_ : Int) (minE now2_ ps_ : Int)) x109.epoch now2_).1))) rfl (Step.pure (by kernel_rfl)) ?_
        refine WL.step (v := (Value.int .i64 ((readV (max (fo_ : Int) (minE now2_ ps_ : Int)) x109.epoch now2_).2))) rfl (Step.pure (by kernel_rfl)) ?_
        refine WL.step (v := (Value.int .u64 ((readV (max (fo_ : Int) (minE now2_ ps_ : Int)) x109.epoch now2_).1))) rfl (Step.assign rfl) ?_
        refine WL.step (v := (Value.int .i64 ((readV (max (fo_ : Int) (minE now2_ ps_ : Int)) x109.epoch now2_).2))) rfl (Step.assign rfl) ?_
        refine WL.nil ?_
        refine W.seq' ?_
        rcases Bool.eq_false_or_eq_true (decide ((x109.epoch : Int) > (0 : Int))) with h111 | h111
        ·
         have h111p := of_decide_eq_true h111
         refine W.drawn M [0, 1, 2, 3, 4, 5, 6, 7, 8, 9, 10, 11, 12, 13, 14, 15, 16, 17, 18, 19, 20, 21, 22, 23, 24, 25, 26, 27, 28] [6] [] [own 35 3 v99 ((sortP ps_).length) ((sortP ps_).flatMap pinE), blk zb7 (.cells #[(Value.map (some zm8)), (Value.int .u64 (max (fo_ : Int) (minE now2_ ps_ : Int)))] 87), mapP zm8 ps_, own 35 3 v18 ((sortP ps_).length) ((sortP ps_).flatMap pinE)] [SlAt 6 v l.length cs3, RepL HActT cs3 l, RepS HActT v l] (List.Sublist.cons_cons _ (List.Sublist.cons_cons _ (List.Sublist.cons_cons _ (List.Sublist.cons_cons _ List.Sublist.slnil)))) (fun _ h => h) Try.mixed (by kernel_rfl) ?_
         refine TW.pure (v := v99) rfl (by decide) (by decide) rfl (fun w => (Step.move rfl)) ?_
         refine TW.pure (v := (Value.int .i64 ↑k_)) rfl (by decide) (by decide) rfl (fun w => (Step.move rfl)) ?_
         refine TW.pure (v := (Value.pointer (some ⟨(sBlk v99), sOff v99 + k_ * 3, none⟩))) rfl (by decide) (by decide) rfl (fun w => (Step.indexAddr (i := k_) (Try.un33).run Try.el35.sized rfl rfl (by omega) hb107 (by omega))) ?_
         refine TW.pure (v := (Value.pointer (some ⟨(sBlk v99), sOff v99 + k_ * 3 + 2, none⟩))) rfl (by decide) (by decide) rfl (fun w => (Step.pure (by kernel_rfl))) ?_
         refine TW.read (v := (Value.int .u64 x109.epoch)) rfl (by decide) (by decide) rfl (fun A w M => (Step.loadE (k := 2) Try.sc23 (flat_ec (own_slAt (M.chunk 1 rfl).inv) hx109 pinE_len) (by decide) rfl rfl)) ?_
         refine TW.pure (v := (Value.pointer (some ⟨zb7, 0, none⟩))) rfl (by decide) (by decide) rfl (fun w => (Step.move rfl)) ?_
         refine TW.callX (ι := Unit) (fun jx v_ => v_ = (Value.int .u64 (max (fo_ : Int) (minE now2_ ps_ : Int)))) (fun jx => [own 35 3 v99 ((sortP ps_).length) ((sortP ps_).flatMap pinE), blk zb7 (.cells #[(Value.map (some zm8)), (Value.int .u64 (max (fo_ : Int) (minE now2_ ps_ : Int)))] 87), mapP zm8 ps_, own 35 3 v18 ((sortP ps_).length) ((sortP ps_).flatMap pinE)]) (fun jx => [SlAt 6 v l.length cs3, RepL HActT cs3 l, RepS HActT v l]) rfl (by decide) rfl (fun jx => (List.Sublist.cons_cons _ (List.Sublist.cons_cons _ (List.Sublist.cons_cons _ (List.Sublist.cons_cons _ List.Sublist.slnil))))) (fun jx r h => h) (fun A w M => Rets.mono (hz_floor zb7 zm8 ps_ (max (fo_ : Int) (minE now2_ ps_ : Int)) (M.enterW (C := [blk zb7 (.cells #[(Value.map (some zm8)), (Value.int .u64 (max (fo_ : Int) (minE now2_ ps_ : Int)))] 87), mapP zm8 ps_]) (D := [fl A, own 35 3 v99 ((sortP ps_).length) ((sortP ps_).flatMap pinE), own 35 3 v18 ((sortP ps_).length) ((sortP ps_).flatMap pinE)]) [2, 3, 0, 1, 4] rfl (by decide) trivial)) (fun v_ w_ ⟨e_, m⟩ => ⟨(), e_, (M.leaveW (C := [blk zb7 (.cells #[(Value.map (some zm8)), (Value.int .u64 (max (fo_ : Int) (minE now2_ ps_ : Int)))] 87), mapP zm8 ps_]) (D := [fl A, own 35 3 v99 ((sortP ps_).length) ((sortP ps_).flatMap pinE), own 35 3 v18 ((sortP ps_).length) ((sortP ps_).flatMap pinE)]) [2, 3, 0, 1, 4] rfl (by decide) m).sel (L' := [fl A, own 35 3 v99 ((sortP ps_).length) ((sortP ps_).flatMap pinE), blk zb7 (.cells #[(Value.map (some zm8)), (Value.int .u64 (max (fo_ : Int) (minE now2_ ps_ : Int)))] 87), mapP zm8 ps_, own 35 3 v18 ((sortP ps_).length) ((sortP ps_).flatMap pinE)]) [2, 3, 0, 1, 4] rfl (by decide), fun b hb => M.keptW (C := [blk zb7 (.cells #[(Value.map (some zm8)), (Value.int .u64 (max (fo_ : Int) (minE now2_ ps_ : Int)))] 87), mapP zm8 ps_]) (D := [fl A, own 35 3 v99 ((sortP ps_).length) ((sortP ps_).flatMap pinE), own 35 3 v18 ((sortP ps_).length) ((sortP ps_).flatMap pinE)]) [2, 3, 0, 1, 4] rfl (by decide) m (fl A) (List.mem_cons_self ..) b hb⟩)) (fun w => CallsF.func Try.en17 rfl) (fun jx v hp hin => ?_)
         replace hp := hp.symm; subst hp
         clear hin
         change TW _ _ _ _ _ _ _ _ (MemA _ _ _ [own 35 3 v99 ((sortP ps_).length) ((sortP ps_).flatMap pinE), blk zb7 (.cells #[(Value.map (some zm8)), (Value.int .u64 (max (fo_ : Int) (minE now2_ ps_ : Int)))] 87), mapP zm8 ps_, own 35 3 v18 ((sortP ps_).length) ((sortP ps_).flatMap pinE)] [SlAt 6 v l.length cs3, RepL HActT cs3 l, RepS HActT v l])
         refine TW.pure (v := (Value.bool false)) rfl (by decide) (by decide) rfl (fun w => (Step.cast (congrArg Value.bool (show (decide ((x109.epoch : Int) < ((max (fo_ : Int) (minE now2_ ps_ : Int)) : Int))) = false by rw [decide_eq_false_iff_not]; omega)) (Step.pure (by kernel_rfl)))) ?_
         refine TW.pure (v := (Value.bool false)) rfl (by decide) (by decide) rfl (fun w => (Step.move rfl)) ?_
         refine TW.pure (v := v99) rfl (by decide) (by decide) rfl (fun w => (Step.move rfl)) ?_
         refine TW.pure (v := (Value.int .i64 ↑k_)) rfl (by decide) (by decide) rfl (fun w => (Step.move rfl)) ?_
         refine TW.pure (v := (Value.pointer (some ⟨(sBlk v99), sOff v99 + k_ * 3, none⟩))) rfl (by decide) (by decide) rfl (fun w => (Step.indexAddr (i := k_) (Try.un33).run Try.el35.sized rfl rfl (by omega) hb107 (by omega))) ?_
         refine TW.pure (v := (Value.pointer (some ⟨(sBlk v99), sOff v99 + k_ * 3 + 2, none⟩))) rfl (by decide) (by decide) rfl (fun w => (Step.pure (by kernel_rfl))) ?_
         refine TW.read (v := (Value.int .u64 x109.epoch)) rfl (by decide) (by decide) rfl (fun A w M => (Step.loadE (k := 2) Try.sc23 (flat_ec (own_slAt (M.chunk 1 rfl).inv) hx109 pinE_len) (by decide) rfl rfl)) ?_
         refine TW.pure (v := (Value.bool true)) rfl (by decide) (by decide) rfl (fun w => (Step.cast (congrArg Value.bool h111) (Step.pure (by kernel_rfl)))) ?_
         refine TW.pure (v := (Value.bool true)) rfl (by decide) (by decide) rfl (fun w => (Step.move rfl)) ?_
         refine TW.pure (v := (Value.int .i64 ((readV (max (fo_ : Int) (minE now2_ ps_ : Int)) x109.epoch now2_).2))) rfl (by decide) (by decide) rfl (fun w => (Step.move rfl)) ?_
         refine TW.pure (v := (Value.bool false)) rfl (by decide) (by decide) rfl (fun w => (Step.cast (congrArg Value.bool (show (((readV (max (fo_ : Int) (minE now2_ ps_ : Int)) x109.epoch now2_).2 : Int) != (0 : Int)) = false by rw [hFl2_.read hm_ h111p]; simp)) (Step.pure (by kernel_rfl)))) ?_
         refine TW.pure (v := (Value.bool false)) rfl (by decide) (by decide) rfl (fun w => (Step.move rfl)) ?_
         refine TW.pure (v := (Value.int .u64 ((readV (max (fo_ : Int) (minE now2_ ps_ : Int)) x109.epoch now2_).1))) rfl (by decide) (by decide) rfl (fun w => (Step.move rfl)) ?_
         refine TW.pure (v := v99) rfl (by decide) (by decide) rfl (fun w => (Step.move rfl)) ?_
         refine TW.pure (v := (Value.int .i64 ↑k_)) rfl (by decide) (by decide) rfl (fun w => (Step.move rfl)) ?_
         refine TW.pure (v := (Value.pointer (some ⟨(sBlk v99), sOff v99 + k_ * 3, none⟩))) rfl (by decide) (by decide) rfl (fun w => (Step.indexAddr (i := k_) (Try.un33).run Try.el35.sized rfl rfl (by omega) hb107 (by omega))) ?_
         refine TW.pure (v := (Value.pointer (some ⟨(sBlk v99), sOff v99 + k_ * 3 + 2, none⟩))) rfl (by decide) (by decide) rfl (fun w => (Step.pure (by kernel_rfl))) ?_
         refine TW.read (v := (Value.int .u64 x109.epoch)) rfl (by decide) (by decide) rfl (fun A w M => (Step.loadE (k := 2) Try.sc23 (flat_ec (own_slAt (M.chunk 1 rfl).inv) hx109 pinE_len) (by decide) rfl rfl)) ?_
         refine TW.pure (v := (Value.bool false)) rfl (by decide) (by decide) rfl (fun w => (Step.cast (congrArg Value.bool (show (((readV (max (fo_ : Int) (minE now2_ ps_ : Int)) x109.epoch now2_).1 : Int) != (x109.epoch : Int)) = false by rw [hFl2_.read hm_ h111p]; simp)) (Step.pure (by kernel_rfl)))) ?_
         refine TW.pure (v := (Value.bool false)) rfl (by decide) (by decide) rfl (fun w => (Step.pick (t := false) rfl rfl)) ?_
         refine TW.pure (v := (Value.bool false)) rfl (by decide) (by decide) rfl (fun w => (Step.pick (t := true) rfl rfl)) ?_
         refine TW.pure (v := (Value.bool false)) rfl (by decide) (by decide) rfl (fun w => (Step.pick (t := false) rfl rfl)) ?_
         refine TW.done (fun w112 M => ?_)
         refine W.cond (t := false) rfl (fun h => by cases h) (fun _ => ?_)
         refine W.skip ?_
         refine W.region rfl ?_
         refine WL.step (v := (Value.int .i64 ↑k_)) rfl (Step.move rfl) ?_
         refine WL.step (v := (Value.int .i64 (↑k_ + 1))) rfl (Step.add rfl rfl (wrap_i64 (by omega))) ?_
         refine WL.step (v := (Value.int .i64 (↑k_ + 1))) rfl (Step.assign rfl) ?_
         refine WL.nil ?_
         exact ⟨_, (by omega), k_ + 1, ⟨(by omega), rfl⟩, ⟨rfl, rfl, rfl, rfl, rfl, rfl, rfl, rfl, rfl, rfl, rfl, rfl, rfl, rfl, rfl, rfl, rfl, rfl, rfl, rfl, rfl, rfl, rfl, rfl, rfl, rfl, rfl, rfl, rfl, rfl, rfl, rfl, rfl, rfl, rfl, rfl, rfl, rfl, rfl, rfl, rfl, rfl, rfl, rfl, rfl, rfl, rfl, rfl, rfl, rfl, rfl, rfl, rfl, rfl, rfl, rfl, rfl, rfl, rfl⟩, M⟩
        ·
         have h111p := of_decide_eq_false h111
         refine W.drawn M [0, 1, 2, 3, 4, 5, 6, 7, 8, 9, 10, 11, 12, 13, 14, 15, 16, 17, 18, 19, 20, 21, 22, 23, 24, 25, 26, 27, 28] [6] [] [own 35 3 v99 ((sortP ps_).length) ((sortP ps_).flatMap pinE), blk zb7 (.cells #[(Value.map (some zm8)), (Value.int .u64 (max (fo_ : Int) (minE now2_ ps_ : Int)))] 87), mapP zm8 ps_, own 35 3 v18 ((sortP ps_).length) ((sortP ps_).flatMap pinE)] [SlAt 6 v l.length cs3, RepL HActT cs3 l, RepS HActT v l] (List.Sublist.cons_cons _ (List.Sublist.cons_cons _ (List.Sublist.cons_cons _ (List.Sublist.cons_cons _ List.Sublist.slnil)))) (fun _ h => h) Try.mixed (by kernel_rfl) ?_
         refine TW.pure (v := v99) rfl (by decide) (by decide) rfl (fun w => (Step.move rfl)) ?_
         refine TW.pure (v := (Value.int .i64 ↑k_)) rfl (by decide) (by decide) rfl (fun w => (Step.move rfl)) ?_
         refine TW.pure (v := (Value.pointer (some ⟨(sBlk v99), sOff v99 + k_ * 3, none⟩))) rfl (by decide) (by decide) rfl (fun w => (Step.indexAddr (i := k_) (Try.un33).run Try.el35.sized rfl rfl (by omega) hb107 (by omega))) ?_
         refine TW.pure (v := (Value.pointer (some ⟨(sBlk v99), sOff v99 + k_ * 3 + 2, none⟩))) rfl (by decide) (by decide) rfl (fun w => (Step.pure (by kernel_rfl))) ?_
         refine TW.read (v := (Value.int .u64 x109.epoch)) rfl (by decide) (by decide) rfl (fun A w M => (Step.loadE (k := 2) Try.sc23 (flat_ec (own_slAt (M.chunk 1 rfl).inv) hx109 pinE_len) (by decide) rfl rfl)) ?_
         refine TW.pure (v := (Value.pointer (some ⟨zb7, 0, none⟩))) rfl (by decide) (by decide) rfl (fun w => (Step.move rfl)) ?_
         refine TW.callX (ι := Unit) (fun jx v_ => v_ = (Value.int .u64 (max (fo_ : Int) (minE now2_ ps_ : Int)))) (fun jx => [own 35 3 v99 ((sortP ps_).length) ((sortP ps_).flatMap pinE), blk zb7 (.cells #[(Value.map (some zm8)), (Value.int .u64 (max (fo_ : Int) (minE now2_ ps_ : Int)))] 87), mapP zm8 ps_, own 35 3 v18 ((sortP ps_).length) ((sortP ps_).flatMap pinE)]) (fun jx => [SlAt 6 v l.length cs3, RepL HActT cs3 l, RepS HActT v l]) rfl (by decide) rfl (fun jx => (List.Sublist.cons_cons _ (List.Sublist.cons_cons _ (List.Sublist.cons_cons _ (List.Sublist.cons_cons _ List.Sublist.slnil))))) (fun jx r h => h) (fun A w M => Rets.mono (hz_floor zb7 zm8 ps_ (max (fo_ : Int) (minE now2_ ps_ : Int)) (M.enterW (C := [blk zb7 (.cells #[(Value.map (some zm8)), (Value.int .u64 (max (fo_ : Int) (minE now2_ ps_ : Int)))] 87), mapP zm8 ps_]) (D := [fl A, own 35 3 v99 ((sortP ps_).length) ((sortP ps_).flatMap pinE), own 35 3 v18 ((sortP ps_).length) ((sortP ps_).flatMap pinE)]) [2, 3, 0, 1, 4] rfl (by decide) trivial)) (fun v_ w_ ⟨e_, m⟩ => ⟨(), e_, (M.leaveW (C := [blk zb7 (.cells #[(Value.map (some zm8)), (Value.int .u64 (max (fo_ : Int) (minE now2_ ps_ : Int)))] 87), mapP zm8 ps_]) (D := [fl A, own 35 3 v99 ((sortP ps_).length) ((sortP ps_).flatMap pinE), own 35 3 v18 ((sortP ps_).length) ((sortP ps_).flatMap pinE)]) [2, 3, 0, 1, 4] rfl (by decide) m).sel (L' := [fl A, own 35 3 v99 ((sortP ps_).length) ((sortP ps_).flatMap pinE), blk zb7 (.cells #[(Value.map (some zm8)), (Value.int .u64 (max (fo_ : Int) (minE now2_ ps_ : Int)))] 87), mapP zm8 ps_, own 35 3 v18 ((sortP ps_).length) ((sortP ps_).flatMap pinE)]) [2, 3, 0, 1, 4] rfl (by decide), fun b hb => M.keptW (C := [blk zb7 (.cells #[(Value.map (some zm8)), (Value.int .u64 (max (fo_ : Int) (minE now2_ ps_ : Int)))] 87), mapP zm8 ps_]) (D := [fl A, own 35 3 v99 ((sortP ps_).length) ((sortP ps_).flatMap pinE), own 35 3 v18 ((sortP ps_).length) ((sortP ps_).flatMap pinE)]) [2, 3, 0, 1, 4] rfl (by decide) m (fl A) (List.mem_cons_self ..) b hb⟩)) (fun w => CallsF.func Try.en17 rfl) (fun jx v hp hin => ?_)
         replace hp := hp.symm; subst hp
         clear hin
         change TW _ _ _ _ _ _ _ _ (MemA _ _ _ [own 35 3 v99 ((sortP ps_).length) ((sortP ps_).flatMap pinE), blk zb7 (.cells #[(Value.map (some zm8)), (Value.int .u64 (max (fo_ : Int) (minE now2_ ps_ : Int)))] 87), mapP zm8 ps_, own 35 3 v18 ((sortP ps_).length) ((sortP ps_).flatMap pinE)] [SlAt 6 v l.length cs3, RepL HActT cs3 l, RepS HActT v l])
         refine TW.pure (v := (Value.bool false)) rfl (by decide) (by decide) rfl (fun w => (Step.cast (congrArg Value.bool (show (decide ((x109.epoch : Int) < ((max (fo_ : Int) (minE now2_ ps_ : Int)) : Int))) = false by rw [decide_eq_false_iff_not]; omega)) (Step.pure (by kernel_rfl)))) ?_
         refine TW.pure (v := (Value.bool false)) rfl (by decide) (by decide) rfl (fun w => (Step.move rfl)) ?_
         refine TW.pure (v := v99) rfl (by decide) (by decide) rfl (fun w => (Step.move rfl)) ?_
         refine TW.pure (v := (Value.int .i64 ↑k_)) rfl (by decide) (by decide) rfl (fun w => (Step.move rfl)) ?_
         refine TW.pure (v := (Value.pointer (some ⟨(sBlk v99), sOff v99 + k_ * 3, none⟩))) rfl (by decide) (by decide) rfl (fun w => (Step.indexAddr (i := k_) (Try.un33).run Try.el35.sized rfl rfl (by omega) hb107 (by omega))) ?_
         refine TW.pure (v := (Value.pointer (some ⟨(sBlk v99), sOff v99 + k_ * 3 + 2, none⟩))) rfl (by decide) (by decide) rfl (fun w => (Step.pure (by kernel_rfl))) ?_
         refine TW.read (v := (Value.int .u64 x109.epoch)) rfl (by decide) (by decide) rfl (fun A w M => (Step.loadE (k := 2) Try.sc23 (flat_ec (own_slAt (M.chunk 1 rfl).inv) hx109 pinE_len) (by decide) rfl rfl)) ?_
         refine TW.pure (v := (Value.bool false)) rfl (by decide) (by decide) rfl (fun w => (Step.cast (congrArg Value.bool h111) (Step.pure (by kernel_rfl)))) ?_
         refine TW.pure (v := (Value.bool false)) rfl (by decide) (by decide) rfl (fun w => (Step.move rfl)) ?_
         refine TW.skip rfl rfl ?_
         refine TW.skip rfl rfl ?_
         refine TW.skip rfl rfl ?_
         refine TW.skip rfl rfl ?_
         refine TW.skip rfl rfl ?_
         refine TW.skip rfl rfl ?_
         refine TW.skip rfl rfl ?_
         refine TW.skip rfl rfl ?_
         refine TW.skip rfl rfl ?_
         refine TW.skip rfl rfl ?_
         refine TW.skip rfl rfl ?_
         refine TW.pure (v := (Value.bool false)) rfl (by decide) (by decide) rfl (fun w => (Step.pick (t := false) rfl rfl)) ?_
         refine TW.pure (v := (Value.bool false)) rfl (by decide) (by decide) rfl (fun w => (Step.pick (t := false) rfl rfl)) ?_
         refine TW.done (fun w113 M => ?_)
         refine W.cond (t := false) rfl (fun h => by cases h) (fun _ => ?_)
         refine W.skip ?_
         refine W.region rfl ?_
         refine WL.step (v := (Value.int .i64 ↑k_)) rfl (Step.move rfl) ?_
         refine WL.step (v := (Value.int .i64 (↑k_ + 1))) rfl (Step.add rfl rfl (wrap_i64 (by omega))) ?_
         refine WL.step (v := (Value.int .i64 (↑k_ + 1))) rfl (Step.assign rfl) ?_
         refine WL.nil ?_
         exact ⟨_, (by omega), k_ + 1, ⟨(by omega), rfl⟩, ⟨rfl, rfl, rfl, rfl, rfl, rfl, rfl, rfl, rfl, rfl, rfl, rfl, rfl, rfl, rfl, rfl, rfl, rfl, rfl, rfl, rfl, rfl, rfl, rfl, rfl, rfl, rfl, rfl, rfl, rfl, rfl, rfl, rfl, rfl, rfl, rfl, rfl, rfl, rfl, rfl, rfl, rfl, rfl, rfl, rfl, rfl, rfl, rfl, rfl, rfl, rfl, rfl, rfl, rfl, rfl, rfl, rfl, rfl, rfl⟩, M⟩
       ·
        have h106p := of_decide_eq_false h106
        refine W.exit ?_
        refine thn_exit ?_
        refine thn_exit ?_
        refine inBlk_hit ?_
        refine W.seq' ?_
        refine W.region rfl ?_
        refine WL.step (v := v18) rfl (Step.move rfl) ?_
        refine WL.step (v := (Value.int .i64 (↑((sortP ps_).length)))) rfl (Step.lenSl Try.un33 rfl (own_slAt (M.chunk 3 rfl).inv)) ?_
        refine WL.step (v := v99) rfl (Step.move rfl) ?_
        refine WL.step (v := (Value.int .i64 (↑((sortP ps_).length)))) rfl (Step.lenSl Try.un33 rfl (own_slAt (M.chunk 0 rfl).inv)) ?_
        refine WL.step (v := (Value.int .i64 (↑((sortP ps_).length) + 1))) rfl (Step.add rfl rfl (wrap_i64 (by omega))) ?_
        refine WL.step (v := (Value.bool false)) rfl (Step.cast (congrArg Value.bool (show (decide ((↑((sortP ps_).length) : Int) > (↑((sortP ps_).length) + 1 : Int))) = false by rw [decide_eq_false_iff_not]; omega)) (Step.pure (by kernel_rfl))) ?_
        refine WL.nil ?_
        refine W.cond (t := false) rfl (fun h => by cases h) (fun _ => ?_)
        refine W.skip ?_
        refine W.region rfl ?_
        refine WL.step (v := (Value.int .i64 ↑i_)) rfl (Step.move rfl) ?_
        refine WL.step (v := (Value.int .i64 (↑i_ + 1))) rfl (Step.add rfl rfl (wrap_i64 (by omega))) ?_
        refine WL.step (v := (Value.int .i64 (↑i_ + 1))) rfl (Step.assign rfl) ?_
        refine WL.nil ?_
        replace M := M.sel (L' := [blk zb7 (.cells #[(Value.map (some zm8)), (Value.int .u64 (max (fo_ : Int) (minE now2_ ps_ : Int)))] 87), mapP zm8 ps_]) [1, 2] rfl (by decide)
        exact ⟨_, (by omega), i_ + 1, ps_, (max (fo_ : Int) (minE now2_ ps_ : Int)), now2_, ⟨(by omega), hFl2_, (by omega), (by omega), rfl⟩, ⟨rfl, rfl, rfl, rfl, rfl, rfl⟩, M⟩
      ·
       have h94p : ¬ (pickI a24.do_ 6 : Int) = (5 : Int) := by simpa using h94
       refine W.seq' ?_
       refine W.region rfl ?_
       refine WL.step (v := (Value.pointer (some ⟨b27, 2, none⟩))) rfl (Step.pure (by kernel_rfl)) ?_
       refine WL.step (v := (Value.agg #[(Value.int .u8 a24.p.sort), (Value.int .u64 a24.p.id), (Value.int .u64 a24.p.epoch)])) rfl (Step.loadN Try.ag35 rfl (M.blk 0 rfl) (Nat.le_of_ble_eq_true rfl) rfl) ?_
       refine WL.alloc (c := #[(Value.int .u8 0), (Value.int .u64 0), (Value.int .u64 0)]) M rfl Try.el35.zero rfl (fun b114 w115 hb114 M => ?_)
       refine WL.store (v := (Value.agg #[(Value.int .u8 a24.p.sort), (Value.int .u64 a24.p.id), (Value.int .u64 a24.p.epoch)])) (cs := [(Value.int .u8 a24.p.sort), (Value.int .u64 a24.p.id), (Value.int .u64 a24.p.epoch)]) (c' := #[(Value.int .u8 a24.p.sort), (Value.int .u64 a24.p.id), (Value.int .u64 a24.p.epoch)]) M 0 rfl rfl Try.el35.sized rfl rfl rfl rfl (Nat.le_of_ble_eq_true rfl) (cel_cons rfl (cel_cons rfl (cel_cons rfl cel_nil))) rfl rfl (fun w116 M => ?_)
       refine WL.nil ?_
       refine W.seq' ?_
       refine W.region rfl ?_
       refine WL.step (v := (Value.int .u64 now2_)) rfl (Step.move rfl) ?_
       refine WL.step (v := (Value.int .u64 now2_)) rfl (Step.move rfl) ?_
       refine WL.step (v := (Value.pointer (some ⟨b27, 2, none⟩))) rfl (Step.pure (by kernel_rfl)) ?_
       refine WL.step (v := (Value.pointer (some ⟨b27, 4, none⟩))) rfl (Step.pure (by kernel_rfl)) ?_
       refine WL.step (v := (Value.int .u64 a24.p.epoch)) rfl (Step.load1 Try.sc23 rfl ((M.cell 1 rfl 4).trans rfl)) ?_
       refine WL.step (v := (Value.int .u64 ((a24.p.epoch : Int) % 8))) rfl (Step.remN rfl rfl (by omega) (by decide)) ?_
       refine WL.step (v := (Value.int .u64 (min (now2_ : Int) ((a24.p.epoch : Int) % 8 : Int)))) rfl (Step.minI rfl rfl) ?_
       obtain ⟨ep_, hep_⟩ : ∃ q : Int, ((now2_ : Int) - (min (now2_ : Int) ((a24.p.epoch : Int) % 8 : Int))) = q := ⟨_, rfl⟩
       refine WL.step (v := (Value.int .u64 ep_)) rfl (Step.cast (congrArg (Value.int .u64) hep_) (Step.sub rfl rfl (wrap_u64 (by omega)))) ?_
       refine WL.step (v := (Value.pointer (some ⟨b114, 2, none⟩))) rfl (Step.pure (by kernel_rfl)) ?_
       refine WL.store (v := (Value.int .u64 ep_)) (cs := [(Value.int .u64 ep_)]) (c' := #[(Value.int .u8 a24.p.sort), (Value.int .u64 a24.p.id), (Value.int .u64 ep_)]) M 0 rfl rfl Try.el23.sized rfl rfl rfl rfl (Nat.le_of_ble_eq_true rfl) (cel_cons rfl cel_nil) rfl rfl (fun w117 M => ?_)
       refine WL.nil ?_
       refine W.seq' ?_
       refine W.region rfl ?_
       refine WL.step (v := (Value.pointer (some ⟨zb7, 0, none⟩))) rfl (Step.move rfl) ?_
       refine WL.step (v := (Value.agg #[(Value.int .u8 a24.p.sort), (Value.int .u64 a24.p.id), (Value.int .u64 ep_)])) rfl (Step.loadN Try.ag35 rfl (M.blk 0 rfl) (Nat.le_of_ble_eq_true rfl) rfl) ?_
       refine WL.new (obj := .cells #[(Value.int .u8 a24.p.sort), (Value.int .u64 a24.p.id), (Value.int .u64 ep_)] 35) (fun b => .slice (some ⟨b, 0, none⟩) 1 1) M rfl (fun w => Step.make (by kernel_rfl)) (fun b118 w119 hb118 M => ?_)
       refine WL.callX rfl (hz_pin zb7 zm8 ps_ fo_ (Value.slice (some ⟨b118, 0, none⟩) 1 1) ([(⟨a24.p.sort, a24.p.id, ep_⟩ : PinH)] : List PinH) (M.enterW (C := [blk zb7 (.cells #[(Value.map (some zm8)), (Value.int .u64 fo_)] 87), mapP zm8 ps_]) (D := [blk b118 (.cells #[(Value.int .u8 a24.p.sort), (Value.int .u64 a24.p.id), (Value.int .u64 ep_)] 35), blk b114 (.cells #[(Value.int .u8 a24.p.sort), (Value.int .u64 a24.p.id), (Value.int .u64 ep_)] 35), blk b27 (.cells #[(Value.int .i64 a24.do_), lv25, (Value.int .u8 a24.p.sort), (Value.int .u64 a24.p.id), (Value.int .u64 a24.p.epoch), (Value.int .u64 a24.now)] 37), own 35 3 v18 ((sortP ps_).length) ((sortP ps_).flatMap pinE)]) [4, 5, 0, 1, 2, 3] rfl (by decide) ⟨((M.wideC (C := [blk zb7 (.cells #[(Value.map (some zm8)), (Value.int .u64 fo_)] 87), mapP zm8 ps_]) (D := [blk b118 (.cells #[(Value.int .u8 a24.p.sort), (Value.int .u64 a24.p.id), (Value.int .u64 ep_)] 35), blk b114 (.cells #[(Value.int .u8 a24.p.sort), (Value.int .u64 a24.p.id), (Value.int .u64 ep_)] 35), blk b27 (.cells #[(Value.int .i64 a24.do_), lv25, (Value.int .u8 a24.p.sort), (Value.int .u64 a24.p.id), (Value.int .u64 a24.p.epoch), (Value.int .u64 a24.now)] 37), own 35 3 v18 ((sortP ps_).length) ((sortP ps_).flatMap pinE)]) [4, 5, 0, 1, 2, 3] rfl (by decide) 0 rfl).imp fun _ h => SlAt.of_blk (n := 1) (size := 3) h rfl (by decide)), trivial⟩)) (CallsF.func Try.en28 rfl) ?_
       rintro _ w120 ⟨rfl, m⟩
       replace M := M.leaveW (C := [blk zb7 (.cells #[(Value.map (some zm8)), (Value.int .u64 fo_)] 87), mapP zm8 ps_]) (D := [blk b118 (.cells #[(Value.int .u8 a24.p.sort), (Value.int .u64 a24.p.id), (Value.int .u64 ep_)] 35), blk b114 (.cells #[(Value.int .u8 a24.p.sort), (Value.int .u64 a24.p.id), (Value.int .u64 ep_)] 35), blk b27 (.cells #[(Value.int .i64 a24.do_), lv25, (Value.int .u8 a24.p.sort), (Value.int .u64 a24.p.id), (Value.int .u64 a24.p.epoch), (Value.int .u64 a24.now)] 37), own 35 3 v18 ((sortP ps_).length) ((sortP ps_).flatMap pinE)]) [4, 5, 0, 1, 2, 3] rfl (by decide) m
       clear m
       replace M : Mem _ _ _ [blk zb7 (.cells #[(Value.map (some zm8)), (Value.int .u64 fo_)] 87), mapP zm8 (pinS ps_ fo_ ([(⟨a24.p.sort, a24.p.id, ep_⟩ : PinH)] : List PinH)), blk b118 (.cells #[(Value.int .u8 a24.p.sort), (Value.int .u64 a24.p.id), (Value.int .u64 ep_)] 35), blk b114 (.cells #[(Value.int .u8 a24.p.sort), (Value.int .u64 a24.p.id), (Value.int .u64 ep_)] 35), blk b27 (.cells #[(Value.int .i64 a24.do_), lv25, (Value.int .u8 a24.p.sort), (Value.int .u64 a24.p.id), (Value.int .u64 a24.p.epoch), (Value.int .u64 a24.now)] 37), own 35 3 v18 ((sortP ps_).length) ((sortP ps_).flatMap pinE)] [EC v 6 i_ [(Value.int .i64 a24.do_), lv25, (Value.int .u8 a24.p.sort), (Value.int .u64 a24.p.id), (Value.int .u64 a24.p.epoch), (Value.int .u64 a24.now)], SlAt 3 lv25 a24.l.length (a24.l.flatMap pinE), SlAt 6 v l.length cs3, RepL HActT cs3 l, RepS HActT v l] _ := M
       have hFl2_ : FlI (pinS ps_ fo_ ([(⟨a24.p.sort, a24.p.id, ep_⟩ : PinH)] : List PinH)) fo_ now2_ := hFl1_.pin (p := (⟨a24.p.sort, a24.p.id, ep_⟩ : PinH)) (by simp only; omega)
       have hln_ := pin1_len ps_ fo_ (⟨a24.p.sort, a24.p.id, ep_⟩ : PinH)
       have hdl_ := pinS_low ps_ fo_ [(⟨a24.p.sort, a24.p.id, ep_⟩ : PinH)]
       obtain ⟨ps2_, hps2_⟩ : ∃ q : List PinH, (pinS ps_ fo_ ([(⟨a24.p.sort, a24.p.id, ep_⟩ : PinH)] : List PinH)) = q := ⟨_, rfl⟩
       rw [hps2_] at hFl2_ hln_ hdl_
       replace M := M.rechunk 1 (c' := mapP zm8 ps2_) rfl (by rw [hps2_])
       replace M : Mem _ _ _ [blk zb7 (.cells #[(Value.map (some zm8)), (Value.int .u64 fo_)] 87), mapP zm8 ps2_, blk b118 (.cells #[(Value.int .u8 a24.p.sort), (Value.int .u64 a24.p.id), (Value.int .u64 ep_)] 35), blk b114 (.cells #[(Value.int .u8 a24.p.sort), (Value.int .u64 a24.p.id), (Value.int .u64 ep_)] 35), blk b27 (.cells #[(Value.int .i64 a24.do_), lv25, (Value.int .u8 a24.p.sort), (Value.int .u64 a24.p.id), (Value.int .u64 a24.p.epoch), (Value.int .u64 a24.now)] 37), own 35 3 v18 ((sortP ps_).length) ((sortP ps_).flatMap pinE)] [EC v 6 i_ [(Value.int .i64 a24.do_), lv25, (Value.int .u8 a24.p.sort), (Value.int .u64 a24.p.id), (Value.int .u64 a24.p.epoch), (Value.int .u64 a24.now)], SlAt 3 lv25 a24.l.length (a24.l.flatMap pinE), SlAt 6 v l.length cs3, RepL HActT cs3 l, RepS HActT v l] _ := M
       have hap2_ := hFl2_.apart
       have hsb_ := sortP_len hap2_
       have hfl2_ := hFl2_.floor
       refine WL.step (v := (Value.int .i64 (pinC ps_ fo_ ([(⟨a24.p.sort, a24.p.id, ep_⟩ : PinH)] : List PinH)))) rfl (Step.assign rfl) ?_
       refine WL.nil ?_
       refine W.seq' ?_
       refine W.region rfl ?_
       refine WL.step (v := (Value.pointer (some ⟨zb7, 0, none⟩))) rfl (Step.move rfl) ?_
       refine WL.step (v := (Value.pointer (some ⟨b114, 2, none⟩))) rfl (Step.pure (by kernel_rfl)) ?_
       refine WL.step (v := (Value.int .u64 ep_)) rfl (Step.load1 Try.sc23 rfl ((M.cell 3 rfl 2).trans rfl)) ?_
       refine WL.step (v := (Value.int .u64 now2_)) rfl (Step.move rfl) ?_
       refine WL.callX rfl (hz_read zb7 zm8 ps2_ fo_ ep_ now2_ (M.enterW (C := [blk zb7 (.cells #[(Value.map (some zm8)), (Value.int .u64 fo_)] 87), mapP zm8 ps2_]) (D := [blk b118 (.cells #[(Value.int .u8 a24.p.sort), (Value.int .u64 a24.p.id), (Value.int .u64 ep_)] 35), blk b114 (.cells #[(Value.int .u8 a24.p.sort), (Value.int .u64 a24.p.id), (Value.int .u64 ep_)] 35), blk b27 (.cells #[(Value.int .i64 a24.do_), lv25, (Value.int .u8 a24.p.sort), (Value.int .u64 a24.p.id), (Value.int .u64 a24.p.epoch), (Value.int .u64 a24.now)] 37), own 35 3 v18 ((sortP ps_).length) ((sortP ps_).flatMap pinE)]) [0, 1, 2, 3, 4, 5] rfl (by decide) trivial)) (CallsF.func Try.en22 rfl) ?_
       rintro _ w121 ⟨rfl, m⟩
       replace M := M.leaveW (C := [blk zb7 (.cells #[(Value.map (some zm8)), (Value.int .u64 fo_)] 87), mapP zm8 ps2_]) (D := [blk b118 (.cells #[(Value.int .u8 a24.p.sort), (Value.int .u64 a24.p.id), (Value.int .u64 ep_)] 35), blk b114 (.cells #[(Value.int .u8 a24.p.sort), (Value.int .u64 a24.p.id), (Value.int .u64 ep_)] 35), blk b27 (.cells #[(Value.int .i64 a24.do_), lv25, (Value.int .u8 a24.p.sort), (Value.int .u64 a24.p.id), (Value.int .u64 a24.p.epoch), (Value.int .u64 a24.now)] 37), own 35 3 v18 ((sortP ps_).length) ((sortP ps_).flatMap pinE)]) [0, 1, 2, 3, 4, 5] rfl (by decide) m
       replace M := M.sel (L' := [blk zb7 (.cells #[(Value.map (some zm8)), (Value.int .u64 fo_)] 87), mapP zm8 ps2_, blk b118 (.cells #[(Value.int .u8 a24.p.sort), (Value.int .u64 a24.p.id), (Value.int .u64 ep_)] 35), blk b114 (.cells #[(Value.int .u8 a24.p.sort), (Value.int .u64 a24.p.id), (Value.int .u64 ep_)] 35), blk b27 (.cells #[(Value.int .i64 a24.do_), lv25, (Value.int .u8 a24.p.sort), (Value.int .u64 a24.p.id), (Value.int .u64 a24.p.epoch), (Value.int .u64 a24.now)] 37), own 35 3 v18 ((sortP ps_).length) ((sortP ps_).flatMap pinE)]) [0, 1, 2, 3, 4, 5] rfl (by decide)
       clear m
       replace M : Mem _ _ _ [blk zb7 (.cells #[(Value.map (some zm8)), (Value.int .u64 fo_)] 87), mapP zm8 ps2_, blk b118 (.cells #[(Value.int .u8 a24.p.sort), (Value.int .u64 a24.p.id), (Value.int .u64 ep_)] 35), blk b114 (.cells #[(Value.int .u8 a24.p.sort), (Value.int .u64 a24.p.id), (Value.int .u64 ep_)] 35), blk b27 (.cells #[(Value.int .i64 a24.do_), lv25, (Value.int .u8 a24.p.sort), (Value.int .u64 a24.p.id), (Value.int .u64 a24.p.epoch), (Value.int .u64 a24.now)] 37), own 35 3 v18 ((sortP ps_).length) ((sortP ps_).flatMap pinE)] [EC v 6 i_ [(Value.int .i64 a24.do_), lv25, (Value.int .u8 a24.p.sort), (Value.int .u64 a24.p.id), (Value.int .u64 a24.p.epoch), (Value.int .u64 a24.now)], SlAt 3 lv25 a24.l.length (a24.l.flatMap pinE), SlAt 6 v l.length cs3, RepL HActT cs3 l, RepS HActT v l] _ := M
       refine WL.step (v := (Value.tuple #[(Value.int .u64 ((readV fo_ ep_ now2_).1)), (Value.int .i64 ((readV fo_ ep_ now2_).2))])) rfl (Step.move rfl) ?_
       refine WL.step (v := (Value.int .u64 ((readV fo_ ep_ now2_).1))) rfl (Step.pure (by kernel_rfl)) ?_
       refine WL.step (v := (Value.int .i64 ((readV fo_ ep_ now2_).2))) rfl (Step.pure (by kernel_rfl)) ?_
       refine WL.step (v := (Value.int .u64 ((readV fo_ ep_ now2_).1))) rfl (Step.assign rfl) ?_
       refine WL.step (v := (Value.int .i64 ((readV fo_ ep_ now2_).2))) rfl (Step.assign rfl) ?_
       refine WL.nil ?_
       refine W.seq' ?_
       refine W.region rfl ?_
       refine WL.step (v := (Value.int .i64 (pinC ps_ fo_ ([(⟨a24.p.sort, a24.p.id, ep_⟩ : PinH)] : List PinH)))) rfl (Step.move rfl) ?_
       refine WL.step (v := (Value.bool ((pinC ps_ fo_ ([(⟨a24.p.sort, a24.p.id, ep_⟩ : PinH)] : List PinH) : Int) == (0 : Int)))) rfl (Step.pure (by kernel_rfl)) ?_
       refine WL.step (v := (Value.bool ((pinC ps_ fo_ ([(⟨a24.p.sort, a24.p.id, ep_⟩ : PinH)] : List PinH) : Int) == (0 : Int)))) rfl (Step.move rfl) ?_
       rcases Bool.eq_false_or_eq_true ((pinC ps_ fo_ ([(⟨a24.p.sort, a24.p.id, ep_⟩ : PinH)] : List PinH) : Int) == (0 : Int)) with h122 | h122
       ·
        have h122p : (pinC ps_ fo_ ([(⟨a24.p.sort, a24.p.id, ep_⟩ : PinH)] : List PinH) : Int) = (0 : Int) := by simpa using h122
        rw [h122]
        refine WL.step (v := (Value.pointer (some ⟨b114, 2, none⟩))) rfl (Step.pure (by kernel_rfl)) ?_
        refine WL.step (v := (Value.int .u64 ep_)) rfl (Step.load1 Try.sc23 rfl ((M.cell 3 rfl 2).trans rfl)) ?_
        refine WL.step (v := (Value.bool (decide ((ep_ : Int) > (0 : Int))))) rfl (Step.pure (by kernel_rfl)) ?_
        refine WL.step (v := (Value.bool (decide ((ep_ : Int) > (0 : Int))))) rfl (Step.pick (t := true) rfl rfl) ?_
        refine WL.step (v := (Value.bool (decide ((ep_ : Int) > (0 : Int))))) rfl (Step.move rfl) ?_
        rcases Bool.eq_false_or_eq_true (decide ((ep_ : Int) > (0 : Int))) with h123 | h123
        ·
         have h123p := of_decide_eq_true h123
         rw [h123]
         refine WL.step (v := (Value.int .i64 ((readV fo_ ep_ now2_).2))) rfl (Step.move rfl) ?_
         refine WL.step (v := (Value.bool false)) rfl (Step.cast (congrArg Value.bool (show (((readV fo_ ep_ now2_).2 : Int) != (0 : Int)) = false by rw [read_ok h123p (pinC_ok h122p) (by omega)]; rfl)) (Step.pure (by kernel_rfl))) ?_
         refine WL.step (v := (Value.bool false)) rfl (Step.pick (t := true) rfl rfl) ?_
         refine WL.nil ?_
         refine W.cond (t := false) rfl (fun h => by cases h) (fun _ => ?_)
         refine W.skip ?_
         refine W.seq' ?_
         refine W.seq' ?_
         refine W.region rfl ?_
         refine WL.step (v := (Value.pointer (some ⟨zb7, 0, none⟩))) rfl (Step.move rfl) ?_
         refine WL.callX rfl (hz_floor zb7 zm8 ps2_ fo_ (M.enterW (C := [blk zb7 (.cells #[(Value.map (some zm8)), (Value.int .u64 fo_)] 87), mapP zm8 ps2_]) (D := [blk b118 (.cells #[(Value.int .u8 a24.p.sort), (Value.int .u64 a24.p.id), (Value.int .u64 ep_)] 35), blk b114 (.cells #[(Value.int .u8 a24.p.sort), (Value.int .u64 a24.p.id), (Value.int .u64 ep_)] 35), blk b27 (.cells #[(Value.int .i64 a24.do_), lv25, (Value.int .u8 a24.p.sort), (Value.int .u64 a24.p.id), (Value.int .u64 a24.p.epoch), (Value.int .u64 a24.now)] 37), own 35 3 v18 ((sortP ps_).length) ((sortP ps_).flatMap pinE)]) [0, 1, 2, 3, 4, 5] rfl (by decide) trivial)) (CallsF.func Try.en17 rfl) ?_
         rintro _ w124 ⟨rfl, m⟩
         replace M := M.leaveW (C := [blk zb7 (.cells #[(Value.map (some zm8)), (Value.int .u64 fo_)] 87), mapP zm8 ps2_]) (D := [blk b118 (.cells #[(Value.int .u8 a24.p.sort), (Value.int .u64 a24.p.id), (Value.int .u64 ep_)] 35), blk b114 (.cells #[(Value.int .u8 a24.p.sort), (Value.int .u64 a24.p.id), (Value.int .u64 ep_)] 35), blk b27 (.cells #[(Value.int .i64 a24.do_), lv25, (Value.int .u8 a24.p.sort), (Value.int .u64 a24.p.id), (Value.int .u64 a24.p.epoch), (Value.int .u64 a24.now)] 37), own 35 3 v18 ((sortP ps_).length) ((sortP ps_).flatMap pinE)]) [0, 1, 2, 3, 4, 5] rfl (by decide) m
         replace M := M.sel (L' := [blk zb7 (.cells #[(Value.map (some zm8)), (Value.int .u64 fo_)] 87), mapP zm8 ps2_, blk b118 (.cells #[(Value.int .u8 a24.p.sort), (Value.int .u64 a24.p.id), (Value.int .u64 ep_)] 35), blk b114 (.cells #[(Value.int .u8 a24.p.sort), (Value.int .u64 a24.p.id), (Value.int .u64 ep_)] 35), blk b27 (.cells #[(Value.int .i64 a24.do_), lv25, (Value.int .u8 a24.p.sort), (Value.int .u64 a24.p.id), (Value.int .u64 a24.p.epoch), (Value.int .u64 a24.now)] 37), own 35 3 v18 ((sortP ps_).length) ((sortP ps_).flatMap pinE)]) [0, 1, 2, 3, 4, 5] rfl (by decide)
         clear m
         replace M : Mem _ _ _ [blk zb7 (.cells #[(Value.map (some zm8)), (Value.int .u64 fo_)] 87), mapP zm8 ps2_, blk b118 (.cells #[(Value.int .u8 a24.p.sort), (Value.int .u64 a24.p.id), (Value.int .u64 ep_)] 35), blk b114 (.cells #[(Value.int .u8 a24.p.sort), (Value.int .u64 a24.p.id), (Value.int .u64 ep_)] 35), blk b27 (.cells #[(Value.int .i64 a24.do_), lv25, (Value.int .u8 a24.p.sort), (Value.int .u64 a24.p.id), (Value.int .u64 a24.p.epoch), (Value.int .u64 a24.now)] 37), own 35 3 v18 ((sortP ps_).length) ((sortP ps_).flatMap pinE)] [EC v 6 i_ [(Value.int .i64 a24.do_), lv25, (Value.int .u8 a24.p.sort), (Value.int .u64 a24.p.id), (Value.int .u64 a24.p.epoch), (Value.int .u64 a24.now)], SlAt 3 lv25 a24.l.length (a24.l.flatMap pinE), SlAt 6 v l.length cs3, RepL HActT cs3 l, RepS HActT v l] _ := M
         replace M := M.sel (L' := [blk zb7 (.cells #[(Value.map (some zm8)), (Value.int .u64 fo_)] 87), mapP zm8 ps2_, own 35 3 v18 ((sortP ps_).length) ((sortP ps_).flatMap pinE)]) [0, 1, 5] rfl (by decide)
         replace M : Mem _ _ _ [blk zb7 (.cells #[(Value.map (some zm8)), (Value.int .u64 fo_)] 87), mapP zm8 ps2_, own 35 3 v18 ((sortP ps_).length) ((sortP ps_).flatMap pinE)] [EC v 6 i_ [(Value.int .i64 a24.do_), lv25, (Value.int .u8 a24.p.sort), (Value.int .u64 a24.p.id), (Value.int .u64 a24.p.epoch), (Value.int .u64 a24.now)], SlAt 3 lv25 a24.l.length (a24.l.flatMap pinE), SlAt 6 v l.length cs3, RepL HActT cs3 l, RepS HActT v l] _ := M
         replace M := M.sub (List.Sublist.refl _) (R' := [SlAt 6 v l.length cs3, RepL HActT cs3 l, RepS HActT v l]) (fun r h => (List.mem_cons_of_mem _ (List.mem_cons_of_mem _ h)))
         replace M : Mem _ _ _ [blk zb7 (.cells #[(Value.map (some zm8)), (Value.int .u64 fo_)] 87), mapP zm8 ps2_, own 35 3 v18 ((sortP ps_).length) ((sortP ps_).flatMap pinE)] [SlAt 6 v l.length cs3, RepL HActT cs3 l, RepS HActT v l] _ := M
         refine WL.step (v := (Value.int .u64 fo_)) rfl (Step.move rfl) ?_
         refine WL.step (v := (Value.bool false)) rfl (Step.cast (congrArg Value.bool (show (decide ((fo_ : Int) < (fo_ : Int))) = false by rw [decide_eq_false_iff_not]; omega)) (Step.pure (by kernel_rfl))) ?_
         refine WL.step (v := (Value.bool false)) rfl (Step.move rfl) ?_
         refine WL.step (v := (Value.pointer (some ⟨zb7, 0, none⟩))) rfl (Step.move rfl) ?_
         refine WL.callX rfl (hz_floor zb7 zm8 ps2_ fo_ (M.enterW (C := [blk zb7 (.cells #[(Value.map (some zm8)), (Value.int .u64 fo_)] 87), mapP zm8 ps2_]) (D := [own 35 3 v18 ((sortP ps_).length) ((sortP ps_).flatMap pinE)]) [0, 1, 2] rfl (by decide) trivial)) (CallsF.func Try.en17 rfl) ?_
         rintro _ w125 ⟨rfl, m⟩
         replace M := M.leaveW (C := [blk zb7 (.cells #[(Value.map (some zm8)), (Value.int .u64 fo_)] 87), mapP zm8 ps2_]) (D := [own 35 3 v18 ((sortP ps_).length) ((sortP ps_).flatMap pinE)]) [0, 1, 2] rfl (by decide) m
         replace M := M.sel (L' := [blk zb7 (.cells #[(Value.map (some zm8)), (Value.int .u64 fo_)] 87), mapP zm8 ps2_, own 35 3 v18 ((sortP ps_).length) ((sortP ps_).flatMap pinE)]) [0, 1, 2] rfl (by decide)
         clear m
         replace M : Mem _ _ _ [blk zb7 (.cells #[(Value.map (some zm8)), (Value.int .u64 fo_)] 87), mapP zm8 ps2_, own 35 3 v18 ((sortP ps_).length) ((sortP ps_).flatMap pinE)] [SlAt 6 v l.length cs3, RepL HActT cs3 l, RepS HActT v l] _ := M
         refine WL.step (v := (Value.int .u64 now2_)) rfl (Step.move rfl) ?_
         refine WL.step (v := (Value.bool false)) rfl (Step.cast (congrArg Value.bool (show (decide ((fo_ : Int) > (now2_ : Int))) = false by rw [decide_eq_false_iff_not]; omega)) (Step.pure (by kernel_rfl))) ?_
         refine WL.step (v := (Value.bool false)) rfl (Step.pick (t := false) rfl rfl) ?_
         refine WL.nil ?_
         refine W.cond (t := false) rfl (fun h => by cases h) (fun _ => ?_)
         refine W.skip ?_
         refine W.seq' ?_
         refine W.region rfl ?_
         refine WL.step (v := (Value.pointer (some ⟨zb7, 0, none⟩))) rfl (Step.move rfl) ?_
         refine WL.callX rfl (hz_pins zb7 zm8 ps2_ fo_ (by first | omega | (simp; done)) (by assumption) (M.enterW (C := [blk zb7 (.cells #[(Value.map (some zm8)), (Value.int .u64 fo_)] 87), mapP zm8 ps2_]) (D := [own 35 3 v18 ((sortP ps_).length) ((sortP ps_).flatMap pinE)]) [0, 1, 2] rfl (by decide) trivial)) (CallsF.func Try.en14 rfl) ?_
         rintro v126 w127 ⟨_, rfl, m⟩
         replace M := M.leaveW (C := [blk zb7 (.cells #[(Value.map (some zm8)), (Value.int .u64 fo_)] 87), mapP zm8 ps2_]) (D := [own 35 3 v18 ((sortP ps_).length) ((sortP ps_).flatMap pinE)]) [0, 1, 2] rfl (by decide) m
         replace M := M.sel (L' := [own 35 3 v126 ((sortP ps2_).length) ((sortP ps2_).flatMap pinE), blk zb7 (.cells #[(Value.map (some zm8)), (Value.int .u64 fo_)] 87), mapP zm8 ps2_, own 35 3 v18 ((sortP ps_).length) ((sortP ps_).flatMap pinE)]) [2, 0, 1, 3] rfl (by decide)
         clear m
         replace M : Mem _ _ _ [own 35 3 v126 ((sortP ps2_).length) ((sortP ps2_).flatMap pinE), blk zb7 (.cells #[(Value.map (some zm8)), (Value.int .u64 fo_)] 87), mapP zm8 ps2_, own 35 3 v18 ((sortP ps_).length) ((sortP ps_).flatMap pinE)] [SlAt 6 v l.length cs3, RepL HActT cs3 l, RepS HActT v l] _ := M
         have sl128 : IsSl v126 := SlAt.isSl (own_slAt (Mem.chunk M 0 rfl).inv)
         have hle129 := SlAt.le' (own_slAt (Mem.chunk M 0 rfl).inv)
         refine WL.step (v := v126) rfl (Step.assign rfl) ?_
         refine WL.nil ?_
         refine W.seq' ?_
         refine W.seq' ?_
         refine W.region rfl ?_
         refine WL.step (v := (Value.int .i64 0)) rfl (Step.assign rfl) ?_
         refine WL.nil ?_
         refine W.block ?_
         refine W.loop (fun kk ρ w' => ∃ (k_ : Nat), ((k_ ≤ (sortP ps2_).length) ∧ kk = (sortP ps2_).length - k_) ∧ ρ.has [(0, v), (3, (Value.pointer (some ⟨zb7, 0, none⟩))), (4, (Value.int .u64 now2_)), (5, (Value.int .i64 ↑i_)), (6, (Value.int .u64 fo_)), (7, v18), (8, (Value.pointer (some ⟨b27, 0, none⟩))), (10, (Value.pointer (some ⟨b114, 0, none⟩))), (11, (Value.int .i64 (pinC ps_ fo_ ([(⟨a24.p.sort, a24.p.id, ep_⟩ : PinH)] : List PinH)))), (13, (Value.int .i64 ((readV fo_ ep_ now2_).2))), (14, v126), (15, (Value.int .i64 ↑k_)), (25, (Value.int .i64 ↑i_)), (26, v), (27, (Value.int .i64 ↑l.length)), (28, (Value.bool (decide ((↑i_ : Int) < (↑l.length : Int))))), (31, (Value.pointer (some ⟨zb7, 0, none⟩))), (32, (Value.int .u64 fo_)), (33, (Value.pointer (some ⟨zb7, 0, none⟩))), (34, v18), (35, (Value.int .u64 now_)), (36, v), (37, (Value.int .i64 ↑i_)), (38, (Value.pointer (some ⟨(sBlk v), sOff v + i_ * 6, none⟩))), (39, (Value.pointer (some ⟨(sBlk v), sOff v + i_ * 6 + 5, none⟩))), (40, (Value.int .u64 a24.now)), (41, (Value.int .u64 ((a24.now : Int) % 1048576))), (42, (Value.int .u64 now2_)), (43, v), (44, (Value.int .i64 ↑i_)), (45, (Value.pointer (some ⟨(sBlk v), sOff v + i_ * 6, none⟩))), (46, (Value.agg #[(Value.int .i64 a24.do_), lv25, (Value.int .u8 a24.p.sort), (Value.int .u64 a24.p.id), (Value.int .u64 a24.p.epoch), (Value.int .u64 a24.now)])), (47, (Value.pointer (some ⟨b27, 0, none⟩))), (48, (Value.int .i64 a24.do_)), (49, (Value.int .i64 (pickI a24.do_ 6))), (50, (Value.pointer (some ⟨b27, 2, none⟩))), (51, (Value.agg #[(Value.int .u8 a24.p.sort), (Value.int .u64 a24.p.id), (Value.int .u64 a24.p.epoch)])), (52, (Value.int .u64 now2_)), (53, (Value.int .u64 now2_)), (54, (Value.pointer (some ⟨b27, 2, none⟩))), (55, (Value.pointer (some ⟨b27, 4, none⟩))), (56, (Value.int .u64 a24.p.epoch)), (57, (Value.int .u64 ((a24.p.epoch : Int) % 8))), (58, (Value.int .u64 (min (now2_ : Int) ((a24.p.epoch : Int) % 8 : Int)))), (59, (Value.int .u64 ep_)), (60, (Value.pointer (some ⟨b114, 2, none⟩))), (61, (Value.pointer (some ⟨zb7, 0, none⟩))), (62, (Value.agg #[(Value.int .u8 a24.p.sort), (Value.int .u64 a24.p.id), (Value.int .u64 ep_)])), (63, (Value.slice (some ⟨b118, 0, none⟩) 1 1)), (64, (Value.int .i64 (pinC ps_ fo_ ([(⟨a24.p.sort, a24.p.id, ep_⟩ : PinH)] : List PinH)))), (65, (Value.tuple #[(Value.int .u64 ((readV fo_ ep_ now2_).1)), (Value.int .i64 ((readV fo_ ep_ now2_).2))])), (66, (Value.pointer (some ⟨zb7, 0, none⟩))), (67, (Value.pointer (some ⟨b114, 2, none⟩))), (68, (Value.int .u64 ep_)), (69, (Value.int .u64 now2_)), (70, (Value.tuple #[(Value.int .u64 ((readV fo_ ep_ now2_).1)), (Value.int .i64 ((readV fo_ ep_ now2_).2))])), (71, (Value.int .u64 ((readV fo_ ep_ now2_).1))), (72, (Value.int .i64 ((readV fo_ ep_ now2_).2))), (73, (Value.int .i64 (pinC ps_ fo_ ([(⟨a24.p.sort, a24.p.id, ep_⟩ : PinH)] : List PinH)))), (74, (Value.bool true)), (75, (Value.bool true)), (76, (Value.pointer (some ⟨b114, 2, none⟩))), (77, (Value.int .u64 ep_)), (78, (Value.bool true)), (79, (Value.bool true)), (80, (Value.bool true)), (81, (Value.int .i64 ((readV fo_ ep_ now2_).2))), (82, (Value.bool false)), (83, (Value.bool false)), (84, (Value.bool ((pickI a24.do_ 6 : Int) == (2 : Int)))), (85, (Value.bool ((pickI a24.do_ 6 : Int) == (2 : Int)))), (96, (Value.bool ((pickI a24.do_ 6 : Int) == (3 : Int)))), (97, (Value.bool ((pickI a24.do_ 6 : Int) == (3 : Int)))), (106, (Value.bool ((pickI a24.do_ 6 : Int) == (5 : Int)))), (107, (Value.bool ((pickI a24.do_ 6 : Int) == (4 : Int)))), (108, (Value.bool ((pickI a24.do_ 6 : Int) == (5 : Int)))), (115, (Value.pointer (some ⟨zb7, 0, none⟩))), (116, (Value.int .u64 fo_)), (117, (Value.int .u64 fo_)), (118, (Value.bool false)), (119, (Value.bool false)), (120, (Value.pointer (some ⟨zb7, 0, none⟩))), (121, (Value.int .u64 fo_)), (122, (Value.int .u64 now2_)), (123, (Value.bool false)), (124, (Value.bool false)), (125, (Value.pointer (some ⟨zb7, 0, none⟩))), (126, v126)] ∧ Mem G (fun _ => False) w [own 35 3 v126 ((sortP ps2_).length) ((sortP ps2_).flatMap pinE), blk zb7 (.cells #[(Value.map (some zm8)), (Value.int .u64 fo_)] 87), mapP zm8 ps2_, own 35 3 v18 ((sortP ps_).length) ((sortP ps_).flatMap pinE)] [SlAt 6 v l.length cs3, RepL HActT cs3 l, RepS HActT v l]  w') _ ⟨0, ⟨(Nat.zero_le _), rfl⟩, ⟨rfl, rfl, rfl, rfl, rfl, rfl, rfl, rfl, rfl, rfl, rfl, rfl, rfl, rfl, rfl, rfl, rfl, rfl, rfl, rfl, rfl, rfl, rfl, rfl, rfl, rfl, rfl, rfl, rfl, rfl, rfl, rfl, rfl, rfl, rfl, rfl, rfl, rfl, rfl, rfl, rfl, rfl, rfl, rfl, rfl, rfl, rfl, rfl, rfl, rfl, rfl, rfl, rfl, rfl, rfl, rfl, rfl, rfl, rfl, rfl, rfl, rfl, rfl, rfl, rfl, rfl, rfl, rfl, rfl, rfl, rfl, rfl, rfl, rfl, rfl, rfl, rfl, rfl, rfl, rfl, rfl, rfl, rfl, rfl, rfl, rfl, rfl, rfl, rfl, rfl⟩, M⟩ ?_
         rintro _ ρ131 w130 ⟨k_, ⟨hi132, rfl⟩, hρ, M⟩
         obtain ⟨ρ131, rfl⟩ := hρ.know
         clear hρ
         refine W.seq' ?_
         refine W.seq' ?_
         refine W.region rfl ?_
         refine WL.step (v := (Value.int .i64 ↑k_)) rfl (Step.move rfl) ?_
         refine WL.step (v := v126) rfl (Step.move rfl) ?_
         refine WL.step (v := (Value.int .i64 (↑((sortP ps2_).length)))) rfl (Step.lenSl Try.un33 rfl (own_slAt (M.chunk 0 rfl).inv)) ?_
         refine WL.step (v := (Value.bool (decide ((↑k_ : Int) < (↑((sortP ps2_).length) : Int))))) rfl (Step.pure (by kernel_rfl)) ?_
         refine WL.nil ?_
         refine W.cond (t := decide ((↑k_ : Int) < (↑((sortP ps2_).length) : Int))) rfl (fun h133 => ?_) (fun h133 => ?_)
         ·
          have h133p := of_decide_eq_true h133
          refine W.skip ?_
          refine W.seq' ?_
          refine W.block ?_
          refine W.seq' ?_
          refine W.region rfl ?_
          refine WL.step (v := (Value.pointer (some ⟨zb7, 0, none⟩))) rfl (Step.move rfl) ?_
          refine WL.step (v := v126) rfl (Step.move rfl) ?_
          refine WL.step (v := (Value.int .i64 ↑k_)) rfl (Step.move rfl) ?_
          obtain ⟨cap135, hb134⟩ := SlAt.base (own_slAt (M.chunk 0 rfl).inv) (by omega)
          refine WL.step (v := (Value.pointer (some ⟨(sBlk v126), sOff v126 + k_ * 3, none⟩))) rfl (Step.indexAddr (i := k_) (Try.un33).run Try.el35.sized rfl rfl (by omega) hb134 (by omega)) ?_
          refine WL.step (v := (Value.pointer (some ⟨(sBlk v126), sOff v126 + k_ * 3 + 2, none⟩))) rfl (Step.pure (by kernel_rfl)) ?_
          obtain ⟨x136, hx136⟩ := elem_of_lt (xs := sortP ps2_) (i := k_) (by omega)
          have hm_ := (sortP_mem hap2_).1 (List.mem_of_getElem? hx136)
          have hlo_ := hFl2_.low _ hm_
          refine WL.step (v := (Value.int .u64 x136.epoch)) rfl (Step.loadE (k := 2) Try.sc23 (flat_ec (own_slAt (M.chunk 0 rfl).inv) hx136 pinE_len) (by decide) rfl rfl) ?_
          refine WL.step (v := (Value.int .u64 now2_)) rfl (Step.move rfl) ?_
          refine WL.callX rfl (hz_read zb7 zm8 ps2_ fo_ x136.epoch now2_ (M.enterW (C := [blk zb7 (.cells #[(Value.map (some zm8)), (Value.int .u64 fo_)] 87), mapP zm8 ps2_]) (D := [own 35 3 v126 ((sortP ps2_).length) ((sortP ps2_).flatMap pinE), own 35 3 v18 ((sortP ps_).length) ((sortP ps_).flatMap pinE)]) [1, 2, 0, 3] rfl (by decide) trivial)) (CallsF.func Try.en22 rfl) ?_
          rintro _ w137 ⟨rfl, m⟩
          replace M := M.leaveW (C := [blk zb7 (.cells #[(Value.map (some zm8)), (Value.int .u64 fo_)] 87), mapP zm8 ps2_]) (D := [own 35 3 v126 ((sortP ps2_).length) ((sortP ps2_).flatMap pinE), own 35 3 v18 ((sortP ps_).length) ((sortP ps_).flatMap pinE)]) [1, 2, 0, 3] rfl (by decide) m
          replace M := M.sel (L' := [own 35 3 v126 ((sortP ps2_).length) ((sortP ps2_).flatMap pinE), blk zb7 (.cells #[(Value.map (some zm8)), (Value.int .u64 fo_)] 87), mapP zm8 ps2_, own 35 3 v18 ((sortP ps_).length) ((sortP ps_).flatMap pinE)]) [2, 0, 1, 3] rfl (by decide)
          clear m
          replace M : Mem _ _ _ [own 35 3 v126 ((sortP ps2_).length) ((sortP ps2_).flatMap pinE), blk zb7 (.cells #[(Value.map (some zm8)), (Value.int .u64 fo_)] 87), mapP zm8 ps2_, own 35 3 v18 ((sortP ps_).length) ((sortP ps_).flatMap pinE)] [SlAt 6 v l.length cs3, RepL HActT cs3 l, RepS HActT v l] _ := M
          refine WL.step (v := (Value.tuple #[(Value.int .u64 ((readV fo_ x136.epoch now2_).1)), (Value.int .i64 ((readV fo_ x136.epoch now2_).2))])) rfl (Step.move rfl) ?_
          refine WL.step (v := (Value.int .u64 ((readV fo_ x136.epoch now2_).1))) rfl (Step.pure (by kernel_rfl)) ?_
          refine WL.step (v := (Value.int .i64 ((readV fo_ x136.epoch now2_).2))) rfl (Step.pure (by kernel_rfl)) ?_
          refine WL.step (v := (Value.int .u64 ((readV fo_ x136.epoch now2_).1))) rfl (Step.assign rfl) ?_
          refine WL.step (v := (Value.int .i64 ((readV fo_ x136.epoch now2_).2))) rfl (Step.assign rfl) ?_
          refine WL.nil ?_
          refine W.seq' ?_
          rcases Bool.eq_false_or_eq_true (decide ((x136.epoch : Int) > (0 : Int))) with h138 | h138
          ·
           have h138p := of_decide_eq_true h138
           refine W.drawn M [0, 1, 2, 3, 4, 5, 6, 7, 8, 9, 10, 11, 12, 13, 14, 15, 16, 17, 18, 19, 20, 21, 22, 23, 24, 25, 26, 27, 28] [6] [] [own 35 3 v126 ((sortP ps2_).length) ((sortP ps2_).flatMap pinE), blk zb7 (.cells #[(Value.map (some zm8)), (Value.int .u64 fo_)] 87), mapP zm8 ps2_, own 35 3 v18 ((sortP ps_).length) ((sortP ps_).flatMap pinE)] [SlAt 6 v l.length cs3, RepL HActT cs3 l, RepS HActT v l] (List.Sublist.cons_cons _ (List.Sublist.cons_cons _ (List.Sublist.cons_cons _ (List.Sublist.cons_cons _ List.Sublist.slnil)))) (fun _ h => h) Try.mixed (by kernel_rfl) ?_
           refine TW.pure (v := v126) rfl (by decide) (by decide) rfl (fun w => (Step.move rfl)) ?_
           refine TW.pure (v := (Value.int .i64 ↑k_)) rfl (by decide) (by decide) rfl (fun w => (Step.move rfl)) ?_
           refine TW.pure (v := (Value.pointer (some ⟨(sBlk v126), sOff v126 + k_ * 3, none⟩))) rfl (by decide) (by decide) rfl (fun w => (Step.indexAddr (i := k_) (Try.un33).run Try.el35.sized rfl rfl (by omega) hb134 (by omega))) ?_
           refine TW.pure (v := (Value.pointer (some ⟨(sBlk v126), sOff v126 + k_ * 3 + 2, none⟩))) rfl (by decide) (by decide) rfl (fun w => (Step.pure (by kernel_rfl))) ?_
           refine TW.read (v := (Value.int .u64 x136.epoch)) rfl (by decide) (by decide) rfl (fun A w M => (Step.loadE (k := 2) Try.sc23 (flat_ec (own_slAt (M.chunk 1 rfl).inv) hx136 pinE_len) (by decide) rfl rfl)) ?_
           refine TW.pure (v := (Value.pointer (some ⟨zb7, 0, none⟩))) rfl (by decide) (by decide) rfl (fun w => (Step.move rfl)) ?_
           refine TW.callX (ι := Unit) (fun jx v_ => v_ = (Value.int .u64 fo_)) (fun jx => [own 35 3 v126 ((sortP ps2_).length) ((sortP ps2_).flatMap pinE), blk zb7 (.cells #[(Value.map (some zm8)), (Value.int .u64 fo_)] 87), mapP zm8 ps2_, own 35 3 v18 ((sortP ps_).length) ((sortP ps_).flatMap pinE)]) (fun jx => [SlAt 6 v l.length cs3, RepL HActT cs3 l, RepS HActT v l]) rfl (by decide) rfl (fun jx => (List.Sublist.cons_cons _ (List.Sublist.cons_cons _ (List.Sublist.cons_cons _ (List.Sublist.cons_cons _ List.Sublist.slnil))))) (fun jx r h => h) (fun A w M => Rets.mono (hz_floor zb7 zm8 ps2_ fo_ (M.enterW (C := [blk zb7 (.cells #[(Value.map (some zm8)), (Value.int .u64 fo_)] 87), mapP zm8 ps2_]) (D := [fl A, own 35 3 v126 ((sortP ps2_).length) ((sortP ps2_).flatMap pinE), own 35 3 v18 ((sortP ps_).length) ((sortP ps_).flatMap pinE)]) [2, 3, 0, 1, 4] rfl (by decide) trivial)) (fun v_ w_ ⟨e_, m⟩ => ⟨(), e_, (M.leaveW (C := [blk zb7 (.cells #[(Value.map (some zm8)), (Value.int .u64 fo_)] 87), mapP zm8 ps2_]) (D := [fl A, own 35 3 v126 ((sortP ps2_).length) ((sortP ps2_).flatMap pinE), own 35 3 v18 ((sortP ps_).length) ((sortP ps_).flatMap pinE)]) [2, 3, 0, 1, 4] rfl (by decide) m).sel (L' := [fl A, own 35 3 v126 ((sortP ps2_).length) ((sortP ps2_).flatMap pinE), blk zb7 (.cells #[(Value.map (some zm8)), (Value.int .u64 fo_)] 87), mapP zm8 ps2_, own 35 3 v18 ((sortP ps_).length) ((sortP ps_).flatMap pinE)]) [2, 3, 0, 1, 4] rfl (by decide), fun b hb => M.keptW (C := [blk zb7 (.cells #[(Value.map (some zm8)), (Value.int .u64 fo_)] 87), mapP zm8 ps2_]) (D := [fl A, own 35 3 v126 ((sortP ps2_).length) ((sortP ps2_).flatMap pinE), own 35 3 v18 ((sortP ps_).length) ((sortP ps_).flatMap pinE)]) [2, 3, 0, 1, 4] rfl (by decide) m (fl A) (List.mem_cons_self ..) b hb⟩)) (fun w => CallsF.func Try.en17 rfl) (fun jx v hp hin => ?_)
           replace hp := hp.symm; subst hp
           clear hin
           change TW _ _ _ _ _ _ _ _ (MemA _ _ _ [own 35 3 v126 ((sortP ps2_).length) ((sortP ps2_).flatMap pinE), blk zb7 (.cells #[(Value.map (some zm8)), (Value.int .u64 fo_)] 87), mapP zm8 ps2_, own 35 3 v18 ((sortP ps_).length) ((sortP ps_).flatMap pinE)] [SlAt 6 v l.length cs3, RepL HActT cs3 l, RepS HActT v l])
           refine TW.pure (v := (Value.bool false)) rfl (by decide) (by decide) rfl (fun w => (Step.cast (congrArg Value.bool (show (decide ((x136.epoch : Int) < (fo_ : Int))) = false by rw [decide_eq_false_iff_not]; omega)) (Step.pure (by kernel_rfl)))) ?_
           refine TW.pure (v := (Value.bool false)) rfl (by decide) (by decide) rfl (fun w => (Step.move rfl)) ?_
           refine TW.pure (v := v126) rfl (by decide) (by decide) rfl (fun w => (Step.move rfl)) ?_
           refine TW.pure (v := (Value.int .i64 ↑k_)) rfl (by decide) (by decide) rfl (fun w => (Step.move rfl)) ?_
           refine TW.pure (v := (Value.pointer (some ⟨(sBlk v126), sOff v126 + k_ * 3, none⟩))) rfl (by decide) (by decide) rfl (fun w => (Step.indexAddr (i := k_) (Try.un33).run Try.el35.sized rfl rfl (by omega) hb134 (by omega))) ?_
           refine TW.pure (v := (Value.pointer (some ⟨(sBlk v126), sOff v126 + k_ * 3 + 2, none⟩))) rfl (by decide) (by decide) rfl (fun w => (Step.pure (by kernel_rfl))) ?_
           refine TW.read (v := (Value.int .u64 x136.epoch)) rfl (by decide) (by decide) rfl (fun A w M => (Step.loadE (k := 2) Try.sc23 (flat_ec (own_slAt (M.chunk 1 rfl).inv) hx136 pinE_len) (by decide) rfl rfl)) ?_
           refine TW.pure (v := (Value.bool true)) rfl (by decide) (by decide) rfl (fun w => (Step.cast (congrArg Value.bool h138) (Step.pure (by kernel_rfl)))) ?_
           refine TW.pure (v := (Value.bool true)) rfl (by decide) (by decide) rfl (fun w => (Step.move rfl)) ?_
           refine TW.pure (v := (Value.int .i64 ((readV fo_ x136.epoch now2_).2))) rfl (by decide) (by decide) rfl (fun w => (Step.move rfl)) ?_
           refine TW.pure (v := (Value.bool false)) rfl (by decide) (by decide) rfl (fun w => (Step.cast (congrArg Value.bool (show (((readV fo_ x136.epoch now2_).2 : Int) != (0 : Int)) = false by rw [hFl2_.read hm_ h138p]; simp)) (Step.pure (by kernel_rfl)))) ?_
           refine TW.pure (v := (Value.bool false)) rfl (by decide) (by decide) rfl (fun w => (Step.move rfl)) ?_
           refine TW.pure (v := (Value.int .u64 ((readV fo_ x136.epoch now2_).1))) rfl (by decide) (by decide) rfl (fun w => (Step.move rfl)) ?_
           refine TW.pure (v := v126) rfl (by decide) (by decide) rfl (fun w => (Step.move rfl)) ?_
           refine TW.pure (v := (Value.int .i64 ↑k_)) rfl (by decide) (by decide) rfl (fun w => (Step.move rfl)) ?_
           refine TW.pure (v := (Value.pointer (some ⟨(sBlk v126), sOff v126 + k_ * 3, none⟩))) rfl (by decide) (by decide) rfl (fun w => (Step.indexAddr (i := k_) (Try.un33).run Try.el35.sized rfl rfl (by omega) hb134 (by omega))) ?_
           refine TW.pure (v := (Value.pointer (some ⟨(sBlk v126), sOff v126 + k_ * 3 + 2, none⟩))) rfl (by decide) (by decide) rfl (fun w => (Step.pure (by kernel_rfl))) ?_
           refine TW.read (v := (Value.int .u64 x136.epoch)) rfl (by decide) (by decide) rfl (fun A w M => (Step.loadE (k := 2) Try.sc23 (flat_ec (own_slAt (M.chunk 1 rfl).inv) hx136 pinE_len) (by decide) rfl rfl)) ?_
           refine TW.pure (v := (Value.bool false)) rfl (by decide) (by decide) rfl (fun w => (Step.cast (congrArg Value.bool (show (((readV fo_ x136.epoch now2_).1 : Int) != (x136.epoch : Int)) = false by rw [hFl2_.read hm_ h138p]; simp)) (Step.pure (by kernel_rfl)))) ?_
           refine TW.pure (v := (Value.bool false)) rfl (by decide) (by decide) rfl (fun w => (Step.pick (t := false) rfl rfl)) ?_
           refine TW.pure (v := (Value.bool false)) rfl (by decide) (by decide) rfl (fun w => (Step.pick (t := true) rfl rfl)) ?_
           refine TW.pure (v := (Value.bool false)) rfl (by decide) (by decide) rfl (fun w => (Step.pick (t := false) rfl rfl)) ?_
           refine TW.done (fun w139 M => ?_)
           refine W.cond (t := false) rfl (fun h => by cases h) (fun _ => ?_)
           refine W.skip ?_
           refine W.region rfl ?_
           refine WL.step (v := (Value.int .i64 ↑k_)) rfl (Step.move rfl) ?_
           refine WL.step (v := (Value.int .i64 (↑k_ + 1))) rfl (Step.add rfl rfl (wrap_i64 (by omega))) ?_
           refine WL.step (v := (Value.int .i64 (↑k_ + 1))) rfl (Step.assign rfl) ?_
           refine WL.nil ?_
           exact ⟨_, (by omega), k_ + 1, ⟨(by omega), rfl⟩, ⟨rfl, rfl, rfl, rfl, rfl, rfl, rfl, rfl, rfl, rfl, rfl, rfl, rfl, rfl, rfl, rfl, rfl, rfl, rfl, rfl, rfl, rfl, rfl, rfl, rfl, rfl, rfl, rfl, rfl, rfl, rfl, rfl, rfl, rfl, rfl, rfl, rfl, rfl, rfl, rfl, rfl, rfl, rfl, rfl, rfl, rfl, rfl, rfl, rfl, rfl, rfl, rfl, rfl, rfl, rfl, rfl, rfl, rfl, rfl, rfl, rfl, rfl, rfl, rfl, rfl, rfl, rfl, rfl, rfl, rfl, rfl, rfl, rfl, rfl, rfl, rfl, rfl, rfl, rfl, rfl, rfl, rfl, rfl, rfl, rfl, rfl, rfl, rfl, rfl, rfl⟩, M⟩
          ·
           have h138p := of_decide_eq_false h138
           refine W.drawn M [0, 1, 2, 3, 4, 5, 6, 7, 8, 9, 10, 11, 12, 13, 14, 15, 16, 17, 18, 19, 20, 21, 22, 23, 24, 25, 26, 27, 28] [6] [] [own 35 3 v126 ((sortP ps2_).length) ((sortP ps2_).flatMap pinE), blk zb7 (.cells #[(Value.map (some zm8)), (Value.int .u64 fo_)] 87), mapP zm8 ps2_, own 35 3 v18 ((sortP ps_).length) ((sortP ps_).flatMap pinE)] [SlAt 6 v l.length cs3, RepL HActT cs3 l, RepS HActT v l] (List.Sublist.cons_cons _ (List.Sublist.cons_cons _ (List.Sublist.cons_cons _ (List.Sublist.cons_cons _ List.Sublist.slnil)))) (fun _ h => h) Try.mixed (by kernel_rfl) ?_
           refine TW.pure (v := v126) rfl (by decide) (by decide) rfl (fun w => (Step.move rfl)) ?_
           refine TW.pure (v := (Value.int .i64 ↑k_)) rfl (by decide) (by decide) rfl (fun w => (Step.move rfl)) ?_
           refine TW.pure (v := (Value.pointer (some ⟨(sBlk v126), sOff v126 + k_ * 3, none⟩))) rfl (by decide) (by decide) rfl (fun w => (Step.indexAddr (i := k_) (Try.un33).run Try.el35.sized rfl rfl (by omega) hb134 (by omega))) ?_
           refine TW.pure (v := (Value.pointer (some ⟨(sBlk v126), sOff v126 + k_ * 3 + 2, none⟩))) rfl (by decide) (by decide) rfl (fun w => (Step.pure (by kernel_rfl))) ?_
           refine TW.read (v := (Value.int .u64 x136.epoch)) rfl (by decide) (by decide) rfl (fun A w M => (Step.loadE (k := 2) Try.sc23 (flat_ec (own_slAt (M.chunk 1 rfl).inv) hx136 pinE_len) (by decide) rfl rfl)) ?_
           refine TW.pure (v := (Value.pointer (some ⟨zb7, 0, none⟩))) rfl (by decide) (by decide) rfl (fun w => (Step.move rfl)) ?_
           refine TW.callX (ι := Unit) (fun jx v_ => v_ = (Value.int .u64 fo_)) (fun jx => [own 35 3 v126 ((sortP ps2_).length) ((sortP ps2_).flatMap pinE), blk zb7 (.cells #[(Value.map (some zm8)), (Value.int .u64 fo_)] 87), mapP zm8 ps2_, own 35 3 v18 ((sortP ps_).length) ((sortP ps_).flatMap pinE)]) (fun jx => [SlAt 6 v l.length cs3, RepL HActT cs3 l, RepS HActT v l]) rfl (by decide) rfl (fun jx => (List.Sublist.cons_cons _ (List.Sublist.cons_cons _ (List.Sublist.cons_cons _ (List.Sublist.cons_cons _ List.Sublist.slnil))))) (fun jx r h => h) (fun A w M => Rets.mono (hz_floor zb7 zm8 ps2_ fo_ (M.enterW (C := [blk zb7 (.cells #[(Value.map (some zm8)), (Value.int .u64 fo_)] 87), mapP zm8 ps2_]) (D := [fl A, own 35 3 v126 ((sortP ps2_).length) ((sortP ps2_).flatMap pinE), own 35 3 v18 ((sortP ps_).length) ((sortP ps_).flatMap pinE)]) [2, 3, 0, 1, 4] rfl (by decide) trivial)) (fun v_ w_ ⟨e_, m⟩ => ⟨(), e_, (M.leaveW (C := [blk zb7 (.cells #[(Value.map (some zm8)), (Value.int .u64 fo_)] 87), mapP zm8 ps2_]) (D := [fl A, own 35 3 v126 ((sortP ps2_).length) ((sortP ps2_).flatMap pinE), own 35 3 v18 ((sortP ps_).length) ((sortP ps_).flatMap pinE)]) [2, 3, 0, 1, 4] rfl (by decide) m).sel (L' := [fl A, own 35 3 v126 ((sortP ps2_).length) ((sortP ps2_).flatMap pinE), blk zb7 (.cells #[(Value.map (some zm8)), (Value.int .u64 fo_)] 87), mapP zm8 ps2_, own 35 3 v18 ((sortP ps_).length) ((sortP ps_).flatMap pinE)]) [2, 3, 0, 1, 4] rfl (by decide), fun b hb => M.keptW (C := [blk zb7 (.cells #[(Value.map (some zm8)), (Value.int .u64 fo_)] 87), mapP zm8 ps2_]) (D := [fl A, own 35 3 v126 ((sortP ps2_).length) ((sortP ps2_).flatMap pinE), own 35 3 v18 ((sortP ps_).length) ((sortP ps_).flatMap pinE)]) [2, 3, 0, 1, 4] rfl (by decide) m (fl A) (List.mem_cons_self ..) b hb⟩)) (fun w => CallsF.func Try.en17 rfl) (fun jx v hp hin => ?_)
           replace hp := hp.symm; subst hp
           clear hin
           change TW _ _ _ _ _ _ _ _ (MemA _ _ _ [own 35 3 v126 ((sortP ps2_).length) ((sortP ps2_).flatMap pinE), blk zb7 (.cells #[(Value.map (some zm8)), (Value.int .u64 fo_)] 87), mapP zm8 ps2_, own 35 3 v18 ((sortP ps_).length) ((sortP ps_).flatMap pinE)] [SlAt 6 v l.length cs3, RepL HActT cs3 l, RepS HActT v l])
           refine TW.pure (v := (Value.bool false)) rfl (by decide) (by decide) rfl (fun w => (Step.cast (congrArg Value.bool (show (decide ((x136.epoch : Int) < (fo_ : Int))) = false by rw [decide_eq_false_iff_not]; omega)) (Step.pure (by kernel_rfl)))) ?_
           refine TW.pure (v := (Value.bool false)) rfl (by decide) (by decide) rfl (fun w => (Step.move rfl)) ?_
           refine TW.pure (v := v126) rfl (by decide) (by decide) rfl (fun w => (Step.move rfl)) ?_
           refine TW.pure (v := (Value.int .i64 ↑k_)) rfl (by decide) (by decide) rfl (fun w => (Step.move rfl)) ?_
           refine TW.pure (v := (Value.pointer (some ⟨(sBlk v126), sOff v126 + k_ * 3, none⟩))) rfl (by decide) (by decide) rfl (fun w => (Step.indexAddr (i := k_) (Try.un33).run Try.el35.sized rfl rfl (by omega) hb134 (by omega))) ?_
           refine TW.pure (v := (Value.pointer (some ⟨(sBlk v126), sOff v126 + k_ * 3 + 2, none⟩))) rfl (by decide) (by decide) rfl (fun w => (Step.pure (by kernel_rfl))) ?_
           refine TW.read (v := (Value.int .u64 x136.epoch)) rfl (by decide) (by decide) rfl (fun A w M => (Step.loadE (k := 2) Try.sc23 (flat_ec (own_slAt (M.chunk 1 rfl).inv) hx136 pinE_len) (by decide) rfl rfl)) ?_
           refine TW.pure (v := (Value.bool false)) rfl (by decide) (by decide) rfl (fun w => (Step.cast (congrArg Value.bool h138) (Step.pure (by kernel_rfl)))) ?_
           refine TW.pure (v := (Value.bool false)) rfl (by decide) (by decide) rfl (fun w => (Step.move rfl)) ?_
           refine TW.skip rfl rfl ?_
           refine TW.skip rfl rfl ?_
           refine TW.skip rfl rfl ?_
           refine TW.skip rfl rfl ?_
           refine TW.skip rfl rfl ?_
           refine TW.skip rfl rfl ?_
           refine TW.skip rfl rfl ?_
           refine TW.skip rfl rfl ?_
           refine TW.skip rfl rfl ?_
           refine TW.skip rfl rfl ?_
           refine TW.skip rfl rfl ?_
           refine TW.pure (v := (Value.bool false)) rfl (by decide) (by decide) rfl (fun w => (Step.pick (t := false) rfl rfl)) ?_
           refine TW.pure (v := (Value.bool false)) rfl (by decide) (by decide) rfl (fun w => (Step.pick (t := false) rfl rfl)) ?_
           refine TW.done (fun w140 M => ?_)
           refine W.cond (t := false) rfl (fun h => by cases h) (fun _ => ?_)
           refine W.skip ?_
           refine W.region rfl ?_
           refine WL.step (v := (Value.int .i64 ↑k_)) rfl (Step.move rfl) ?_
           refine WL.step (v := (Value.int .i64 (↑k_ + 1))) rfl (Step.add rfl rfl (wrap_i64 (by omega))) ?_
           refine WL.step (v := (Value.int .i64 (↑k_ + 1))) rfl (Step.assign rfl) ?_
           refine WL.nil ?_
           exact ⟨_, (by omega), k_ + 1, ⟨(by omega), rfl⟩, ⟨rfl, rfl, rfl, rfl, rfl, rfl, rfl, rfl, rfl, rfl, rfl, rfl, rfl, rfl, rfl, rfl, rfl, rfl, rfl, rfl, rfl, rfl, rfl, rfl, rfl, rfl, rfl, rfl, rfl, rfl, rfl, rfl, rfl, rfl, rfl, rfl, rfl, rfl, rfl, rfl, rfl, rfl, rfl, rfl, rfl, rfl, rfl, rfl, rfl, rfl, rfl, rfl, rfl, rfl, rfl, rfl, rfl, rfl, rfl, rfl, rfl, rfl, rfl, rfl, rfl, rfl, rfl, rfl, rfl, rfl, rfl, rfl, rfl, rfl, rfl, rfl, rfl, rfl, rfl, rfl, rfl, rfl, rfl, rfl, rfl, rfl, rfl, rfl, rfl, rfl⟩, M⟩
         ·
          have h133p := of_decide_eq_false h133
          refine W.exit ?_
          refine thn_exit ?_
          refine thn_exit ?_
          refine inBlk_hit ?_
          refine W.seq' ?_
          refine W.region rfl ?_
          refine WL.step (v := v18) rfl (Step.move rfl) ?_
          refine WL.step (v := (Value.int .i64 (↑((sortP ps_).length)))) rfl (Step.lenSl Try.un33 rfl (own_slAt (M.chunk 3 rfl).inv)) ?_
          refine WL.step (v := v126) rfl (Step.move rfl) ?_
          refine WL.step (v := (Value.int .i64 (↑((sortP ps2_).length)))) rfl (Step.lenSl Try.un33 rfl (own_slAt (M.chunk 0 rfl).inv)) ?_
          refine WL.step (v := (Value.int .i64 (↑((sortP ps2_).length) + 1))) rfl (Step.add rfl rfl (wrap_i64 (by omega))) ?_
          refine WL.step (v := (Value.bool false)) rfl (Step.cast (congrArg Value.bool (show (decide ((↑((sortP ps_).length) : Int) > (↑((sortP ps2_).length) + 1 : Int))) = false by rw [decide_eq_false_iff_not]; omega)) (Step.pure (by kernel_rfl))) ?_
          refine WL.nil ?_
          refine W.cond (t := false) rfl (fun h => by cases h) (fun _ => ?_)
          refine W.skip ?_
          refine W.region rfl ?_
          refine WL.step (v := (Value.int .i64 ↑i_)) rfl (Step.move rfl) ?_
          refine WL.step (v := (Value.int .i64 (↑i_ + 1))) rfl (Step.add rfl rfl (wrap_i64 (by omega))) ?_
          refine WL.step (v := (Value.int .i64 (↑i_ + 1))) rfl (Step.assign rfl) ?_
          refine WL.nil ?_
          replace M := M.sel (L' := [blk zb7 (.cells #[(Value.map (some zm8)), (Value.int .u64 fo_)] 87), mapP zm8 ps2_]) [1, 2] rfl (by decide)
          exact ⟨_, (by omega), i_ + 1, ps2_, fo_, now2_, ⟨(by omega), hFl2_, (by omega), (by omega), rfl⟩, ⟨rfl, rfl, rfl, rfl, rfl, rfl⟩, M⟩
        ·
         have h123p := of_decide_eq_false h123
         rw [h123]
         refine WL.pass rfl ?_
         refine WL.pass rfl ?_
         refine WL.step (v := (Value.bool false)) rfl (Step.pick (t := false) rfl rfl) ?_
         refine WL.nil ?_
         refine W.cond (t := false) rfl (fun h => by cases h) (fun _ => ?_)
         refine W.skip ?_
         refine W.seq' ?_
         refine W.seq' ?_
         refine W.region rfl ?_
         refine WL.step (v := (Value.pointer (some ⟨zb7, 0, none⟩))) rfl (Step.move rfl) ?_
         refine WL.callX rfl (hz_floor zb7 zm8 ps2_ fo_ (M.enterW (C := [blk zb7 (.cells #[(Value.map (some zm8)), (Value.int .u64 fo_)] 87), mapP zm8 ps2_]) (D := [blk b118 (.cells #[(Value.int .u8 a24.p.sort), (Value.int .u64 a24.p.id), (Value.int .u64 ep_)] 35), blk b114 (.cells #[(Value.int .u8 a24.p.sort), (Value.int .u64 a24.p.id), (Value.int .u64 ep_)] 35), blk b27 (.cells #[(Value.int .i64 a24.do_), lv25, (Value.int .u8 a24.p.sort), (Value.int .u64 a24.p.id), (Value.int .u64 a24.p.epoch), (Value.int .u64 a24.now)] 37), own 35 3 v18 ((sortP ps_).length) ((sortP ps_).flatMap pinE)]) [0, 1, 2, 3, 4, 5] rfl (by decide) trivial)) (CallsF.func Try.en17 rfl) ?_
         rintro _ w141 ⟨rfl, m⟩
         replace M := M.leaveW (C := [blk zb7 (.cells #[(Value.map (some zm8)), (Value.int .u64 fo_)] 87), mapP zm8 ps2_]) (D := [blk b118 (.cells #[(Value.int .u8 a24.p.sort), (Value.int .u64 a24.p.id), (Value.int .u64 ep_)] 35), blk b114 (.cells #[(Value.int .u8 a24.p.sort), (Value.int .u64 a24.p.id), (Value.int .u64 ep_)] 35), blk b27 (.cells #[(Value.int .i64 a24.do_), lv25, (Value.int .u8 a24.p.sort), (Value.int .u64 a24.p.id), (Value.int .u64 a24.p.epoch), (Value.int .u64 a24.now)] 37), own 35 3 v18 ((sortP ps_).length) ((sortP ps_).flatMap pinE)]) [0, 1, 2, 3, 4, 5] rfl (by decide) m
         replace M := M.sel (L' := [blk zb7 (.cells #[(Value.map (some zm8)), (Value.int .u64 fo_)] 87), mapP zm8 ps2_, blk b118 (.cells #[(Value.int .u8 a24.p.sort), (Value.int .u64 a24.p.id), (Value.int .u64 ep_)] 35), blk b114 (.cells #[(Value.int .u8 a24.p.sort), (Value.int .u64 a24.p.id), (Value.int .u64 ep_)] 35), blk b27 (.cells #[(Value.int .i64 a24.do_), lv25, (Value.int .u8 a24.p.sort), (Value.int .u64 a24.p.id), (Value.int .u64 a24.p.epoch), (Value.int .u64 a24.now)] 37), own 35 3 v18 ((sortP ps_).length) ((sortP ps_).flatMap pinE)]) [0, 1, 2, 3, 4, 5] rfl (by decide)
         clear m
         replace M : Mem _ _ _ [blk zb7 (.cells #[(Value.map (some zm8)), (Value.int .u64 fo_)] 87), mapP zm8 ps2_, blk b118 (.cells #[(Value.int .u8 a24.p.sort), (Value.int .u64 a24.p.id), (Value.int .u64 ep_)] 35), blk b114 (.cells #[(Value.int .u8 a24.p.sort), (Value.int .u64 a24.p.id), (Value.int .u64 ep_)] 35), blk b27 (.cells #[(Value.int .i64 a24.do_), lv25, (Value.int .u8 a24.p.sort), (Value.int .u64 a24.p.id), (Value.int .u64 a24.p.epoch), (Value.int .u64 a24.now)] 37), own 35 3 v18 ((sortP ps_).length) ((sortP ps_).flatMap pinE)] [EC v 6 i_ [(Value.int .i64 a24.do_), lv25, (Value.int .u8 a24.p.sort), (Value.int .u64 a24.p.id), (Value.int .u64 a24.p.epoch), (Value.int .u64 a24.now)], SlAt 3 lv25 a24.l.length (a24.l.flatMap pinE), SlAt 6 v l.length cs3, RepL HActT cs3 l, RepS HActT v l] _ := M
         replace M := M.sel (L' := [blk zb7 (.cells #[(Value.map (some zm8)), (Value.int .u64 fo_)] 87), mapP zm8 ps2_, own 35 3 v18 ((sortP ps_).length) ((sortP ps_).flatMap pinE)]) [0, 1, 5] rfl (by decide)
         replace M : Mem _ _ _ [blk zb7 (.cells #[(Value.map (some zm8)), (Value.int .u64 fo_)] 87), mapP zm8 ps2_, own 35 3 v18 ((sortP ps_).length) ((sortP ps_).flatMap pinE)] [EC v 6 i_ [(Value.int .i64 a24.do_), lv25, (Value.int .u8 a24.p.sort), (Value.int .u64 a24.p.id), (Value.int .u64 a24.p.epoch), (Value.int .u64 a24.now)], SlAt 3 lv25 a24.l.length (a24.l.flatMap pinE), SlAt 6 v l.length cs3, RepL HActT cs3 l, RepS HActT v l] _ := M
         replace M := M.sub (List.Sublist.refl _) (R' := [SlAt 6 v l.length cs3, RepL HActT cs3 l, RepS HActT v l]) (fun r h => (List.mem_cons_of_mem _ (List.mem_cons_of_mem _ h)))
         replace M : Mem _ _ _ [blk zb7 (.cells #[(Value.map (some zm8)), (Value.int .u64 fo_)] 87), mapP zm8 ps2_, own 35 3 v18 ((sortP ps_).length) ((sortP ps_).flatMap pinE)] [SlAt 6 v l.length cs3, RepL HActT cs3 l, RepS HActT v l] _ := M
         refine WL.step (v := (Value.int .u64 fo_)) rfl (Step.move rfl) ?_
         refine WL.step (v := (Value.bool false)) rfl (Step.cast (congrArg Value.bool (show (decide ((fo_ : Int) < (fo_ : Int))) = false by rw [decide_eq_false_iff_not]; omega)) (Step.pure (by kernel_rfl))) ?_
         refine WL.step (v := (Value.bool false)) rfl (Step.move rfl) ?_
         refine WL.step (v := (Value.pointer (some ⟨zb7, 0, none⟩))) rfl (Step.move rfl) ?_
         refine WL.callX rfl (hz_floor zb7 zm8 ps2_ fo_ (M.enterW (C := [blk zb7 (.cells #[(Value.map (some zm8)), (Value.int .u64 fo_)] 87), mapP zm8 ps2_]) (D := [own 35 3 v18 ((sortP ps_).length) ((sortP ps_).flatMap pinE)]) [0, 1, 2] rfl (by decide) trivial)) (CallsF.func Try.en17 rfl) ?_
         rintro _ w142 ⟨rfl, m⟩
         replace M := M.leaveW (C := [blk zb7 (.cells #[(Value.map (some zm8)), (Value.int .u64 fo_)] 87), mapP zm8 ps2_]) (D := [own 35 3 v18 ((sortP ps_).length) ((sortP ps_).flatMap pinE)]) [0, 1, 2] rfl (by decide) m
         replace M := M.sel (L' := [blk zb7 (.cells #[(Value.map (some zm8)), (Value.int .u64 fo_)] 87), mapP zm8 ps2_, own 35 3 v18 ((sortP ps_).length) ((sortP ps_).flatMap pinE)]) [0, 1, 2] rfl (by decide)
         clear m
         replace M : Mem _ _ _ [blk zb7 (.cells #[(Value.map (some zm8)), (Value.int .u64 fo_)] 87), mapP zm8 ps2_, own 35 3 v18 ((sortP ps_).length) ((sortP ps_).flatMap pinE)] [SlAt 6 v l.length cs3, RepL HActT cs3 l, RepS HActT v l] _ := M
         refine WL.step (v := (Value.int .u64 now2_)) rfl (Step.move rfl) ?_
         refine WL.step (v := (Value.bool false)) rfl (Step.cast (congrArg Value.bool (show (decide ((fo_ : Int) > (now2_ : Int))) = false by rw [decide_eq_false_iff_not]; omega)) (Step.pure (by kernel_rfl))) ?_
         refine WL.step (v := (Value.bool false)) rfl (Step.pick (t := false) rfl rfl) ?_
         refine WL.nil ?_
         refine W.cond (t := false) rfl (fun h => by cases h) (fun _ => ?_)
         refine W.skip ?_
         refine W.seq' ?_
         refine W.region rfl ?_
         refine WL.step (v := (Value.pointer (some ⟨zb7, 0, none⟩))) rfl (Step.move rfl) ?_
         refine WL.callX rfl (hz_pins zb7 zm8 ps2_ fo_ (by first | omega | (simp; done)) (by assumption) (M.enterW (C := [blk zb7 (.cells #[(Value.map (some zm8)), (Value.int .u64 fo_)] 87), mapP zm8 ps2_]) (D := [own 35 3 v18 ((sortP ps_).length) ((sortP ps_).flatMap pinE)]) [0, 1, 2] rfl (by decide) trivial)) (CallsF.func Try.en14 rfl) ?_
         rintro v143 w144 ⟨_, rfl, m⟩
         replace M := M.leaveW (C := [blk zb7 (.cells #[(Value.map (some zm8)), (Value.int .u64 fo_)] 87), mapP zm8 ps2_]) (D := [own 35 3 v18 ((sortP ps_).length) ((sortP ps_).flatMap pinE)]) [0, 1, 2] rfl (by decide) m
         replace M := M.sel (L' := [own 35 3 v143 ((sortP ps2_).length) ((sortP ps2_).flatMap pinE), blk zb7 (.cells #[(Value.map (some zm8)), (Value.int .u64 fo_)] 87), mapP zm8 ps2_, own 35 3 v18 ((sortP ps_).length) ((sortP ps_).flatMap pinE)]) [2, 0, 1, 3] rfl (by decide)
         clear m
         replace M : Mem _ _ _ [own 35 3 v143 ((sortP ps2_).length) ((sortP ps2_).flatMap pinE), blk zb7 (.cells #[(Value.map (some zm8)), (Value.int .u64 fo_)] 87), mapP zm8 ps2_, own 35 3 v18 ((sortP ps_).length) ((sortP ps_).flatMap pinE)] [SlAt 6 v l.length cs3, RepL HActT cs3 l, RepS HActT v l] _ := M
         have sl145 : IsSl v143 := SlAt.isSl (own_slAt (Mem.chunk M 0 rfl).inv)
         have hle146 := SlAt.le' (own_slAt (Mem.chunk M 0 rfl).inv)
         refine WL.step (v := v143) rfl (Step.assign rfl) ?_
         refine WL.nil ?_
         refine W.seq' ?_
         refine W.seq' ?_
         refine W.region rfl ?_
         refine WL.step (v := (Value.int .i64 0)) rfl (Step.assign rfl) ?_
         refine WL.nil ?_
         refine W.block ?_
         refine W.loop (fun kk ρ w' => ∃ (k_ : Nat), ((k_ ≤ (sortP ps2_).length) ∧ kk = (sortP ps2_).length - k_) ∧ ρ.has [(0, v), (3, (Value.pointer (some ⟨zb7, 0, none⟩))), (4, (Value.int .u64 now2_)), (5, (Value.int .i64 ↑i_)), (6, (Value.int .u64 fo_)), (7, v18), (8, (Value.pointer (some ⟨b27, 0, none⟩))), (10, (Value.pointer (some ⟨b114, 0, none⟩))), (11, (Value.int .i64 (pinC ps_ fo_ ([(⟨a24.p.sort, a24.p.id, ep_⟩ : PinH)] : List PinH)))), (13, (Value.int .i64 ((readV fo_ ep_ now2_).2))), (14, v143), (15, (Value.int .i64 ↑k_)), (25, (Value.int .i64 ↑i_)), (26, v), (27, (Value.int .i64 ↑l.length)), (28, (Value.bool (decide ((↑i_ : Int) < (↑l.length : Int))))), (31, (Value.pointer (some ⟨zb7, 0, none⟩))), (32, (Value.int .u64 fo_)), (33, (Value.pointer (some ⟨zb7, 0, none⟩))), (34, v18), (35, (Value.int .u64 now_)), (36, v), (37, (Value.int .i64 ↑i_)), (38, (Value.pointer (some ⟨(sBlk v), sOff v + i_ * 6, none⟩))), (39, (Value.pointer (some ⟨(sBlk v), sOff v + i_ * 6 + 5, none⟩))), (40, (Value.int .u64 a24.now)), (41, (Value.int .u64 ((a24.now : Int) % 1048576))), (42, (Value.int .u64 now2_)), (43, v), (44, (Value.int .i64 ↑i_)), (45, (Value.pointer (some ⟨(sBlk v), sOff v + i_ * 6, none⟩))), (46, (Value.agg #[(Value.int .i64 a24.do_), lv25, (Value.int .u8 a24.p.sort), (Value.int .u64 a24.p.id), (Value.int .u64 a24.p.epoch), (Value.int .u64 a24.now)])), (47, (Value.pointer (some ⟨b27, 0, none⟩))), (48, (Value.int .i64 a24.do_)), (49, (Value.int .i64 (pickI a24.do_ 6))), (50, (Value.pointer (some ⟨b27, 2, none⟩))), (51, (Value.agg #[(Value.int .u8 a24.p.sort), (Value.int .u64 a24.p.id), (Value.int .u64 a24.p.epoch)])), (52, (Value.int .u64 now2_)), (53, (Value.int .u64 now2_)), (54, (Value.pointer (some ⟨b27, 2, none⟩))), (55, (Value.pointer (some ⟨b27, 4, none⟩))), (56, (Value.int .u64 a24.p.epoch)), (57, (Value.int .u64 ((a24.p.epoch : Int) % 8))), (58, (Value.int .u64 (min (now2_ : Int) ((a24.p.epoch : Int) % 8 : Int)))), (59, (Value.int .u64 ep_)), (60, (Value.pointer (some ⟨b114, 2, none⟩))), (61, (Value.pointer (some ⟨zb7, 0, none⟩))), (62, (Value.agg #[(Value.int .u8 a24.p.sort), (Value.int .u64 a24.p.id), (Value.int .u64 ep_)])), (63, (Value.slice (some ⟨b118, 0, none⟩) 1 1)), (64, (Value.int .i64 (pinC ps_ fo_ ([(⟨a24.p.sort, a24.p.id, ep_⟩ : PinH)] : List PinH)))), (65, (Value.tuple #[(Value.int .u64 ((readV fo_ ep_ now2_).1)), (Value.int .i64 ((readV fo_ ep_ now2_).2))])), (66, (Value.pointer (some ⟨zb7, 0, none⟩))), (67, (Value.pointer (some ⟨b114, 2, none⟩))), (68, (Value.int .u64 ep_)), (69, (Value.int .u64 now2_)), (70, (Value.tuple #[(Value.int .u64 ((readV fo_ ep_ now2_).1)), (Value.int .i64 ((readV fo_ ep_ now2_).2))])), (71, (Value.int .u64 ((readV fo_ ep_ now2_).1))), (72, (Value.int .i64 ((readV fo_ ep_ now2_).2))), (73, (Value.int .i64 (pinC ps_ fo_ ([(⟨a24.p.sort, a24.p.id, ep_⟩ : PinH)] : List PinH)))), (74, (Value.bool true)), (75, (Value.bool true)), (76, (Value.pointer (some ⟨b114, 2, none⟩))), (77, (Value.int .u64 ep_)), (78, (Value.bool false)), (79, (Value.bool false)), (80, (Value.bool false)), (83, (Value.bool false)), (84, (Value.bool ((pickI a24.do_ 6 : Int) == (2 : Int)))), (85, (Value.bool ((pickI a24.do_ 6 : Int) == (2 : Int)))), (96, (Value.bool ((pickI a24.do_ 6 : Int) == (3 : Int)))), (97, (Value.bool ((pickI a24.do_ 6 : Int) == (3 : Int)))), (106, (Value.bool ((pickI a24.do_ 6 : Int) == (5 : Int)))), (107, (Value.bool ((pickI a24.do_ 6 : Int) == (4 : Int)))), (108, (Value.bool ((pickI a24.do_ 6 : Int) == (5 : Int)))), (115, (Value.pointer (some ⟨zb7, 0, none⟩))), (116, (Value.int .u64 fo_)), (117, (Value.int .u64 fo_)), (118, (Value.bool false)), (119, (Value.bool false)), (120, (Value.pointer (some ⟨zb7, 0, none⟩))), (121, (Value.int .u64 fo_)), (122, (Value.int .u64 now2_)), (123, (Value.bool false)), (124, (Value.bool false)), (125, (Value.pointer (some ⟨zb7, 0, none⟩))), (126, v143)] ∧ Mem G (fun _ => False) w [own 35 3 v143 ((sortP ps2_).length) ((sortP ps2_).flatMap pinE), blk zb7 (.cells #[(Value.map (some zm8)), (Value.int .u64 fo_)] 87), mapP zm8 ps2_, own 35 3 v18 ((sortP ps_).length) ((sortP ps_).flatMap pinE)] [SlAt 6 v l.length cs3, RepL HActT cs3 l, RepS HActT v l]  w') _ ⟨0, ⟨(Nat.zero_le _), rfl⟩, ⟨rfl, rfl, rfl, rfl, rfl, rfl, rfl, rfl, rfl, rfl, rfl, rfl, rfl, rfl, rfl, rfl, rfl, rfl, rfl, rfl, rfl, rfl, rfl, rfl, rfl, rfl, rfl, rfl, rfl, rfl, rfl, rfl, rfl, rfl, rfl, rfl, rfl, rfl, rfl, rfl, rfl, rfl, rfl, rfl, rfl, rfl, rfl, rfl, rfl, rfl, rfl, rfl, rfl, rfl, rfl, rfl, rfl, rfl, rfl, rfl, rfl, rfl, rfl, rfl, rfl, rfl, rfl, rfl, rfl, rfl, rfl, rfl, rfl, rfl, rfl, rfl, rfl, rfl, rfl, rfl, rfl, rfl, rfl, rfl, rfl, rfl, rfl, rfl⟩, M⟩ ?_
         rintro _ ρ148 w147 ⟨k_, ⟨hi149, rfl⟩, hρ, M⟩
         obtain ⟨ρ148, rfl⟩ := hρ.know
         clear hρ
         refine W.seq' ?_
         refine W.seq' ?_
         refine W.region rfl ?_
         refine WL.step (v := (Value.int .i64 ↑k_)) rfl (Step.move rfl) ?_
         refine WL.step (v := v143) rfl (Step.move rfl) ?_
         refine WL.step (v := (Value.int .i64 (↑((sortP ps2_).length)))) rfl (Step.lenSl Try.un33 rfl (own_slAt (M.chunk 0 rfl).inv)) ?_
         refine WL.step (v := (Value.bool (decide ((↑k_ : Int) < (↑((sortP ps2_).length) : Int))))) rfl (Step.pure (by kernel_rfl)) ?_
         refine WL.nil ?_
         refine W.cond (t := decide ((↑k_ : Int) < (↑((sortP ps2_).length) : Int))) rfl (fun h150 => ?_) (fun h150 => ?_)
         ·
          have h150p := of_decide_eq_true h150
          refine W.skip ?_
          refine W.seq' ?_
          refine W.block ?_
          refine W.seq' ?_
          refine W.region rfl ?_
          refine WL.step (v := (Value.pointer (some ⟨zb7, 0, none⟩))) rfl (Step.move rfl) ?_
          refine WL.step (v := v143) rfl (Step.move rfl) ?_
          refine WL.step (v := (Value.int .i64 ↑k_)) rfl (Step.move rfl) ?_
          obtain ⟨cap152, hb151⟩ := SlAt.base (own_slAt (M.chunk 0 rfl).inv) (by omega)
          refine WL.step (v := (Value.pointer (some ⟨(sBlk v143), sOff v143 + k_ * 3, none⟩))) rfl (Step.indexAddr (i := k_) (Try.un33).run Try.el35.sized rfl rfl (by omega) hb151 (by omega)) ?_
          refine WL.step (v := (Value.pointer (some ⟨(sBlk v143), sOff v143 + k_ * 3 + 2, none⟩))) rfl (Step.pure (by kernel_rfl)) ?_
          obtain ⟨x153, hx153⟩ := elem_of_lt (xs := sortP ps2_) (i := k_) (by omega)
          have hm_ := (sortP_mem hap2_).1 (List.mem_of_getElem? hx153)
          have hlo_ := hFl2_.low _ hm_
          refine WL.step (v := (Value.int .u64 x153.epoch)) rfl (Step.loadE (k := 2) Try.sc23 (flat_ec (own_slAt (M.chunk 0 rfl).inv) hx153 pinE_len) (by decide) rfl rfl) ?_
          refine WL.step (v := (Value.int .u64 now2_)) rfl (Step.move rfl) ?_
          refine WL.callX rfl (hz_read zb7 zm8 ps2_ fo_ x153.epoch now2_ (M.enterW (C := [blk zb7 (.cells #[(Value.map (some zm8)), (Value.int .u64 fo_)] 87), mapP zm8 ps2_]) (D := [own 35 3 v143 ((sortP ps2_).length) ((sortP ps2_).flatMap pinE), own 35 3 v18 ((sortP ps_).length) ((sortP ps_).flatMap pinE)]) [1, 2, 0, 3] rfl (by decide) trivial)) (CallsF.func Try.en22 rfl) ?_
          rintro _ w154 ⟨rfl, m⟩
          replace M := M.leaveW (C := [blk zb7 (.cells #[(Value.map (some zm8)), (Value.int .u64 fo_)] 87), mapP zm8 ps2_]) (D := [own 35 3 v143 ((sortP ps2_).length) ((sortP ps2_).flatMap pinE), own 35 3 v18 ((sortP ps_).length) ((sortP ps_).flatMap pinE)]) [1, 2, 0, 3] rfl (by decide) m
          replace M := M.sel (L' := [own 35 3 v143 ((sortP ps2_).length) ((sortP ps2_).flatMap pinE), blk zb7 (.cells #[(Value.map (some zm8)), (Value.int .u64 fo_)] 87), mapP zm8 ps2_, own 35 3 v18 ((sortP ps_).length) ((sortP ps_).flatMap pinE)]) [2, 0, 1, 3] rfl (by decide)
          clear m
          replace M : Mem _ _ _ [own 35 3 v143 ((sortP ps2_).length) ((sortP ps2_).flatMap pinE), blk zb7 (.cells #[(Value.map (some zm8)), (Value.int .u64 fo_)] 87), mapP zm8 ps2_, own 35 3 v18 ((sortP ps_).length) ((sortP ps_).flatMap pinE)] [SlAt 6 v l.length cs3, RepL HActT cs3 l, RepS HActT v l] _ := M
          refine WL.step (v := (Value.tuple #[(Value.int .u64 ((readV fo_ x153.epoch now2_).1)), (Value.int .i64 ((readV fo_ x153.epoch now2_).2))])) rfl (Step.move rfl) ?_
          refine WL.step (v := (Value.int .u64 ((readV fo_ x153.epoch now2_).1))) rfl (Step.pure (by kernel_rfl)) ?_
          refine WL.step (v := (Value.int .i64 ((readV fo_ x153.epoch now2_).2))) rfl (Step.pure (by kernel_rfl)) ?_
          refine WL.step (v := (Value.int .u64 ((readV fo_ x153.epoch now2_).1))) rfl (Step.assign rfl) ?_
          refine WL.step (v := (Value.int .i64 ((readV fo_ x153.epoch now2_).2))) rfl (Step.assign rfl) ?_
          refine WL.nil ?_
          refine W.seq' ?_
          rcases Bool.eq_false_or_eq_true (decide ((x153.epoch : Int) > (0 : Int))) with h155 | h155
          ·
           have h155p := of_decide_eq_true h155
           refine W.drawn M [0, 1, 2, 3, 4, 5, 6, 7, 8, 9, 10, 11, 12, 13, 14, 15, 16, 17, 18, 19, 20, 21, 22, 23, 24, 25, 26, 27, 28] [6] [] [own 35 3 v143 ((sortP ps2_).length) ((sortP ps2_).flatMap pinE), blk zb7 (.cells #[(Value.map (some zm8)), (Value.int .u64 fo_)] 87), mapP zm8 ps2_, own 35 3 v18 ((sortP ps_).length) ((sortP ps_).flatMap pinE)] [SlAt 6 v l.length cs3, RepL HActT cs3 l, RepS HActT v l] (List.Sublist.cons_cons _ (List.Sublist.cons_cons _ (List.Sublist.cons_cons _ (List.Sublist.cons_cons _ List.Sublist.slnil)))) (fun _ h => h) Try.mixed (by kernel_rfl) ?_
           refine TW.pure (v := v143) rfl (by decide) (by decide) rfl (fun w => (Step.move rfl)) ?_
           refine TW.pure (v := (Value.int .i64 ↑k_)) rfl (by decide) (by decide) rfl (fun w => (Step.move rfl)) ?_
           refine TW.pure (v := (Value.pointer (some ⟨(sBlk v143), sOff v143 + k_ * 3, none⟩))) rfl (by decide) (by decide) rfl (fun w => (Step.indexAddr (i := k_) (Try.un33).run Try.el35.sized rfl rfl (by omega) hb151 (by omega))) ?_
           refine TW.pure (v := (Value.pointer (some ⟨(sBlk v143), sOff v143 + k_ * 3 + 2, none⟩))) rfl (by decide) (by decide) rfl (fun w => (Step.pure (by kernel_rfl))) ?_
           refine TW.read (v := (Value.int .u64 x153.epoch)) rfl (by decide) (by decide) rfl (fun A w M => (Step.loadE (k := 2) Try.sc23 (flat_ec (own_slAt (M.chunk 1 rfl).inv) hx153 pinE_len) (by decide) rfl rfl)) ?_
           refine TW.pure (v := (Value.pointer (some ⟨zb7, 0, none⟩))) rfl (by decide) (by decide) rfl (fun w => (Step.move rfl)) ?_
           refine TW.callX (ι := Unit) (fun jx v_ => v_ = (Value.int .u64 fo_)) (fun jx => [own 35 3 v143 ((sortP ps2_).length) ((sortP ps2_).flatMap pinE), blk zb7 (.cells #[(Value.map (some zm8)), (Value.int .u64 fo_)] 87), mapP zm8 ps2_, own 35 3 v18 ((sortP ps_).length) ((sortP ps_).flatMap pinE)]) (fun jx => [SlAt 6 v l.length cs3, RepL HActT cs3 l, RepS HActT v l]) rfl (by decide) rfl (fun jx => (List.Sublist.cons_cons _ (List.Sublist.cons_cons _ (List.Sublist.cons_cons _ (List.Sublist.cons_cons _ List.Sublist.slnil))))) (fun jx r h => h) (fun A w M => Rets.mono (hz_floor zb7 zm8 ps2_ fo_ (M.enterW (C := [blk zb7 (.cells #[(Value.map (some zm8)), (Value.int .u64 fo_)] 87), mapP zm8 ps2_]) (D := [fl A, own 35 3 v143 ((sortP ps2_).length) ((sortP ps2_).flatMap pinE), own 35 3 v18 ((sortP ps_).length) ((sortP ps_).flatMap pinE)]) [2, 3, 0, 1, 4] rfl (by decide) trivial)) (fun v_ w_ ⟨e_, m⟩ => ⟨(), e_, (M.leaveW (C := [blk zb7 (.cells #[(Value.map (some zm8)), (Value.int .u64 fo_)] 87), mapP zm8 ps2_]) (D := [fl A, own 35 3 v143 ((sortP ps2_).length) ((sortP ps2_).flatMap pinE), own 35 3 v18 ((sortP ps_).length) ((sortP ps_).flatMap pinE)]) [2, 3, 0, 1, 4] rfl (by decide) m).sel (L' := [fl A, own 35 3 v143 ((sortP ps2_).length) ((sortP ps2_).flatMap pinE), blk zb7 (.cells #[(Value.map (some zm8)), (Value.int .u64 fo_)] 87), mapP zm8 ps2_, own 35 3 v18 ((sortP ps_).length) ((sortP ps_).flatMap pinE)]) [2, 3, 0, 1, 4] rfl (by decide), fun b hb => M.keptW (C := [blk zb7 (.cells #[(Value.map (some zm8)), (Value.int .u64 fo_)] 87), mapP zm8 ps2_]) (D := [fl A, own 35 3 v143 ((sortP ps2_).length) ((sortP ps2_).flatMap pinE), own 35 3 v18 ((sortP ps_).length) ((sortP ps_).flatMap pinE)]) [2, 3, 0, 1, 4] rfl (by decide) m (fl A) (List.mem_cons_self ..) b hb⟩)) (fun w => CallsF.func Try.en17 rfl) (fun jx v hp hin => ?_)
           replace hp := hp.symm; subst hp
           clear hin
           change TW _ _ _ _ _ _ _ _ (MemA _ _ _ [own 35 3 v143 ((sortP ps2_).length) ((sortP ps2_).flatMap pinE), blk zb7 (.cells #[(Value.map (some zm8)), (Value.int .u64 fo_)] 87), mapP zm8 ps2_, own 35 3 v18 ((sortP ps_).length) ((sortP ps_).flatMap pinE)] [SlAt 6 v l.length cs3, RepL HActT cs3 l, RepS HActT v l])
           refine TW.pure (v := (Value.bool false)) rfl (by decide) (by decide) rfl (fun w => (Step.cast (congrArg Value.bool (show (decide ((x153.epoch : Int) < (fo_ : Int))) = false by rw [decide_eq_false_iff_not]; omega)) (Step.pure (by kernel_rfl)))) ?_
           refine TW.pure (v := (Value.bool false)) rfl (by decide) (by decide) rfl (fun w => (Step.move rfl)) ?_
           refine TW.pure (v := v143) rfl (by decide) (by decide) rfl (fun w => (Step.move rfl)) ?_
           refine TW.pure (v := (Value.int .i64 ↑k_)) rfl (by decide) (by decide) rfl (fun w => (Step.move rfl)) ?_
           refine TW.pure (v := (Value.pointer (some ⟨(sBlk v143), sOff v143 + k_ * 3, none⟩))) rfl (by decide) (by decide) rfl (fun w => (Step.indexAddr (i := k_) (Try.un33).run Try.el35.sized rfl rfl (by omega) hb151 (by omega))) ?_
           refine TW.pure (v := (Value.pointer (some ⟨(sBlk v143), sOff v143 + k_ * 3 + 2, none⟩))) rfl (by decide) (by decide) rfl (fun w => (Step.pure (by kernel_rfl))) ?_
           refine TW.read (v := (Value.int .u64 x153.epoch)) rfl (by decide) (by decide) rfl (fun A w M => (Step.loadE (k := 2) Try.sc23 (flat_ec (own_slAt (M.chunk 1 rfl).inv) hx153 pinE_len) (by decide) rfl rfl)) ?_
           refine TW.pure (v := (Value.bool true)) rfl (by decide) (by decide) rfl (fun w => (Step.cast (congrArg Value.bool h155) (Step.pure (by kernel_rfl)))) ?_
           refine TW.pure (v := (Value.bool true)) rfl (by decide) (by decide) rfl (fun w => (Step.move rfl)) ?_
           refine TW.pure (v := (Value.int .i64 ((readV fo_ x153.epoch now2_).2))) rfl (by decide) (by decide) rfl (fun w => (Step.move rfl)) ?_
           refine TW.pure (v := (Value.bool false)) rfl (by decide) (by decide) rfl (fun w => (Step.cast (congrArg Value.bool (show (((readV fo_ x153.epoch now2_).2 : Int) != (0 : Int)) = false by rw [hFl2_.read hm_ h155p]; simp)) (Step.pure (by kernel_rfl)))) ?_
           refine TW.pure (v := (Value.bool false)) rfl (by decide) (by decide) rfl (fun w => (Step.move rfl)) ?_
           refine TW.pure (v := (Value.int .u64 ((readV fo_ x153.epoch now2_).1))) rfl (by decide) (by decide) rfl (fun w => (Step.move rfl)) ?_
           refine TW.pure (v := v143) rfl (by decide) (by decide) rfl (fun w => (Step.move rfl)) ?_
           refine TW.pure (v := (Value.int .i64 ↑k_)) rfl (by decide) (by decide) rfl (fun w => (Step.move rfl)) ?_
           refine TW.pure (v := (Value.pointer (some ⟨(sBlk v143), sOff v143 + k_ * 3, none⟩))) rfl (by decide) (by decide) rfl (fun w => (Step.indexAddr (i := k_) (Try.un33).run Try.el35.sized rfl rfl (by omega) hb151 (by omega))) ?_
           refine TW.pure (v := (Value.pointer (some ⟨(sBlk v143), sOff v143 + k_ * 3 + 2, none⟩))) rfl (by decide) (by decide) rfl (fun w => (Step.pure (by kernel_rfl))) ?_
           refine TW.read (v := (Value.int .u64 x153.epoch)) rfl (by decide) (by decide) rfl (fun A w M => (Step.loadE (k := 2) Try.sc23 (flat_ec (own_slAt (M.chunk 1 rfl).inv) hx153 pinE_len) (by decide) rfl rfl)) ?_
           refine TW.pure (v := (Value.bool false)) rfl (by decide) (by decide) rfl (fun w => (Step.cast (congrArg Value.bool (show (((readV fo_ x153.epoch now2_).1 : Int) != (x153.epoch : Int)) = false by rw [hFl2_.read hm_ h155p]; simp)) (Step.pure (by kernel_rfl)))) ?_
           refine TW.pure (v := (Value.bool false)) rfl (by decide) (by decide) rfl (fun w => (Step.pick (t := false) rfl rfl)) ?_
           refine TW.pure (v := (Value.bool false)) rfl (by decide) (by decide) rfl (fun w => (Step.pick (t := true) rfl rfl)) ?_
           refine TW.pure (v := (Value.bool false)) rfl (by decide) (by decide) rfl (fun w => (Step.pick (t := false) rfl rfl)) ?_
           refine TW.done (fun w156 M => ?_)
           refine W.cond (t := false) rfl (fun h => by cases h) (fun _ => ?_)
           refine W.skip ?_
           refine W.region rfl ?_
           refine WL.step (v := (Value.int .i64 ↑k_)) rfl (Step.move rfl) ?_
           refine WL.step (v := (Value.int .i64 (↑k_ + 1))) rfl (Step.add rfl rfl (wrap_i64 (by omega))) ?_
           refine WL.step (v := (Value.int .i64 (↑k_ + 1))) rfl (Step.assign rfl) ?_
           refine WL.nil ?_
           exact ⟨_, (by omega), k_ + 1, ⟨(by omega), rfl⟩, ⟨rfl, rfl, rfl, rfl, rfl, rfl, rfl, rfl, rfl, rfl, rfl, rfl, rfl, rfl, rfl, rfl, rfl, rfl, rfl, rfl, rfl, rfl, rfl, rfl, rfl, rfl, rfl, rfl, rfl, rfl, rfl, rfl, rfl, rfl, rfl, rfl, rfl, rfl, rfl, rfl, rfl, rfl, rfl, rfl, rfl, rfl, rfl, rfl, rfl, rfl, rfl, rfl, rfl, rfl, rfl, rfl, rfl, rfl, rfl, rfl, rfl, rfl, rfl, rfl, rfl, rfl, rfl, rfl, rfl, rfl, rfl, rfl, rfl, rfl, rfl, rfl, rfl, rfl, rfl, rfl, rfl, rfl, rfl, rfl, rfl, rfl, rfl, rfl⟩, M⟩
          ·
           have h155p := of_decide_eq_false h155
           refine W.drawn M [0, 1, 2, 3, 4, 5, 6, 7, 8, 9, 10, 11, 12, 13, 14, 15, 16, 17, 18, 19, 20, 21, 22, 23, 24, 25, 26, 27, 28] [6] [] [own 35 3 v143 ((sortP ps2_).length) ((sortP ps2_).flatMap pinE), blk zb7 (.cells #[(Value.map (some zm8)), (Value.int .u64 fo_)] 87), mapP zm8 ps2_, own 35 3 v18 ((sortP ps_).length) ((sortP ps_).flatMap pinE)] [SlAt 6 v l.length cs3, RepL HActT cs3 l, RepS HActT v l] (List.Sublist.cons_cons _ (List.Sublist.cons_cons _ (List.Sublist.cons_cons _ (List.Sublist.cons_cons _ List.Sublist.slnil)))) (fun _ h => h) Try.mixed (by kernel_rfl) ?_
           refine TW.pure (v := v143) rfl (by decide) (by decide) rfl (fun w => (Step.move rfl)) ?_
           refine TW.pure (v := (Value.int .i64 ↑k_)) rfl (by decide) (by decide) rfl (fun w => (Step.move rfl)) ?_
           refine TW.pure (v := (Value.pointer (some ⟨(sBlk v143), sOff v143 + k_ * 3, none⟩))) rfl (by decide) (by decide) rfl (fun w => (Step.indexAddr (i := k_) (Try.un33).run Try.el35.sized rfl rfl (by omega) hb151 (by omega))) ?_
           refine TW.pure (v := (Value.pointer (some ⟨(sBlk v143), sOff v143 + k_ * 3 + 2, none⟩))) rfl (by decide) (by decide) rfl (fun w => (Step.pure (by kernel_rfl))) ?_
           refine TW.read (v := (Value.int .u64 x153.epoch)) rfl (by decide) (by decide) rfl (fun A w M => (Step.loadE (k := 2) Try.sc23 (flat_ec (own_slAt (M.chunk 1 rfl).inv) hx153 pinE_len) (by decide) rfl rfl)) ?_
           refine TW.pure (v := (Value.pointer (some ⟨zb7, 0, none⟩))) rfl (by decide) (by decide) rfl (fun w => (Step.move rfl)) ?_
           refine TW.callX (ι := Unit) (fun jx v_ => v_ = (Value.int .u64 fo_)) (fun jx => [own 35 3 v143 ((sortP ps2_).length) ((sortP ps2_).flatMap pinE), blk zb7 (.cells #[(Value.map (some zm8)), (Value.int .u64 fo_)] 87), mapP zm8 ps2_, own 35 3 v18 ((sortP ps_).length) ((sortP ps_).flatMap pinE)]) (fun jx => [SlAt 6 v l.length cs3, RepL HActT cs3 l, RepS HActT v l]) rfl (by decide) rfl (fun jx => (List.Sublist.cons_cons _ (List.Sublist.cons_cons _ (List.Sublist.cons_cons _ (List.Sublist.cons_cons _ List.Sublist.slnil))))) (fun jx r h => h) (fun A w M => Rets.mono (hz_floor zb7 zm8 ps2_ fo_ (M.enterW (C := [blk zb7 (.cells #[(Value.map (some zm8)), (Value.int .u64 fo_)] 87), mapP zm8 ps2_]) (D := [fl A, own 35 3 v143 ((sortP ps2_).length) ((sortP ps2_).flatMap pinE), own 35 3 v18 ((sortP ps_).length) ((sortP ps_).flatMap pinE)]) [2, 3, 0, 1, 4] rfl (by decide) trivial)) (fun v_ w_ ⟨e_, m⟩ => ⟨(), e_, (M.leaveW (C := [blk zb7 (.cells #[(Value.map (some zm8)), (Value.int .u64 fo_)] 87), mapP zm8 ps2_]) (D := [fl A, own 35 3 v143 ((sortP ps2_).length) ((sortP ps2_).flatMap pinE), own 35 3 v18 ((sortP ps_).length) ((sortP ps_).flatMap pinE)]) [2, 3, 0, 1, 4] rfl (by decide) m).sel (L' := [fl A, own 35 3 v143 ((sortP ps2_).length) ((sortP ps2_).flatMap pinE), blk zb7 (.cells #[(Value.map (some zm8)), (Value.int .u64 fo_)] 87), mapP zm8 ps2_, own 35 3 v18 ((sortP ps_).length) ((sortP ps_).flatMap pinE)]) [2, 3, 0, 1, 4] rfl (by decide), fun b hb => M.keptW (C := [blk zb7 (.cells #[(Value.map (some zm8)), (Value.int .u64 fo_)] 87), mapP zm8 ps2_]) (D := [fl A, own 35 3 v143 ((sortP ps2_).length) ((sortP ps2_).flatMap pinE), own 35 3 v18 ((sortP ps_).length) ((sortP ps_).flatMap pinE)]) [2, 3, 0, 1, 4] rfl (by decide) m (fl A) (List.mem_cons_self ..) b hb⟩)) (fun w => CallsF.func Try.en17 rfl) (fun jx v hp hin => ?_)
           replace hp := hp.symm; subst hp
           clear hin
           change TW _ _ _ _ _ _ _ _ (MemA _ _ _ [own 35 3 v143 ((sortP ps2_).length) ((sortP ps2_).flatMap pinE), blk zb7 (.cells #[(Value.map (some zm8)), (Value.int .u64 fo_)] 87), mapP zm8 ps2_, own 35 3 v18 ((sortP ps_).length) ((sortP ps_).flatMap pinE)] [SlAt 6 v l.length cs3, RepL HActT cs3 l, RepS HActT v l])
           refine TW.pure (v := (Value.bool false)) rfl (by decide) (by decide) rfl (fun w => (Step.cast (congrArg Value.bool (show (decide ((x153.epoch : Int) < (fo_ : Int))) = false by rw [decide_eq_false_iff_not]; omega)) (Step.pure (by kernel_rfl)))) ?_
           refine TW.pure (v := (Value.bool false)) rfl (by decide) (by decide) rfl (fun w => (Step.move rfl)) ?_
           refine TW.pure (v := v143) rfl (by decide) (by decide) rfl (fun w => (Step.move rfl)) ?_
           refine TW.pure (v := (Value.int .i64 ↑k_)) rfl (by decide) (by decide) rfl (fun w => (Step.move rfl)) ?_
           refine TW.pure (v := (Value.pointer (some ⟨(sBlk v143), sOff v143 + k_ * 3, none⟩))) rfl (by decide) (by decide) rfl (fun w => (Step.indexAddr (i := k_) (Try.un33).run Try.el35.sized rfl rfl (by omega) hb151 (by omega))) ?_
           refine TW.pure (v := (Value.pointer (some ⟨(sBlk v143), sOff v143 + k_ * 3 + 2, none⟩))) rfl (by decide) (by decide) rfl (fun w => (Step.pure (by kernel_rfl))) ?_
           refine TW.read (v := (Value.int .u64 x153.epoch)) rfl (by decide) (by decide) rfl (fun A w M => (Step.loadE (k := 2) Try.sc23 (flat_ec (own_slAt (M.chunk 1 rfl).inv) hx153 pinE_len) (by decide) rfl rfl)) ?_
           refine TW.pure (v := (Value.bool false)) rfl (by decide) (by decide) rfl (fun w => (Step.cast (congrArg Value.bool h155) (Step.pure (by kernel_rfl)))) ?_
           refine TW.pure (v := (Value.bool false)) rfl (by decide) (by decide) rfl (fun w => (Step.move rfl)) ?_
           refine TW.skip rfl rfl ?_
           refine TW.skip rfl rfl ?_
           refine TW.skip rfl rfl ?_
           refine TW.skip rfl rfl ?_
           refine TW.skip rfl rfl ?_
           refine TW.skip rfl rfl ?_
           refine TW.skip rfl rfl ?_
           refine TW.skip rfl rfl ?_
           refine TW.skip rfl rfl ?_
           refine TW.skip rfl rfl ?_
           refine TW.skip rfl rfl ?_
           refine TW.pure (v := (Value.bool false)) rfl (by decide) (by decide) rfl (fun w => (Step.pick (t := false) rfl rfl)) ?_
           refine TW.pure (v := (Value.bool false)) rfl (by decide) (by decide) rfl (fun w => (Step.pick (t := false) rfl rfl)) ?_
           refine TW.done (fun w157 M => ?_)
           refine W.cond (t := false) rfl (fun h => by cases h) (fun _ => ?_)
           refine W.skip ?_
           refine W.region rfl ?_
           refine WL.step (v := (Value.int .i64 ↑k_)) rfl (Step.move rfl) ?_
           refine WL.step (v := (Value.int .i64 (↑k_ + 1))) rfl (Step.add rfl rfl (wrap_i64 (by omega))) ?_
           refine WL.step (v := (Value.int .i64 (↑k_ + 1))) rfl (Step.assign rfl) ?_
           refine WL.nil ?_
           exact ⟨_, (by omega), k_ + 1, ⟨(by omega), rfl⟩, ⟨rfl, rfl, rfl, rfl, rfl, rfl, rfl, rfl, rfl, rfl, rfl, rfl, rfl, rfl, rfl, rfl, rfl, rfl, rfl, rfl, rfl, rfl, rfl, rfl, rfl, rfl, rfl, rfl, rfl, rfl, rfl, rfl, rfl, rfl, rfl, rfl, rfl, rfl, rfl, rfl, rfl, rfl, rfl, rfl, rfl, rfl, rfl, rfl, rfl, rfl, rfl, rfl, rfl, rfl, rfl, rfl, rfl, rfl, rfl, rfl, rfl, rfl, rfl, rfl, rfl, rfl, rfl, rfl, rfl, rfl, rfl, rfl, rfl, rfl, rfl, rfl, rfl, rfl, rfl, rfl, rfl, rfl, rfl, rfl, rfl, rfl, rfl, rfl⟩, M⟩
         ·
          have h150p := of_decide_eq_false h150
          refine W.exit ?_
          refine thn_exit ?_
          refine thn_exit ?_
          refine inBlk_hit ?_
          refine W.seq' ?_
          refine W.region rfl ?_
          refine WL.step (v := v18) rfl (Step.move rfl) ?_
          refine WL.step (v := (Value.int .i64 (↑((sortP ps_).length)))) rfl (Step.lenSl Try.un33 rfl (own_slAt (M.chunk 3 rfl).inv)) ?_
          refine WL.step (v := v143) rfl (Step.move rfl) ?_
          refine WL.step (v := (Value.int .i64 (↑((sortP ps2_).length)))) rfl (Step.lenSl Try.un33 rfl (own_slAt (M.chunk 0 rfl).inv)) ?_
          refine WL.step (v := (Value.int .i64 (↑((sortP ps2_).length) + 1))) rfl (Step.add rfl rfl (wrap_i64 (by omega))) ?_
          refine WL.step (v := (Value.bool false)) rfl (Step.cast (congrArg Value.bool (show (decide ((↑((sortP ps_).length) : Int) > (↑((sortP ps2_).length) + 1 : Int))) = false by rw [decide_eq_false_iff_not]; omega)) (Step.pure (by kernel_rfl))) ?_
          refine WL.nil ?_
          refine W.cond (t := false) rfl (fun h => by cases h) (fun _ => ?_)
          refine W.skip ?_
          refine W.region rfl ?_
          refine WL.step (v := (Value.int .i64 ↑i_)) rfl (Step.move rfl) ?_
          refine WL.step (v := (Value.int .i64 (↑i_ + 1))) rfl (Step.add rfl rfl (wrap_i64 (by omega))) ?_
          refine WL.step (v := (Value.int .i64 (↑i_ + 1))) rfl (Step.assign rfl) ?_
          refine WL.nil ?_
          replace M := M.sel (L' := [blk zb7 (.cells #[(Value.map (some zm8)), (Value.int .u64 fo_)] 87), mapP zm8 ps2_]) [1, 2] rfl (by decide)
          exact ⟨_, (by omega), i_ + 1, ps2_, fo_, now2_, ⟨(by omega), hFl2_, (by omega), (by omega), rfl⟩, ⟨rfl, rfl, rfl, rfl, rfl, rfl⟩, M⟩
       ·
        have h122p : ¬ (pinC ps_ fo_ ([(⟨a24.p.sort, a24.p.id, ep_⟩ : PinH)] : List PinH) : Int) = (0 : Int) := by simpa using h122
        rw [h122]
        refine WL.pass rfl ?_
        refine WL.pass rfl ?_
        refine WL.pass rfl ?_
        refine WL.step (v := (Value.bool false)) rfl (Step.pick (t := false) rfl rfl) ?_
        refine WL.step (v := (Value.bool false)) rfl (Step.move rfl) ?_
        refine WL.pass rfl ?_
        refine WL.pass rfl ?_
        refine WL.step (v := (Value.bool false)) rfl (Step.pick (t := false) rfl rfl) ?_
        refine WL.nil ?_
        refine W.cond (t := false) rfl (fun h => by cases h) (fun _ => ?_)
        refine W.skip ?_
        refine W.seq' ?_
        refine W.seq' ?_
        refine W.region rfl ?_
        refine WL.step (v := (Value.pointer (some ⟨zb7, 0, none⟩))) rfl (Step.move rfl) ?_
        refine WL.callX rfl (hz_floor zb7 zm8 ps2_ fo_ (M.enterW (C := [blk zb7 (.cells #[(Value.map (some zm8)), (Value.int .u64 fo_)] 87), mapP zm8 ps2_]) (D := [blk b118 (.cells #[(Value.int .u8 a24.p.sort), (Value.int .u64 a24.p.id), (Value.int .u64 ep_)] 35), blk b114 (.cells #[(Value.int .u8 a24.p.sort), (Value.int .u64 a24.p.id), (Value.int .u64 ep_)] 35), blk b27 (.cells #[(Value.int .i64 a24.do_), lv25, (Value.int .u8 a24.p.sort), (Value.int .u64 a24.p.id), (Value.int .u64 a24.p.epoch), (Value.int .u64 a24.now)] 37), own 35 3 v18 ((sortP ps_).length) ((sortP ps_).flatMap pinE)]) [0, 1, 2, 3, 4, 5] rfl (by decide) trivial)) (CallsF.func Try.en17 rfl) ?_
        rintro _ w158 ⟨rfl, m⟩
        replace M := M.leaveW (C := [blk zb7 (.cells #[(Value.map (some zm8)), (Value.int .u64 fo_)] 87), mapP zm8 ps2_]) (D := [blk b118 (.cells #[(Value.int .u8 a24.p.sort), (Value.int .u64 a24.p.id), (Value.int .u64 ep_)] 35), blk b114 (.cells #[(Value.int .u8 a24.p.sort), (Value.int .u64 a24.p.id), (Value.int .u64 ep_)] 35), blk b27 (.cells #[(Value.int .i64 a24.do_), lv25, (Value.int .u8 a24.p.sort), (Value.int .u64 a24.p.id), (Value.int .u64 a24.p.epoch), (Value.int .u64 a24.now)] 37), own 35 3 v18 ((sortP ps_).length) ((sortP ps_).flatMap pinE)]) [0, 1, 2, 3, 4, 5] rfl (by decide) m
        replace M := M.sel (L' := [blk zb7 (.cells #[(Value.map (some zm8)), (Value.int .u64 fo_)] 87), mapP zm8 ps2_, blk b118 (.cells #[(Value.int .u8 a24.p.sort), (Value.int .u64 a24.p.id), (Value.int .u64 ep_)] 35), blk b114 (.cells #[(Value.int .u8 a24.p.sort), (Value.int .u64 a24.p.id), (Value.int .u64 ep_)] 35), blk b27 (.cells #[(Value.int .i64 a24.do_), lv25, (Value.int .u8 a24.p.sort), (Value.int .u64 a24.p.id), (Value.int .u64 a24.p.epoch), (Value.int .u64 a24.now)] 37), own 35 3 v18 ((sortP ps_).length) ((sortP ps_).flatMap pinE)]) [0, 1, 2, 3, 4, 5] rfl (by decide)
        clear m
        replace M : Mem _ _ _ [blk zb7 (.cells #[(Value.map (some zm8)), (Value.int .u64 fo_)] 87), mapP zm8 ps2_, blk b118 (.cells #[(Value.int .u8 a24.p.sort), (Value.int .u64 a24.p.id), (Value.int .u64 ep_)] 35), blk b114 (.cells #[(Value.int .u8 a24.p.sort), (Value.int .u64 a24.p.id), (Value.int .u64 ep_)] 35), blk b27 (.cells #[(Value.int .i64 a24.do_), lv25, (Value.int .u8 a24.p.sort), (Value.int .u64 a24.p.id), (Value.int .u64 a24.p.epoch), (Value.int .u64 a24.now)] 37), own 35 3 v18 ((sortP ps_).length) ((sortP ps_).flatMap pinE)] [EC v 6 i_ [(Value.int .i64 a24.do_), lv25, (Value.int .u8 a24.p.sort), (Value.int .u64 a24.p.id), (Value.int .u64 a24.p.epoch), (Value.int .u64 a24.now)], SlAt 3 lv25 a24.l.length (a24.l.flatMap pinE), SlAt 6 v l.length cs3, RepL HActT cs3 l, RepS HActT v l] _ := M
        replace M := M.sel (L' := [blk zb7 (.cells #[(Value.map (some zm8)), (Value.int .u64 fo_)] 87), mapP zm8 ps2_, own 35 3 v18 ((sortP ps_).length) ((sortP ps_).flatMap pinE)]) [0, 1, 5] rfl (by decide)
        replace M : Mem _ _ _ [blk zb7 (.cells #[(Value.map (some zm8)), (Value.int .u64 fo_)] 87), mapP zm8 ps2_, own 35 3 v18 ((sortP ps_).length) ((sortP ps_).flatMap pinE)] [EC v 6 i_ [(Value.int .i64 a24.do_), lv25, (Value.int .u8 a24.p.sort), (Value.int .u64 a24.p.id), (Value.int .u64 a24.p.epoch), (Value.int .u64 a24.now)], SlAt 3 lv25 a24.l.length (a24.l.flatMap pinE), SlAt 6 v l.length cs3, RepL HActT cs3 l, RepS HActT v l] _ := M
        replace M := M.sub (List.Sublist.refl _) (R' := [SlAt 6 v l.length cs3, RepL HActT cs3 l, RepS HActT v l]) (fun r h => (List.mem_cons_of_mem _ (List.mem_cons_of_mem _ h)))
        replace M : Mem _ _ _ [blk zb7 (.cells #[(Value.map (some zm8)), (Value.int .u64 fo_)] 87), mapP zm8 ps2_, own 35 3 v18 ((sortP ps_).length) ((sortP ps_).flatMap pinE)] [SlAt 6 v l.length cs3, RepL HActT cs3 l, RepS HActT v l] _ := M
        refine WL.step (v := (Value.int .u64 fo_)) rfl (Step.move rfl) ?_
        refine WL.step (v := (Value.bool false)) rfl (Step.cast (congrArg Value.bool (show (decide ((fo_ : Int) < (fo_ : Int))) = false by rw [decide_eq_false_iff_not]; omega)) (Step.pure (by kernel_rfl))) ?_
        refine WL.step (v := (Value.bool false)) rfl (Step.move rfl) ?_
        refine WL.step (v := (Value.pointer (some ⟨zb7, 0, none⟩))) rfl (Step.move rfl) ?_
        refine WL.callX rfl (hz_floor zb7 zm8 ps2_ fo_ (M.enterW (C := [blk zb7 (.cells #[(Value.map (some zm8)), (Value.int .u64 fo_)] 87), mapP zm8 ps2_]) (D := [own 35 3 v18 ((sortP ps_).length) ((sortP ps_).flatMap pinE)]) [0, 1, 2] rfl (by decide) trivial)) (CallsF.func Try.en17 rfl) ?_
        rintro _ w159 ⟨rfl, m⟩
        replace M := M.leaveW (C := [blk zb7 (.cells #[(Value.map (some zm8)), (Value.int .u64 fo_)] 87), mapP zm8 ps2_]) (D := [own 35 3 v18 ((sortP ps_).length) ((sortP ps_).flatMap pinE)]) [0, 1, 2] rfl (by decide) m
        replace M := M.sel (L' := [blk zb7 (.cells #[(Value.map (some zm8)), (Value.int .u64 fo_)] 87), mapP zm8 ps2_, own 35 3 v18 ((sortP ps_).length) ((sortP ps_).flatMap pinE)]) [0, 1, 2] rfl (by decide)
        clear m
        replace M : Mem _ _ _ [blk zb7 (.cells #[(Value.map (some zm8)), (Value.int .u64 fo_)] 87), mapP zm8 ps2_, own 35 3 v18 ((sortP ps_).length) ((sortP ps_).flatMap pinE)] [SlAt 6 v l.length cs3, RepL HActT cs3 l, RepS HActT v l] _ := M
        refine WL.step (v := (Value.int .u64 now2_)) rfl (Step.move rfl) ?_
        refine WL.step (v := (Value.bool false)) rfl (Step.cast (congrArg Value.bool (show (decide ((fo_ : Int) > (now2_ : Int))) = false by rw [decide_eq_false_iff_not]; omega)) (Step.pure (by kernel_rfl))) ?_
        refine WL.step (v := (Value.bool false)) rfl (Step.pick (t := false) rfl rfl) ?_
        refine WL.nil ?_
        refine W.cond (t := false) rfl (fun h => by cases h) (fun _ => ?_)
        refine W.skip ?_
        refine W.seq' ?_
        refine W.region rfl ?_
        refine WL.step (v := (Value.pointer (some ⟨zb7, 0, none⟩))) rfl (Step.move rfl) ?_
        refine WL.callX rfl (hz_pins zb7 zm8 ps2_ fo_ (by first | omega | (simp; done)) (by assumption) (M.enterW (C := [blk zb7 (.cells #[(Value.map (some zm8)), (Value.int .u64 fo_)] 87), mapP zm8 ps2_]) (D := [own 35 3 v18 ((sortP ps_).length) ((sortP ps_).flatMap pinE)]) [0, 1, 2] rfl (by decide) trivial)) (CallsF.func Try.en14 rfl) ?_
        rintro v160 w161 ⟨_, rfl, m⟩
        replace M := M.leaveW (C := [blk zb7 (.cells #[(Value.map (some zm8)), (Value.int .u64 fo_)] 87), mapP zm8 ps2_]) (D := [own 35 3 v18 ((sortP ps_).length) ((sortP ps_).flatMap pinE)]) [0, 1, 2] rfl (by decide) m
        replace M := M.sel (L' := [own 35 3 v160 ((sortP ps2_).length) ((sortP ps2_).flatMap pinE), blk zb7 (.cells #[(Value.map (some zm8)), (Value.int .u64 fo_)] 87), mapP zm8 ps2_, own 35 3 v18 ((sortP ps_).length) ((sortP ps_).flatMap pinE)]) [2, 0, 1, 3] rfl (by decide)
        clear m
        replace M : Mem _ _ _ [own 35 3 v160 ((sortP ps2_).length) ((sortP ps2_).flatMap pinE), blk zb7 (.cells #[(Value.map (some zm8)), (Value.int .u64 fo_)] 87), mapP zm8 ps2_, own 35 3 v18 ((sortP ps_).length) ((sortP ps_).flatMap pinE)] [SlAt 6 v l.length cs3, RepL HActT cs3 l, RepS HActT v l] _ := M
        have sl162 : IsSl v160 := SlAt.isSl (own_slAt (Mem.chunk M 0 rfl).inv)
        have hle163 := SlAt.le' (own_slAt (Mem.chunk M 0 rfl).inv)
        refine WL.step (v := v160) rfl (Step.assign rfl) ?_
        refine WL.nil ?_
        refine W.seq' ?_
        refine W.seq' ?_
        refine W.region rfl ?_
        refine WL.step (v := (Value.int .i64 0)) rfl (Step.assign rfl) ?_
        refine WL.nil ?_
        refine W.block ?_
        refine W.loop (fun kk ρ w' => ∃ (k_ : Nat), ((k_ ≤ (sortP ps2_).length) ∧ kk = (sortP ps2_).length - k_) ∧ ρ.has [(0, v), (3, (Value.pointer (some ⟨zb7, 0, none⟩))), (4, (Value.int .u64 now2_)), (5, (Value.int .i64 ↑i_)), (6, (Value.int .u64 fo_)), (7, v18), (8, (Value.pointer (some ⟨b27, 0, none⟩))), (10, (Value.pointer (some ⟨b114, 0, none⟩))), (11, (Value.int .i64 (pinC ps_ fo_ ([(⟨a24.p.sort, a24.p.id, ep_⟩ : PinH)] : List PinH)))), (13, (Value.int .i64 ((readV fo_ ep_ now2_).2))), (14, v160), (15, (Value.int .i64 ↑k_)), (25, (Value.int .i64 ↑i_)), (26, v), (27, (Value.int .i64 ↑l.length)), (28, (Value.bool (decide ((↑i_ : Int) < (↑l.length : Int))))), (31, (Value.pointer (some ⟨zb7, 0, none⟩))), (32, (Value.int .u64 fo_)), (33, (Value.pointer (some ⟨zb7, 0, none⟩))), (34, v18), (35, (Value.int .u64 now_)), (36, v), (37, (Value.int .i64 ↑i_)), (38, (Value.pointer (some ⟨(sBlk v), sOff v + i_ * 6, none⟩))), (39, (Value.pointer (some ⟨(sBlk v), sOff v + i_ * 6 + 5, none⟩))), (40, (Value.int .u64 a24.now)), (41, (Value.int .u64 ((a24.now : Int) % 1048576))), (42, (Value.int .u64 now2_)), (43, v), (44, (Value.int .i64 ↑i_)), (45, (Value.pointer (some ⟨(sBlk v), sOff v + i_ * 6, none⟩))), (46, (Value.agg #[(Value.int .i64 a24.do_), lv25, (Value.int .u8 a24.p.sort), (Value.int .u64 a24.p.id), (Value.int .u64 a24.p.epoch), (Value.int .u64 a24.now)])), (47, (Value.pointer (some ⟨b27, 0, none⟩))), (48, (Value.int .i64 a24.do_)), (49, (Value.int .i64 (pickI a24.do_ 6))), (50, (Value.pointer (some ⟨b27, 2, none⟩))), (51, (Value.agg #[(Value.int .u8 a24.p.sort), (Value.int .u64 a24.p.id), (Value.int .u64 a24.p.epoch)])), (52, (Value.int .u64 now2_)), (53, (Value.int .u64 now2_)), (54, (Value.pointer (some ⟨b27, 2, none⟩))), (55, (Value.pointer (some ⟨b27, 4, none⟩))), (56, (Value.int .u64 a24.p.epoch)), (57, (Value.int .u64 ((a24.p.epoch : Int) % 8))), (58, (Value.int .u64 (min (now2_ : Int) ((a24.p.epoch : Int) % 8 : Int)))), (59, (Value.int .u64 ep_)), (60, (Value.pointer (some ⟨b114, 2, none⟩))), (61, (Value.pointer (some ⟨zb7, 0, none⟩))), (62, (Value.agg #[(Value.int .u8 a24.p.sort), (Value.int .u64 a24.p.id), (Value.int .u64 ep_)])), (63, (Value.slice (some ⟨b118, 0, none⟩) 1 1)), (64, (Value.int .i64 (pinC ps_ fo_ ([(⟨a24.p.sort, a24.p.id, ep_⟩ : PinH)] : List PinH)))), (65, (Value.tuple #[(Value.int .u64 ((readV fo_ ep_ now2_).1)), (Value.int .i64 ((readV fo_ ep_ now2_).2))])), (66, (Value.pointer (some ⟨zb7, 0, none⟩))), (67, (Value.pointer (some ⟨b114, 2, none⟩))), (68, (Value.int .u64 ep_)), (69, (Value.int .u64 now2_)), (70, (Value.tuple #[(Value.int .u64 ((readV fo_ ep_ now2_).1)), (Value.int .i64 ((readV fo_ ep_ now2_).2))])), (71, (Value.int .u64 ((readV fo_ ep_ now2_).1))), (72, (Value.int .i64 ((readV fo_ ep_ now2_).2))), (73, (Value.int .i64 (pinC ps_ fo_ ([(⟨a24.p.sort, a24.p.id, ep_⟩ : PinH)] : List PinH)))), (74, (Value.bool false)), (75, (Value.bool false)), (79, (Value.bool false)), (80, (Value.bool false)), (83, (Value.bool false)), (84, (Value.bool ((pickI a24.do_ 6 : Int) == (2 : Int)))), (85, (Value.bool ((pickI a24.do_ 6 : Int) == (2 : Int)))), (96, (Value.bool ((pickI a24.do_ 6 : Int) == (3 : Int)))), (97, (Value.bool ((pickI a24.do_ 6 : Int) == (3 : Int)))), (106, (Value.bool ((pickI a24.do_ 6 : Int) == (5 : Int)))), (107, (Value.bool ((pickI a24.do_ 6 : Int) == (4 : Int)))), (108, (Value.bool ((pickI a24.do_ 6 : Int) == (5 : Int)))), (115, (Value.pointer (some ⟨zb7, 0, none⟩))), (116, (Value.int .u64 fo_)), (117, (Value.int .u64 fo_)), (118, (Value.bool false)), (119, (Value.bool false)), (120, (Value.pointer (some ⟨zb7, 0, none⟩))), (121, (Value.int .u64 fo_)), (122, (Value.int .u64 now2_)), (123, (Value.bool false)), (124, (Value.bool false)), (125, (Value.pointer (some ⟨zb7, 0, none⟩))), (126, v160)] ∧ Mem G (fun _ => False) w [own 35 3 v160 ((sortP ps2_).length) ((sortP ps2_).flatMap pinE), blk zb7 (.cells #[(Value.map (some zm8)), (Value.int .u64 fo_)] 87), mapP zm8 ps2_, own 35 3 v18 ((sortP ps_).length) ((sortP ps_).flatMap pinE)] [SlAt 6 v l.length cs3, RepL HActT cs3 l, RepS HActT v l]  w') _ ⟨0, ⟨(Nat.zero_le _), rfl⟩, ⟨rfl, rfl, rfl, rfl, rfl, rfl, rfl, rfl, rfl, rfl, rfl, rfl, rfl, rfl, rfl, rfl, rfl, rfl, rfl, rfl, rfl, rfl, rfl, rfl, rfl, rfl, rfl, rfl, rfl, rfl, rfl, rfl, rfl, rfl, rfl, rfl, rfl, rfl, rfl, rfl, rfl, rfl, rfl, rfl, rfl, rfl, rfl, rfl, rfl, rfl, rfl, rfl, rfl, rfl, rfl, rfl, rfl, rfl, rfl, rfl, rfl, rfl, rfl, rfl, rfl, rfl, rfl, rfl, rfl, rfl, rfl, rfl, rfl, rfl, rfl, rfl, rfl, rfl, rfl, rfl, rfl, rfl, rfl, rfl, rfl⟩, M⟩ ?_
        rintro _ ρ165 w164 ⟨k_, ⟨hi166, rfl⟩, hρ, M⟩
        obtain ⟨ρ165, rfl⟩ := hρ.know
        clear hρ
        refine W.seq' ?_
        refine W.seq' ?_
        refine W.region rfl ?_
        refine WL.step (v := (Value.int .i64 ↑k_)) rfl (Step.move rfl) ?_
        refine WL.step (v := v160) rfl (Step.move rfl) ?_
        refine WL.step (v := (Value.int .i64 (↑((sortP ps2_).length)))) rfl (Step.lenSl Try.un33 rfl (own_slAt (M.chunk 0 rfl).inv)) ?_
        refine WL.step (v := (Value.bool (decide ((↑k_ : Int) < (↑((sortP ps2_).length) : Int))))) rfl (Step.pure (by kernel_rfl)) ?_
        refine WL.nil ?_
        refine W.cond (t := decide ((↑k_ : Int) < (↑((sortP ps2_).length) : Int))) rfl (fun h167 => ?_) (fun h167 => ?_)
        ·
         have h167p := of_decide_eq_true h167
         refine W.skip ?_
         refine W.seq' ?_
         refine W.block ?_
         refine W.seq' ?_
         refine W.region rfl ?_
         refine WL.step (v := (Value.pointer (some ⟨zb7, 0, none⟩))) rfl (Step.move rfl) ?_
         refine WL.step (v := v160) rfl (Step.move rfl) ?_
         refine WL.step (v := (Value.int .i64 ↑k_)) rfl (Step.move rfl) ?_
         obtain ⟨cap169, hb168⟩ := SlAt.base (own_slAt (M.chunk 0 rfl).inv) (by omega)
         refine WL.step (v := (Value.pointer (some ⟨(sBlk v160), sOff v160 + k_ * 3, none⟩))) rfl (Step.indexAddr (i := k_) (Try.un33).run Try.el35.sized rfl rfl (by omega) hb168 (by omega)) ?_
         refine WL.step (v := (Value.pointer (some ⟨(sBlk v160), sOff v160 + k_ * 3 + 2, none⟩))) rfl (Step.pure (by kernel_rfl)) ?_
         obtain ⟨x170, hx170⟩ := elem_of_lt (xs := sortP ps2_) (i := k_) (by omega)
         have hm_ := (sortP_mem hap2_).1 (List.mem_of_getElem? hx170)
         have hlo_ := hFl2_.low _ hm_
         refine WL.step (v := (Value.int .u64 x170.epoch)) rfl (Step.loadE (k := 2) Try.sc23 (flat_ec (own_slAt (M.chunk 0 rfl).inv) hx170 pinE_len) (by decide) rfl rfl) ?_
         refine WL.step (v := (Value.int .u64 now2_)) rfl (Step.move rfl) ?_
         refine WL.callX rfl (hz_read zb7 zm8 ps2_ fo_ x170.epoch now2_ (M.enterW (C := [blk zb7 (.cells #[(Value.map (some zm8)), (Value.int .u64 fo_)] 87), mapP zm8 ps2_]) (D := [own 35 3 v160 ((sortP ps2_).length) ((sortP ps2_).flatMap pinE), own 35 3 v18 ((sortP ps_).length) ((sortP ps_).flatMap pinE)]) [1, 2, 0, 3] rfl (by decide) trivial)) (CallsF.func Try.en22 rfl) ?_
         rintro _ w171 ⟨rfl, m⟩
         replace M := M.leaveW (C := [blk zb7 (.cells #[(Value.map (some zm8)), (Value.int .u64 fo_)] 87), mapP zm8 ps2_]) (D := [own 35 3 v160 ((sortP ps2_).length) ((sortP ps2_).flatMap pinE), own 35 3 v18 ((sortP ps_).length) ((sortP ps_).flatMap pinE)]) [1, 2, 0, 3] rfl (by decide) m
         replace M := M.sel (L' := [own 35 3 v160 ((sortP ps2_).length) ((sortP ps2_).flatMap pinE), blk zb7 (.cells #[(Value.map (some zm8)), (Value.int .u64 fo_)] 87), mapP zm8 ps2_, own 35 3 v18 ((sortP ps_).length) ((sortP ps_).flatMap pinE)]) [2, 0, 1, 3] rfl (by decide)
         clear m
         replace M : Mem _ _ _ [own 35 3 v160 ((sortP ps2_).length) ((sortP ps2_).flatMap pinE), blk zb7 (.cells #[(Value.map (some zm8)), (Value.int .u64 fo_)] 87), mapP zm8 ps2_, own 35 3 v18 ((sortP ps_).length) ((sortP ps_).flatMap pinE)] [SlAt 6 v l.length cs3, RepL HActT cs3 l, RepS HActT v l] _ := M
         refine WL.step (v := (Value.tuple #[(Value.int .u64 ((readV fo_ x170.epoch now2_).1)), (Value.int .i64 ((readV fo_ x170.epoch now2_).2))])) rfl (Step.move rfl) ?_
         refine WL.step (v := (Value.int .u64 ((readV fo_ x170.epoch now2_).1))) rfl (Step.pure (by kernel_rfl)) ?_
         refine WL.step (v := (Value.int .i64 ((readV fo_ x170.epoch now2_).2))) rfl (Step.pure (by kernel_rfl)) ?_
         refine WL.step (v := (Value.int .u64 ((readV fo_ x170.epoch now2_).1))) rfl (Step.assign rfl) ?_
         refine WL.step (v := (Value.int .i64 ((readV fo_ x170.epoch now2_).2))) rfl (Step.assign rfl) ?_
         refine WL.nil ?_
         refine W.seq' ?_
         rcases Bool.eq_false_or_eq_true (decide ((x170.epoch : Int) > (0 : Int))) with h172 | h172
         ·
          have h172p := of_decide_eq_true h172
          refine W.drawn M [0, 1, 2, 3, 4, 5, 6, 7, 8, 9, 10, 11, 12, 13, 14, 15, 16, 17, 18, 19, 20, 21, 22, 23, 24, 25, 26, 27, 28] [6] [] [own 35 3 v160 ((sortP ps2_).length) ((sortP ps2_).flatMap pinE), blk zb7 (.cells #[(Value.map (some zm8)), (Value.int .u64 fo_)] 87), mapP zm8 ps2_, own 35 3 v18 ((sortP ps_).length) ((sortP ps_).flatMap pinE)] [SlAt 6 v l.length cs3, RepL HActT cs3 l, RepS HActT v l] (List.Sublist.cons_cons _ (List.Sublist.cons_cons _ (List.Sublist.cons_cons _ (List.Sublist.cons_cons _ List.Sublist.slnil)))) (fun _ h => h) Try.mixed (by kernel_rfl) ?_
          refine TW.pure (v := v160) rfl (by decide) (by decide) rfl (fun w => (Step.move rfl)) ?_
          refine TW.pure (v := (Value.int .i64 ↑k_)) rfl (by decide) (by decide) rfl (fun w => (Step.move rfl)) ?_
          refine TW.pure (v := (Value.pointer (some ⟨(sBlk v160), sOff v160 + k_ * 3, none⟩))) rfl (by decide) (by decide) rfl (fun w => (Step.indexAddr (i := k_) (Try.un33).run Try.el35.sized rfl rfl (by omega) hb168 (by omega))) ?_
          refine TW.pure (v := (Value.pointer (some ⟨(sBlk v160), sOff v160 + k_ * 3 + 2, none⟩))) rfl (by decide) (by decide) rfl (fun w => (Step.pure (by kernel_rfl))) ?_
          refine TW.read (v := (Value.int .u64 x170.epoch)) rfl (by decide) (by decide) rfl (fun A w M => (Step.loadE (k := 2) Try.sc23 (flat_ec (own_slAt (M.chunk 1 rfl).inv) hx170 pinE_len) (by decide) rfl rfl)) ?_
          refine TW.pure (v := (Value.pointer (some ⟨zb7, 0, none⟩))) rfl (by decide) (by decide) rfl (fun w => (Step.move rfl)) ?_
          refine TW.callX (ι := Unit) (fun jx v_ => v_ = (Value.int .u64 fo_)) (fun jx => [own 35 3 v160 ((sortP ps2_).length) ((sortP ps2_).flatMap pinE), blk zb7 (.cells #[(Value.map (some zm8)), (Value.int .u64 fo_)] 87), mapP zm8 ps2_, own 35 3 v18 ((sortP ps_).length) ((sortP ps_).flatMap pinE)]) (fun jx => [SlAt 6 v l.length cs3, RepL HActT cs3 l, RepS HActT v l]) rfl (by decide) rfl (fun jx => (List.Sublist.cons_cons _ (List.Sublist.cons_cons _ (List.Sublist.cons_cons _ (List.Sublist.cons_cons _ List.Sublist.slnil))))) (fun jx r h => h) (fun A w M => Rets.mono (hz_floor zb7 zm8 ps2_ fo_ (M.enterW (C := [blk zb7 (.cells #[(Value.map (some zm8)), (Value.int .u64 fo_)] 87), mapP zm8 ps2_]) (D := [fl A, own 35 3 v160 ((sortP ps2_).length) ((sortP ps2_).flatMap pinE), own 35 3 v18 ((sortP ps_).length) ((sortP ps_).flatMap pinE)]) [2, 3, 0, 1, 4] rfl (by decide) trivial)) (fun v_ w_ ⟨e_, m⟩ => ⟨(), e_, (M.leaveW (C := [blk zb7 (.cells #[(Value.map (some zm8)), (Value.int .u64 fo_)] 87), mapP zm8 ps2_]) (D := [fl A, own 35 3 v160 ((sortP ps2_).length) ((sortP ps2_).flatMap pinE), own 35 3 v18 ((sortP ps_).length) ((sortP ps_).flatMap pinE)]) [2, 3, 0, 1, 4] rfl (by decide) m).sel (L' := [fl A, own 35 3 v160 ((sortP ps2_).length) ((sortP ps2_).flatMap pinE), blk zb7 (.cells #[(Value.map (some zm8)), (Value.int .u64 fo_)] 87), mapP zm8 ps2_, own 35 3 v18 ((sortP ps_).length) ((sortP ps_).flatMap pinE)]) [2, 3, 0, 1, 4] rfl (by decide), fun b hb => M.keptW (C := [blk zb7 (.cells #[(Value.map (some zm8)), (Value.int .u64 fo_)] 87), mapP zm8 ps2_]) (D := [fl A, own 35 3 v160 ((sortP ps2_).length) ((sortP ps2_).flatMap pinE), own 35 3 v18 ((sortP ps_).length) ((sortP ps_).flatMap pinE)]) [2, 3, 0, 1, 4] rfl (by decide) m (fl A) (List.mem_cons_self ..) b hb⟩)) (fun w => CallsF.func Try.en17 rfl) (fun jx v hp hin => ?_)
          replace hp := hp.symm; subst hp
          clear hin
          change TW _ _ _ _ _ _ _ _ (MemA _ _ _ [own 35 3 v160 ((sortP ps2_).length) ((sortP ps2_).flatMap pinE), blk zb7 (.cells #[(Value.map (some zm8)), (Value.int .u64 fo_)] 87), mapP zm8 ps2_, own 35 3 v18 ((sortP ps_).length) ((sortP ps_).flatMap pinE)] [SlAt 6 v l.length cs3, RepL HActT cs3 l, RepS HActT v l])
          refine TW.pure (v := (Value.bool false)) rfl (by decide) (by decide) rfl (fun w => (Step.cast (congrArg Value.bool (show (decide ((x170.epoch : Int) < (fo_ : Int))) = false by rw [decide_eq_false_iff_not]; omega)) (Step.pure (by kernel_rfl)))) ?_
          refine TW.pure (v := (Value.bool false)) rfl (by decide) (by decide) rfl (fun w => (Step.move rfl)) ?_
          refine TW.pure (v := v160) rfl (by decide) (by decide) rfl (fun w => (Step.move rfl)) ?_
          refine TW.pure (v := (Value.int .i64 ↑k_)) rfl (by decide) (by decide) rfl (fun w => (Step.move rfl)) ?_
          refine TW.pure (v := (Value.pointer (some ⟨(sBlk v160), sOff v160 + k_ * 3, none⟩))) rfl (by decide) (by decide) rfl (fun w => (Step.indexAddr (i := k_) (Try.un33).run Try.el35.sized rfl rfl (by omega) hb168 (by omega))) ?_
          refine TW.pure (v := (Value.pointer (some ⟨(sBlk v160), sOff v160 + k_ * 3 + 2, none⟩))) rfl (by decide) (by decide) rfl (fun w => (Step.pure (by kernel_rfl))) ?_
          refine TW.read (v := (Value.int .u64 x170.epoch)) rfl (by decide) (by decide) rfl (fun A w M => (Step.loadE (k := 2) Try.sc23 (flat_ec (own_slAt (M.chunk 1 rfl).inv) hx170 pinE_len) (by decide) rfl rfl)) ?_
          refine TW.pure (v := (Value.bool true)) rfl (by decide) (by decide) rfl (fun w => (Step.cast (congrArg Value.bool h172) (Step.pure (by kernel_rfl)))) ?_
          refine TW.pure (v := (Value.bool true)) rfl (by decide) (by decide) rfl (fun w => (Step.move rfl)) ?_
          refine TW.pure (v := (Value.int .i64 ((readV fo_ x170.epoch now2_).2))) rfl (by decide) (by decide) rfl (fun w => (Step.move rfl)) ?_
          refine TW.pure (v := (Value.bool false)) rfl (by decide) (by decide) rfl (fun w => (Step.cast (congrArg Value.bool (show (((readV fo_ x170.epoch now2_).2 : Int) != (0 : Int)) = false by rw [hFl2_.read hm_ h172p]; simp)) (Step.pure (by kernel_rfl)))) ?_
          refine TW.pure (v := (Value.bool false)) rfl (by decide) (by decide) rfl (fun w => (Step.move rfl)) ?_
          refine TW.pure (v := (Value.int .u64 ((readV fo_ x170.epoch now2_).1))) rfl (by decide) (by decide) rfl (fun w => (Step.move rfl)) ?_
          refine TW.pure (v := v160) rfl (by decide) (by decide) rfl (fun w => (Step.move rfl)) ?_
          refine TW.pure (v := (Value.int .i64 ↑k_)) rfl (by decide) (by decide) rfl (fun w => (Step.move rfl)) ?_
          refine TW.pure (v := (Value.pointer (some ⟨(sBlk v160), sOff v160 + k_ * 3, none⟩))) rfl (by decide) (by decide) rfl (fun w => (Step.indexAddr (i := k_) (Try.un33).run Try.el35.sized rfl rfl (by omega) hb168 (by omega))) ?_
          refine TW.pure (v := (Value.pointer (some ⟨(sBlk v160), sOff v160 + k_ * 3 + 2, none⟩))) rfl (by decide) (by decide) rfl (fun w => (Step.pure (by kernel_rfl))) ?_
          refine TW.read (v := (Value.int .u64 x170.epoch)) rfl (by decide) (by decide) rfl (fun A w M => (Step.loadE (k := 2) Try.sc23 (flat_ec (own_slAt (M.chunk 1 rfl).inv) hx170 pinE_len) (by decide) rfl rfl)) ?_
          refine TW.pure (v := (Value.bool false)) rfl (by decide) (by decide) rfl (fun w => (Step.cast (congrArg Value.bool (show (((readV fo_ x170.epoch now2_).1 : Int) != (x170.epoch : Int)) = false by rw [hFl2_.read hm_ h172p]; simp)) (Step.pure (by kernel_rfl)))) ?_
          refine TW.pure (v := (Value.bool false)) rfl (by decide) (by decide) rfl (fun w => (Step.pick (t := false) rfl rfl)) ?_
          refine TW.pure (v := (Value.bool false)) rfl (by decide) (by decide) rfl (fun w => (Step.pick (t := true) rfl rfl)) ?_
          refine TW.pure (v := (Value.bool false)) rfl (by decide) (by decide) rfl (fun w => (Step.pick (t := false) rfl rfl)) ?_
          refine TW.done (fun w173 M => ?_)
          refine W.cond (t := false) rfl (fun h => by cases h) (fun _ => ?_)
          refine W.skip ?_
          refine W.region rfl ?_
          refine WL.step (v := (Value.int .i64 ↑k_)) rfl (Step.move rfl) ?_
          refine WL.step (v := (Value.int .i64 (↑k_ + 1))) rfl (Step.add rfl rfl (wrap_i64 (by omega))) ?_
          refine WL.step (v := (Value.int .i64 (↑k_ + 1))) rfl (Step.assign rfl) ?_
          refine WL.nil ?_
          exact ⟨_, (by omega), k_ + 1, ⟨(by omega), rfl⟩, ⟨rfl, rfl, rfl, rfl, rfl, rfl, rfl, rfl, rfl, rfl, rfl, rfl, rfl, rfl, rfl, rfl, rfl, rfl, rfl, rfl, rfl, rfl, rfl, rfl, rfl, rfl, rfl, rfl, rfl, rfl, rfl, rfl, rfl, rfl, rfl, rfl, rfl, rfl, rfl, rfl, rfl, rfl, rfl, rfl, rfl, rfl, rfl, rfl, rfl, rfl, rfl, rfl, rfl, rfl, rfl, rfl, rfl, rfl, rfl, rfl, rfl, rfl, rfl, rfl, rfl, rfl, rfl, rfl, rfl, rfl, rfl, rfl, rfl, rfl, rfl, rfl, rfl, rfl, rfl, rfl, rfl, rfl, rfl, rfl, rfl⟩, M⟩
         ·
          have h172p := of_decide_eq_false h172
          refine W.drawn M [0, 1, 2, 3, 4, 5, 6, 7, 8, 9, 10, 11, 12, 13, 14, 15, 16, 17, 18, 19, 20, 21, 22, 23, 24, 25, 26, 27, 28] [6] [] [own 35 3 v160 ((sortP ps2_).length) ((sortP ps2_).flatMap pinE), blk zb7 (.cells #[(Value.map (some zm8)), (Value.int .u64 fo_)] 87), mapP zm8 ps2_, own 35 3 v18 ((sortP ps_).length) ((sortP ps_).flatMap pinE)] [SlAt 6 v l.length cs3, RepL HActT cs3 l, RepS HActT v l] (List.Sublist.cons_cons _ (List.Sublist.cons_cons _ (List.Sublist.cons_cons _ (List.Sublist.cons_cons _ List.Sublist.slnil)))) (fun _ h => h) Try.mixed (by kernel_rfl) ?_
          refine TW.pure (v := v160) rfl (by decide) (by decide) rfl (fun w => (Step.move rfl)) ?_
          refine TW.pure (v := (Value.int .i64 ↑k_)) rfl (by decide) (by decide) rfl (fun w => (Step.move rfl)) ?_
          refine TW.pure (v := (Value.pointer (some ⟨(sBlk v160), sOff v160 + k_ * 3, none⟩))) rfl (by decide) (by decide) rfl (fun w => (Step.indexAddr (i := k_) (Try.un33).run Try.el35.sized rfl rfl (by omega) hb168 (by omega))) ?_
          refine TW.pure (v := (Value.pointer (some ⟨(sBlk v160), sOff v160 + k_ * 3 + 2, none⟩))) rfl (by decide) (by decide) rfl (fun w => (Step.pure (by kernel_rfl))) ?_
          refine TW.read (v := (Value.int .u64 x170.epoch)) rfl (by decide) (by decide) rfl (fun A w M => (Step.loadE (k := 2) Try.sc23 (flat_ec (own_slAt (M.chunk 1 rfl).inv) hx170 pinE_len) (by decide) rfl rfl)) ?_
          refine TW.pure (v := (Value.pointer (some ⟨zb7, 0, none⟩))) rfl (by decide) (by decide) rfl (fun w => (Step.move rfl)) ?_
          refine TW.callX (ι := Unit) (fun jx v_ => v_ = (Value.int .u64 fo_)) (fun jx => [own 35 3 v160 ((sortP ps2_).length) ((sortP ps2_).flatMap pinE), blk zb7 (.cells #[(Value.map (some zm8)), (Value.int .u64 fo_)] 87), mapP zm8 ps2_, own 35 3 v18 ((sortP ps_).length) ((sortP ps_).flatMap pinE)]) (fun jx => [SlAt 6 v l.length cs3, RepL HActT cs3 l, RepS HActT v l]) rfl (by decide) rfl (fun jx => (List.Sublist.cons_cons _ (List.Sublist.cons_cons _ (List.Sublist.cons_cons _ (List.Sublist.cons_cons _ List.Sublist.slnil))))) (fun jx r h => h) (fun A w M => Rets.mono (hz_floor zb7 zm8 ps2_ fo_ (M.enterW (C := [blk zb7 (.cells #[(Value.map (some zm8)), (Value.int .u64 fo_)] 87), mapP zm8 ps2_]) (D := [fl A, own 35 3 v160 ((sortP ps2_).length) ((sortP ps2_).flatMap pinE), own 35 3 v18 ((sortP ps_).length) ((sortP ps_).flatMap pinE)]) [2, 3, 0, 1, 4] rfl (by decide) trivial)) (fun v_ w_ ⟨e_, m⟩ => ⟨(), e_, (M.leaveW (C := [blk zb7 (.cells #[(Value.map (some zm8)), (Value.int .u64 fo_)] 87), mapP zm8 ps2_]) (D := [fl A, own 35 3 v160 ((sortP ps2_).length) ((sortP ps2_).flatMap pinE), own 35 3 v18 ((sortP ps_).length) ((sortP ps_).flatMap pinE)]) [2, 3, 0, 1, 4] rfl (by decide) m).sel (L' := [fl A, own 35 3 v160 ((sortP ps2_).length) ((sortP ps2_).flatMap pinE), blk zb7 (.cells #[(Value.map (some zm8)), (Value.int .u64 fo_)] 87), mapP zm8 ps2_, own 35 3 v18 ((sortP ps_).length) ((sortP ps_).flatMap pinE)]) [2, 3, 0, 1, 4] rfl (by decide), fun b hb => M.keptW (C := [blk zb7 (.cells #[(Value.map (some zm8)), (Value.int .u64 fo_)] 87), mapP zm8 ps2_]) (D := [fl A, own 35 3 v160 ((sortP ps2_).length) ((sortP ps2_).flatMap pinE), own 35 3 v18 ((sortP ps_).length) ((sortP ps_).flatMap pinE)]) [2, 3, 0, 1, 4] rfl (by decide) m (fl A) (List.mem_cons_self ..) b hb⟩)) (fun w => CallsF.func Try.en17 rfl) (fun jx v hp hin => ?_)
          replace hp := hp.symm; subst hp
          clear hin
          change TW _ _ _ _ _ _ _ _ (MemA _ _ _ [own 35 3 v160 ((sortP ps2_).length) ((sortP ps2_).flatMap pinE), blk zb7 (.cells #[(Value.map (some zm8)), (Value.int .u64 fo_)] 87), mapP zm8 ps2_, own 35 3 v18 ((sortP ps_).length) ((sortP ps_).flatMap pinE)] [SlAt 6 v l.length cs3, RepL HActT cs3 l, RepS HActT v l])
          refine TW.pure (v := (Value.bool false)) rfl (by decide) (by decide) rfl (fun w => (Step.cast (congrArg Value.bool (show (decide ((x170.epoch : Int) < (fo_ : Int))) = false by rw [decide_eq_false_iff_not]; omega)) (Step.pure (by kernel_rfl)))) ?_
          refine TW.pure (v := (Value.bool false)) rfl (by decide) (by decide) rfl (fun w => (Step.move rfl)) ?_
          refine TW.pure (v := v160) rfl (by decide) (by decide) rfl (fun w => (Step.move rfl)) ?_
          refine TW.pure (v := (Value.int .i64 ↑k_)) rfl (by decide) (by decide) rfl (fun w => (Step.move rfl)) ?_
          refine TW.pure (v := (Value.pointer (some ⟨(sBlk v160), sOff v160 + k_ * 3, none⟩))) rfl (by decide) (by decide) rfl (fun w => (Step.indexAddr (i := k_) (Try.un33).run Try.el35.sized rfl rfl (by omega) hb168 (by omega))) ?_
          refine TW.pure (v := (Value.pointer (some ⟨(sBlk v160), sOff v160 + k_ * 3 + 2, none⟩))) rfl (by decide) (by decide) rfl (fun w => (Step.pure (by kernel_rfl))) ?_
          refine TW.read (v := (Value.int .u64 x170.epoch)) rfl (by decide) (by decide) rfl (fun A w M => (Step.loadE (k := 2) Try.sc23 (flat_ec (own_slAt (M.chunk 1 rfl).inv) hx170 pinE_len) (by decide) rfl rfl)) ?_
          refine TW.pure (v := (Value.bool false)) rfl (by decide) (by decide) rfl (fun w => (Step.cast (congrArg Value.bool h172) (Step.pure (by kernel_rfl)))) ?_
          refine TW.pure (v := (Value.bool false)) rfl (by decide) (by decide) rfl (fun w => (Step.move rfl)) ?_
          refine TW.skip rfl rfl ?_
          refine TW.skip rfl rfl ?_
          refine TW.skip rfl rfl ?_
          refine TW.skip rfl rfl ?_
          refine TW.skip rfl rfl ?_
          refine TW.skip rfl rfl ?_
          refine TW.skip rfl rfl ?_
          refine TW.skip rfl rfl ?_
          refine TW.skip rfl rfl ?_
          refine TW.skip rfl rfl ?_
          refine TW.skip rfl rfl ?_
          refine TW.pure (v := (Value.bool false)) rfl (by decide) (by decide) rfl (fun w => (Step.pick (t := false) rfl rfl)) ?_
          refine TW.pure (v := (Value.bool false)) rfl (by decide) (by decide) rfl (fun w => (Step.pick (t := false) rfl rfl)) ?_
          refine TW.done (fun w174 M => ?_)
          refine W.cond (t := false) rfl (fun h => by cases h) (fun _ => ?_)
          refine W.skip ?_
          refine W.region rfl ?_
          refine WL.step (v := (Value.int .i64 ↑k_)) rfl (Step.move rfl) ?_
          refine WL.step (v := (Value.int .i64 (↑k_ + 1))) rfl (Step.add rfl rfl (wrap_i64 (by omega))) ?_
          refine WL.step (v := (Value.int .i64 (↑k_ + 1))) rfl (Step.assign rfl) ?_
          refine WL.nil ?_
          exact ⟨_, (by omega), k_ + 1, ⟨(by omega), rfl⟩, ⟨rfl, rfl, rfl, rfl, rfl, rfl, rfl, rfl, rfl, rfl, rfl, rfl, rfl, rfl, rfl, rfl, rfl, rfl, rfl, rfl, rfl, rfl, rfl, rfl, rfl, rfl, rfl, rfl, rfl, rfl, rfl, rfl, rfl, rfl, rfl, rfl, rfl, rfl, rfl, rfl, rfl, rfl, rfl, rfl, rfl, rfl, rfl, rfl, rfl, rfl, rfl, rfl, rfl, rfl, rfl, rfl, rfl, rfl, rfl, rfl, rfl, rfl, rfl, rfl, rfl, rfl, rfl, rfl, rfl, rfl, rfl, rfl, rfl, rfl, rfl, rfl, rfl, rfl, rfl, rfl, rfl, rfl, rfl, rfl, rfl⟩, M⟩
        ·
         have h167p := of_decide_eq_false h167
         refine W.exit ?_
         refine thn_exit ?_
         refine thn_exit ?_
         refine inBlk_hit ?_
         refine W.seq' ?_
         refine W.region rfl ?_
         refine WL.step (v := v18) rfl (Step.move rfl) ?_
         refine WL.step (v := (Value.int .i64 (↑((sortP ps_).length)))) rfl (Step.lenSl Try.un33 rfl (own_slAt (M.chunk 3 rfl).inv)) ?_
         refine WL.step (v := v160) rfl (Step.move rfl) ?_
         refine WL.step (v := (Value.int .i64 (↑((sortP ps2_).length)))) rfl (Step.lenSl Try.un33 rfl (own_slAt (M.chunk 0 rfl).inv)) ?_
         refine WL.step (v := (Value.int .i64 (↑((sortP ps2_).length) + 1))) rfl (Step.add rfl rfl (wrap_i64 (by omega))) ?_
         refine WL.step (v := (Value.bool false)) rfl (Step.cast (congrArg Value.bool (show (decide ((↑((sortP ps_).length) : Int) > (↑((sortP ps2_).length) + 1 : Int))) = false by rw [decide_eq_false_iff_not]; omega)) (Step.pure (by kernel_rfl))) ?_
         refine WL.nil ?_
         refine W.cond (t := false) rfl (fun h => by cases h) (fun _ => ?_)
         refine W.skip ?_
         refine W.region rfl ?_
         refine WL.step (v := (Value.int .i64 ↑i_)) rfl (Step.move rfl) ?_
         refine WL.step (v := (Value.int .i64 (↑i_ + 1))) rfl (Step.add rfl rfl (wrap_i64 (by omega))) ?_
         refine WL.step (v := (Value.int .i64 (↑i_ + 1))) rfl (Step.assign rfl) ?_
         refine WL.nil ?_
         replace M := M.sel (L' := [blk zb7 (.cells #[(Value.map (some zm8)), (Value.int .u64 fo_)] 87), mapP zm8 ps2_]) [1, 2] rfl (by decide)
         exact ⟨_, (by omega), i_ + 1, ps2_, fo_, now2_, ⟨(by omega), hFl2_, (by omega), (by omega), rfl⟩, ⟨rfl, rfl, rfl, rfl, rfl, rfl⟩, M⟩
  ·
   have h16p := of_decide_eq_false h16
   refine W.exit ?_
   refine thn_exit ?_
   refine thn_exit ?_
   refine inBlk_hit ?_
   refine W.seq' ?_
   refine W.region rfl ?_
   refine WL.step (v := (Value.pointer (some ⟨zb7, 0, none⟩))) rfl (Step.move rfl) ?_
   refine WL.callX rfl (hz_pins zb7 zm8 ps_ fo_ (by first | omega | (simp; done)) (by assumption) (M.enterW (C := [blk zb7 (.cells #[(Value.map (some zm8)), (Value.int .u64 fo_)] 87), mapP zm8 ps_]) (D := []) [0, 1] rfl (by decide) trivial)) (CallsF.func Try.en14 rfl) ?_
   rintro v175 w176 ⟨_, rfl, m⟩
   replace M := M.leaveW (C := [blk zb7 (.cells #[(Value.map (some zm8)), (Value.int .u64 fo_)] 87), mapP zm8 ps_]) (D := []) [0, 1] rfl (by decide) m
   replace M := M.sel (L' := [own 35 3 v175 ((sortP ps_).length) ((sortP ps_).flatMap pinE), blk zb7 (.cells #[(Value.map (some zm8)), (Value.int .u64 fo_)] 87), mapP zm8 ps_]) [2, 0, 1] rfl (by decide)
   clear m
   replace M : Mem _ _ _ [own 35 3 v175 ((sortP ps_).length) ((sortP ps_).flatMap pinE), blk zb7 (.cells #[(Value.map (some zm8)), (Value.int .u64 fo_)] 87), mapP zm8 ps_] [SlAt 6 v l.length cs3, RepL HActT cs3 l, RepS HActT v l] _ := M
   have sl177 : IsSl v175 := SlAt.isSl (own_slAt (Mem.chunk M 0 rfl).inv)
   have hle178 := SlAt.le' (own_slAt (Mem.chunk M 0 rfl).inv)
   refine WL.step (v := v175) rfl (Step.assign rfl) ?_
   refine WL.nil ?_
   refine W.seq' ?_
   refine W.seq' ?_
   refine W.region rfl ?_
   refine WL.step (v := (Value.int .i64 0)) rfl (Step.assign rfl) ?_
   refine WL.nil ?_
   refine W.block ?_
   replace M := M.rechunk 2 (c' := mapP zm8 (((sortP ps_).take 0).foldl (fun (a : List PinH) (p : PinH) => delP p.sort p.id a) ps_)) rfl rfl
   replace M : Mem _ _ _ [own 35 3 v175 ((sortP ps_).length) ((sortP ps_).flatMap pinE), blk zb7 (.cells #[(Value.map (some zm8)), (Value.int .u64 fo_)] 87), mapP zm8 (((sortP ps_).take 0).foldl (fun (a : List PinH) (p : PinH) => delP p.sort p.id a) ps_)] [SlAt 6 v l.length cs3, RepL HActT cs3 l, RepS HActT v l] _ := M
   replace M := M.sel (L' := [mapP zm8 (((sortP ps_).take 0).foldl (fun (a : List PinH) (p : PinH) => delP p.sort p.id a) ps_), own 35 3 v175 ((sortP ps_).length) ((sortP ps_).flatMap pinE), blk zb7 (.cells #[(Value.map (some zm8)), (Value.int .u64 fo_)] 87)]) [2, 0, 1] rfl (by decide)
   replace M : Mem _ _ _ [mapP zm8 (((sortP ps_).take 0).foldl (fun (a : List PinH) (p : PinH) => delP p.sort p.id a) ps_), own 35 3 v175 ((sortP ps_).length) ((sortP ps_).flatMap pinE), blk zb7 (.cells #[(Value.map (some zm8)), (Value.int .u64 fo_)] 87)] [SlAt 6 v l.length cs3, RepL HActT cs3 l, RepS HActT v l] _ := M
   refine W.loop (fun kk ρ w' => ∃ (k_ : Nat), ((k_ ≤ (sortP ps_).length) ∧ kk = (sortP ps_).length - k_) ∧ ρ.has [(3, (Value.pointer (some ⟨zb7, 0, none⟩))), (4, (Value.int .u64 now_)), (18, v175), (19, (Value.int .i64 ↑k_))] ∧ Mem G (fun _ => False) w [mapP zm8 (((sortP ps_).take k_).foldl (fun (a : List PinH) (p : PinH) => delP p.sort p.id a) ps_), own 35 3 v175 ((sortP ps_).length) ((sortP ps_).flatMap pinE), blk zb7 (.cells #[(Value.map (some zm8)), (Value.int .u64 fo_)] 87)] [SlAt 6 v l.length cs3, RepL HActT cs3 l, RepS HActT v l]  w') _ ⟨0, ⟨(Nat.zero_le _), rfl⟩, ⟨rfl, rfl, rfl, rfl, rfl, rfl⟩, M⟩ ?_
   rintro _ ρ180 w179 ⟨k_, ⟨hi181, rfl⟩, hρ, M⟩
   obtain ⟨ρ180, rfl⟩ := hρ.know
   clear hρ
   refine W.seq' ?_
   refine W.seq' ?_
   refine W.region rfl ?_
   refine WL.step (v := (Value.int .i64 ↑k_)) rfl (Step.move rfl) ?_
   refine WL.step (v := v175) rfl (Step.move rfl) ?_
   refine WL.step (v := (Value.int .i64 (↑((sortP ps_).length)))) rfl (Step.lenSl Try.un33 rfl (own_slAt (M.chunk 1 rfl).inv)) ?_
   refine WL.step (v := (Value.bool (decide ((↑k_ : Int) < (↑((sortP ps_).length) : Int))))) rfl (Step.pure (by kernel_rfl)) ?_
   refine WL.nil ?_
   refine W.cond (t := decide ((↑k_ : Int) < (↑((sortP ps_).length) : Int))) rfl (fun h182 => ?_) (fun h182 => ?_)
   ·
    have h182p := of_decide_eq_true h182
    refine W.skip ?_
    refine W.seq' ?_
    refine W.block ?_
    refine W.seq' ?_
    obtain ⟨cap184, hb183⟩ := SlAt.base (own_slAt (M.chunk 1 rfl).inv) (by omega)
    obtain ⟨x185, hx185⟩ := elem_of_lt (xs := sortP ps_) (i := k_) (by omega)
    refine W.drawn M [0, 1, 2, 3, 4, 5, 6, 7, 8, 9, 10, 11, 12] [11] [] [own 35 3 v175 ((sortP ps_).length) ((sortP ps_).flatMap pinE)] [SlAt 6 v l.length cs3, RepL HActT cs3 l, RepS HActT v l] (List.Sublist.cons _ (List.Sublist.cons_cons _ (List.Sublist.cons _ List.Sublist.slnil))) (fun _ h => h) Try.mixed (by kernel_rfl) ?_
    refine TW.pure (v := (Value.pointer (some ⟨zb7, 0, none⟩))) rfl (by decide) (by decide) rfl (fun w => (Step.move rfl)) ?_
    refine TW.pure (v := v175) rfl (by decide) (by decide) rfl (fun w => (Step.move rfl)) ?_
    refine TW.pure (v := (Value.int .i64 ↑k_)) rfl (by decide) (by decide) rfl (fun w => (Step.move rfl)) ?_
    refine TW.pure (v := (Value.pointer (some ⟨(sBlk v175), sOff v175 + k_ * 3, none⟩))) rfl (by decide) (by decide) rfl (fun w => (Step.indexAddr (i := k_) (Try.un33).run Try.el35.sized rfl rfl (by omega) hb183 (by omega))) ?_
    refine TW.pure (v := (Value.pointer (some ⟨(sBlk v175), sOff v175 + k_ * 3, none⟩))) rfl (by decide) (by decide) rfl (fun w => (Step.pure (by kernel_rfl))) ?_
    refine TW.read (v := (Value.int .u8 x185.sort)) rfl (by decide) (by decide) rfl (fun A w M => (Step.loadE (k := 0) Try.sc5 (flat_ec (own_slAt (M.chunk 1 rfl).inv) hx185 pinE_len) (by decide) rfl rfl)) ?_
    refine TW.pure (v := v175) rfl (by decide) (by decide) rfl (fun w => (Step.move rfl)) ?_
    refine TW.pure (v := (Value.int .i64 ↑k_)) rfl (by decide) (by decide) rfl (fun w => (Step.move rfl)) ?_
    refine TW.pure (v := (Value.pointer (some ⟨(sBlk v175), sOff v175 + k_ * 3, none⟩))) rfl (by decide) (by decide) rfl (fun w => (Step.indexAddr (i := k_) (Try.un33).run Try.el35.sized rfl rfl (by omega) hb183 (by omega))) ?_
    refine TW.pure (v := (Value.pointer (some ⟨(sBlk v175), sOff v175 + k_ * 3 + 1, none⟩))) rfl (by decide) (by decide) rfl (fun w => (Step.pure (by kernel_rfl))) ?_
    refine TW.read (v := (Value.int .u64 x185.id)) rfl (by decide) (by decide) rfl (fun A w M => (Step.loadE (k := 1) Try.sc23 (flat_ec (own_slAt (M.chunk 1 rfl).inv) hx185 pinE_len) (by decide) rfl rfl)) ?_
    refine TW.callX (ι := Unit) (fun jx v_ => v_ = (Value.bool ((heldV x185.sort x185.id (((sortP ps_).take k_).foldl (fun (a : List PinH) (p : PinH) => delP p.sort p.id a) ps_)).2))) (fun jx => [blk zb7 (.cells #[(Value.map (some zm8)), (Value.int .u64 fo_)] 87), mapP zm8 (delP x185.sort x185.id (((sortP ps_).take k_).foldl (fun (a : List PinH) (p : PinH) => delP p.sort p.id a) ps_)), own 35 3 v175 ((sortP ps_).length) ((sortP ps_).flatMap pinE)]) (fun jx => [SlAt 6 v l.length cs3, RepL HActT cs3 l, RepS HActT v l]) rfl (by decide) rfl (fun jx => (List.Sublist.cons _ (List.Sublist.cons _ (List.Sublist.cons_cons _ List.Sublist.slnil)))) (fun jx r h => h) (fun A w M => Rets.mono (hz_drop zb7 zm8 (((sortP ps_).take k_).foldl (fun (a : List PinH) (p : PinH) => delP p.sort p.id a) ps_) fo_ x185.sort x185.id (M.enterW (C := [blk zb7 (.cells #[(Value.map (some zm8)), (Value.int .u64 fo_)] 87), mapP zm8 (((sortP ps_).take k_).foldl (fun (a : List PinH) (p : PinH) => delP p.sort p.id a) ps_)]) (D := [fl A, own 35 3 v175 ((sortP ps_).length) ((sortP ps_).flatMap pinE)]) [3, 1, 0, 2] rfl (by decide) trivial)) (fun v_ w_ ⟨e_, m⟩ => ⟨(), e_, (M.leaveW (C := [blk zb7 (.cells #[(Value.map (some zm8)), (Value.int .u64 fo_)] 87), mapP zm8 (((sortP ps_).take k_).foldl (fun (a : List PinH) (p : PinH) => delP p.sort p.id a) ps_)]) (D := [fl A, own 35 3 v175 ((sortP ps_).length) ((sortP ps_).flatMap pinE)]) [3, 1, 0, 2] rfl (by decide) m).sel (L' := [fl A, blk zb7 (.cells #[(Value.map (some zm8)), (Value.int .u64 fo_)] 87), mapP zm8 (delP x185.sort x185.id (((sortP ps_).take k_).foldl (fun (a : List PinH) (p : PinH) => delP p.sort p.id a) ps_)), own 35 3 v175 ((sortP ps_).length) ((sortP ps_).flatMap pinE)]) [2, 0, 1, 3] rfl (by decide), fun b hb => M.keptW (C := [blk zb7 (.cells #[(Value.map (some zm8)), (Value.int .u64 fo_)] 87), mapP zm8 (((sortP ps_).take k_).foldl (fun (a : List PinH) (p : PinH) => delP p.sort p.id a) ps_)]) (D := [fl A, own 35 3 v175 ((sortP ps_).length) ((sortP ps_).flatMap pinE)]) [3, 1, 0, 2] rfl (by decide) m (fl A) (List.mem_cons_self ..) b hb⟩)) (fun w => CallsF.func Try.en26 rfl) (fun jx v hp hin => ?_)
    replace hp := hp.symm; subst hp
    obtain ⟨_, _, hin⟩ := hin
    clear hin
    change TW _ _ _ _ _ _ _ _ (MemA _ _ _ [blk zb7 (.cells #[(Value.map (some zm8)), (Value.int .u64 fo_)] 87), mapP zm8 (delP x185.sort x185.id (((sortP ps_).take k_).foldl (fun (a : List PinH) (p : PinH) => delP p.sort p.id a) ps_)), own 35 3 v175 ((sortP ps_).length) ((sortP ps_).flatMap pinE)] [SlAt 6 v l.length cs3, RepL HActT cs3 l, RepS HActT v l])
    rw [(show ((heldV x185.sort x185.id (((sortP ps_).take k_).foldl (fun (a : List PinH) (p : PinH) => delP p.sort p.id a) ps_)).2) = true by exact delN_is hap_ (by omega) hx185)]
    refine TW.pure (v := (Value.bool false)) rfl (by decide) (by decide) rfl (fun w => (Step.pure (by kernel_rfl))) ?_
    refine TW.done (fun w186 M => ?_)
    refine W.cond (t := false) rfl (fun h => by cases h) (fun _ => ?_)
    refine W.skip ?_
    refine W.region rfl ?_
    refine WL.step (v := (Value.int .i64 ↑k_)) rfl (Step.move rfl) ?_
    refine WL.step (v := (Value.int .i64 (↑k_ + 1))) rfl (Step.add rfl rfl (wrap_i64 (by omega))) ?_
    refine WL.step (v := (Value.int .i64 (↑k_ + 1))) rfl (Step.assign rfl) ?_
    refine WL.nil ?_
    replace M := M.rechunk 1 (c' := mapP zm8 (((sortP ps_).take (k_ + 1)).foldl (fun (a : List PinH) (p : PinH) => delP p.sort p.id a) ps_)) rfl (by rw [← take_snoc hx185, List.foldl_append]; rfl)
    replace M : Mem _ _ _ [blk zb7 (.cells #[(Value.map (some zm8)), (Value.int .u64 fo_)] 87), mapP zm8 (((sortP ps_).take (k_ + 1)).foldl (fun (a : List PinH) (p : PinH) => delP p.sort p.id a) ps_), own 35 3 v175 ((sortP ps_).length) ((sortP ps_).flatMap pinE)] [SlAt 6 v l.length cs3, RepL HActT cs3 l, RepS HActT v l] _ := M
    replace M := M.sel (L' := [mapP zm8 (((sortP ps_).take (k_ + 1)).foldl (fun (a : List PinH) (p : PinH) => delP p.sort p.id a) ps_), own 35 3 v175 ((sortP ps_).length) ((sortP ps_).flatMap pinE), blk zb7 (.cells #[(Value.map (some zm8)), (Value.int .u64 fo_)] 87)]) [1, 2, 0] rfl (by decide)
    exact ⟨_, (by omega), k_ + 1, ⟨(by omega), rfl⟩, ⟨rfl, rfl, rfl, rfl, rfl, rfl⟩, M⟩
   ·
    have h182p := of_decide_eq_false h182
    replace M := M.rechunk 0 (c' := mapP zm8 ([] : List PinH)) rfl (by rw [delN_end hap_ (by omega)])
    replace M : Mem _ _ _ [mapP zm8 ([] : List PinH), own 35 3 v175 ((sortP ps_).length) ((sortP ps_).flatMap pinE), blk zb7 (.cells #[(Value.map (some zm8)), (Value.int .u64 fo_)] 87)] [SlAt 6 v l.length cs3, RepL HActT cs3 l, RepS HActT v l] _ := M
    have hap0_ : apartP ([] : List PinH) := .nil
    refine W.exit ?_
    refine thn_exit ?_
    refine thn_exit ?_
    refine inBlk_hit ?_
    refine W.seq' ?_
    refine W.region rfl ?_
    refine WL.step (v := (Value.pointer (some ⟨zb7, 0, none⟩))) rfl (Step.move rfl) ?_
    refine WL.step (v := (Value.int .u64 now_)) rfl (Step.move rfl) ?_
    refine WL.callX rfl (hz_raise zb7 zm8 ([] : List PinH) fo_ now_ (M.enterW (C := [blk zb7 (.cells #[(Value.map (some zm8)), (Value.int .u64 fo_)] 87), mapP zm8 ([] : List PinH)]) (D := [own 35 3 v175 ((sortP ps_).length) ((sortP ps_).flatMap pinE)]) [2, 0, 1] rfl (by decide) trivial)) (CallsF.func Try.en27 rfl) ?_
    rintro _ w187 ⟨rfl, m⟩
    replace M := M.leaveW (C := [blk zb7 (.cells #[(Value.map (some zm8)), (Value.int .u64 fo_)] 87), mapP zm8 ([] : List PinH)]) (D := [own 35 3 v175 ((sortP ps_).length) ((sortP ps_).flatMap pinE)]) [2, 0, 1] rfl (by decide) m
    clear m
    replace M : Mem _ _ _ [blk zb7 (.cells #[(Value.map (some zm8)), (Value.int .u64 (max (fo_ : Int) (minE now_ ([] : List PinH) : Int)))] 87), mapP zm8 ([] : List PinH), own 35 3 v175 ((sortP ps_).length) ((sortP ps_).flatMap pinE)] [SlAt 6 v l.length cs3, RepL HActT cs3 l, RepS HActT v l] _ := M
    rw [(show (max (fo_ : Int) (minE now_ ([] : List PinH) : Int) : Int) = now_ by have := hFl_.floor; simp [minE]; omega)]
    refine WL.step (v := (Value.int .u64 now_)) rfl (Step.move rfl) ?_
    refine WL.step (v := (Value.bool true)) rfl (Step.cast (congrArg Value.bool (show ((now_ : Int) == (now_ : Int)) = true by simp)) (Step.pure (by kernel_rfl))) ?_
    refine WL.step (v := (Value.bool true)) rfl (Step.move rfl) ?_
    refine WL.step (v := (Value.pointer (some ⟨zb7, 0, none⟩))) rfl (Step.move rfl) ?_
    refine WL.callX rfl (hz_pins zb7 zm8 ([] : List PinH) (max (fo_ : Int) (minE now_ ([] : List PinH) : Int)) (by first | omega | (simp; done)) (by assumption) (M.enterW (C := [blk zb7 (.cells #[(Value.map (some zm8)), (Value.int .u64 (max (fo_ : Int) (minE now_ ([] : List PinH) : Int)))] 87), mapP zm8 ([] : List PinH)]) (D := [own 35 3 v175 ((sortP ps_).length) ((sortP ps_).flatMap pinE)]) [0, 1, 2] rfl (by decide) trivial)) (CallsF.func Try.en14 rfl) ?_
    rintro v188 w189 ⟨_, rfl, m⟩
    replace M := M.leaveW (C := [blk zb7 (.cells #[(Value.map (some zm8)), (Value.int .u64 (max (fo_ : Int) (minE now_ ([] : List PinH) : Int)))] 87), mapP zm8 ([] : List PinH)]) (D := [own 35 3 v175 ((sortP ps_).length) ((sortP ps_).flatMap pinE)]) [0, 1, 2] rfl (by decide) m
    replace M := M.sel (L' := [own 35 3 v188 ((sortP ([] : List PinH)).length) ((sortP ([] : List PinH)).flatMap pinE), blk zb7 (.cells #[(Value.map (some zm8)), (Value.int .u64 (max (fo_ : Int) (minE now_ ([] : List PinH) : Int)))] 87), mapP zm8 ([] : List PinH), own 35 3 v175 ((sortP ps_).length) ((sortP ps_).flatMap pinE)]) [2, 0, 1, 3] rfl (by decide)
    clear m
    replace M : Mem _ _ _ [own 35 3 v188 ((sortP ([] : List PinH)).length) ((sortP ([] : List PinH)).flatMap pinE), blk zb7 (.cells #[(Value.map (some zm8)), (Value.int .u64 (max (fo_ : Int) (minE now_ ([] : List PinH) : Int)))] 87), mapP zm8 ([] : List PinH), own 35 3 v175 ((sortP ps_).length) ((sortP ps_).flatMap pinE)] [SlAt 6 v l.length cs3, RepL HActT cs3 l, RepS HActT v l] _ := M
    have sl190 : IsSl v188 := SlAt.isSl (own_slAt (Mem.chunk M 0 rfl).inv)
    have hle191 := SlAt.le' (own_slAt (Mem.chunk M 0 rfl).inv)
    refine WL.step (v := (Value.int .i64 (↑((sortP ([] : List PinH)).length)))) rfl (Step.lenSl Try.un33 rfl (own_slAt (M.chunk 0 rfl).inv)) ?_
    refine WL.step (v := (Value.bool true)) rfl (Step.cast (congrArg Value.bool (show ((↑((sortP ([] : List PinH)).length) : Int) == (0 : Int)) = true by rw [HR.nil.sort]; rfl)) (Step.pure (by kernel_rfl))) ?_
    refine WL.step (v := (Value.bool true)) rfl (Step.pick (t := true) rfl rfl) ?_
    refine WL.step (v := (Value.bool true)) rfl (Step.move rfl) ?_
    refine WL.callX rfl (law23_works  (M.enterW0 trivial)) (CallsF.func Try.en11 rfl) ?_
    rintro _ w192 ⟨rfl, m⟩
    replace M := M.leaveW0 m
    clear m
    replace M : Mem _ _ _ [own 35 3 v188 ((sortP ([] : List PinH)).length) ((sortP ([] : List PinH)).flatMap pinE), blk zb7 (.cells #[(Value.map (some zm8)), (Value.int .u64 (max (fo_ : Int) (minE now_ ([] : List PinH) : Int)))] 87), mapP zm8 ([] : List PinH), own 35 3 v175 ((sortP ps_).length) ((sortP ps_).flatMap pinE)] [SlAt 6 v l.length cs3, RepL HActT cs3 l, RepS HActT v l] _ := M
    refine WL.step (v := (Value.bool true)) rfl (Step.pick (t := true) rfl rfl) ?_
    refine WL.step (v := (Value.bool true)) rfl (Step.assign rfl) ?_
    refine WL.nil ?_
    refine W.ret ?_
    refine ⟨.inl rfl, (Value.bool true), ?_, ?_⟩
    · exact ⟨rfl, (Res.r1 (show RV _ _ _ (.tmp 2) (Value.bool true) from by exact rfl))⟩
    refine ⟨?_, M.close [] rfl (by decide) trivial⟩
    rfl
end Go.Proofs
