/- Walks. -/
import Derived.Test.YthihknbbibgchaaTrZ8
set_option maxRecDepth 100000
set_option linter.all false
namespace Go.Proofs
open Go Tp
theorem Try.en16 : Enters Try.prog 16 := fun _ _ => by kernel_rfl
theorem Try.en24 : Enters Try.prog 24 := fun _ _ => by kernel_rfl
theorem Try.en25 : Enters Try.prog 25 := fun _ _ => by kernel_rfl
theorem Try.en43 : Enters Try.prog 43 := fun _ _ => by kernel_rfl
theorem Try.en45 : Enters Try.prog 45 := fun _ _ => by kernel_rfl
theorem Try.en46 : Enters Try.prog 46 := fun _ _ => by kernel_rfl
theorem Try.en47 : Enters Try.prog 47 := fun _ _ => by kernel_rfl

theorem kit_pick {G : Nat → Prop} {w : World} (i : Int) (n : Int)  (hn : n ≤ 1000000000) (M : Mem G (fun _ => False) w [] [] w) : Rets Try.prog 24 #[(Value.int .i64 i), (Value.int .i64 n)] w fun r w' => r = (Value.int .i64 (pickI i n)) ∧ Mem G (fun _ => False) w [] [] w' := by
  refine Rets.enter 14 _ Try.func24 rfl Try.ntmps24 Try.results24 (by simp) ?_
  refine W.seq' ?_
  refine W.region rfl ?_
  refine WL.step (v := (Value.int .i64 0)) rfl (Step.assign rfl) ?_
  refine WL.nil ?_
  refine W.seq' ?_
  refine W.seq' ?_
  refine W.region rfl ?_
  refine WL.step (v := (Value.int .i64 n)) rfl (Step.move rfl) ?_
  refine WL.step (v := (Value.bool (decide ((n : Int) ≤ (0 : Int))))) rfl (Step.pure (by kernel_rfl)) ?_
  refine WL.nil ?_
  refine W.cond (t := decide ((n : Int) ≤ (0 : Int))) rfl (fun h1 => ?_) (fun h1 => ?_)
  ·
    have h1p := of_decide_eq_true h1
    refine W.seq' ?_
    refine W.region rfl ?_
    refine WL.step (v := (Value.int .i64 0)) rfl (Step.assign rfl) ?_
    refine WL.nil ?_
    refine W.ret ?_
    refine ⟨.inl rfl, (Value.int .i64 0), ?_, ?_⟩
    · exact ⟨rfl, (Res.r1 (show RV _ _ _ (.tmp 4) (Value.int .i64 0) from by exact rfl))⟩
    refine ⟨?_, M.close [] rfl (by decide) trivial⟩
    refine congrArg (Value.int .i64) ?_
    unfold pickI
    first | rw [if_pos (by omega)] | rw [if_neg (by omega)]
  ·
    have h1p := of_decide_eq_false h1
    have htb := fun h0 => tmod_bounds (a := i) (b := n) h0
    refine W.skip ?_
    refine W.seq' ?_
    refine W.region rfl ?_
    refine WL.step (v := (Value.int .i64 i)) rfl (Step.move rfl) ?_
    refine WL.step (v := (Value.int .i64 n)) rfl (Step.move rfl) ?_
    refine WL.step (v := (Value.int .i64 (i.tmod n))) rfl (Step.rem rfl rfl (by omega)) ?_
    refine WL.step (v := (Value.int .i64 n)) rfl (Step.move rfl) ?_
    refine WL.step (v := (Value.int .i64 (i.tmod n + n))) rfl (Step.add rfl rfl (wrap_i64 (by omega))) ?_
    refine WL.step (v := (Value.int .i64 n)) rfl (Step.move rfl) ?_
    refine WL.step (v := (Value.int .i64 ((i.tmod n + n).tmod n))) rfl (Step.rem rfl rfl (by omega)) ?_
    refine WL.step (v := (Value.int .i64 ((i.tmod n + n).tmod n))) rfl (Step.assign rfl) ?_
    refine WL.nil ?_
    refine W.ret ?_
    refine ⟨.inl rfl, (Value.int .i64 ((i.tmod n + n).tmod n)), ?_, ?_⟩
    · exact ⟨rfl, (Res.r1 (show RV _ _ _ (.tmp 4) (Value.int .i64 ((i.tmod n + n).tmod n)) from by exact rfl))⟩
    refine ⟨?_, M.close [] rfl (by decide) trivial⟩
    refine congrArg (Value.int .i64) ?_
    unfold pickI
    first | rw [if_pos (by omega)] | rw [if_neg (by omega)]

theorem law23_does {G X : Nat → Prop} {w : World} (zb : Nat) (zm : Nat) (ps : List PinH) (fo : Int) (rv : Value) (rs : List PinH) (ad : Int) (lv : Value) (al : List PinH) (ap : PinH) (an : Int)  (hR : HR ps rs) (hbd : rs.length + al.length ≤ 900000) (M : Mem G X w [blk zb (.cells #[(Value.map (some zm)), (Value.int .u64 fo)] 87), mapP zm ps] [SlAt 3 rv rs.length (rs.flatMap pinE), SlAt 3 lv al.length (al.flatMap pinE)] w) : Rets Try.prog 13 #[(Value.pointer (some ⟨zb, 0, none⟩)), (Value.agg #[rv, (Value.int .u64 fo)]), (Value.agg #[(Value.int .i64 ad), lv, (Value.int .u8 ap.sort), (Value.int .u64 ap.id), (Value.int .u64 ap.epoch), (Value.int .u64 an)])] w fun r w' => ∃ (rv' : Value), r = (Value.tuple #[(Value.agg #[rv', (Value.int .u64 (doFl rs fo (⟨ad, al, ap, an⟩ : HAct)))]), (Value.bool true)]) ∧ Mem G X w [blk zb (.cells #[(Value.map (some zm)), (Value.int .u64 (doFl rs fo (⟨ad, al, ap, an⟩ : HAct)))] 87), mapP zm (doPs ps fo (⟨ad, al, ap, an⟩ : HAct))] [SlAt 3 rv' (doRs rs fo (⟨ad, al, ap, an⟩ : HAct)).length ((doRs rs fo (⟨ad, al, ap, an⟩ : HAct)).flatMap pinE)] w' := by
  refine Rets.enter 89 _ Try.func13 rfl Try.ntmps13 Try.results13 (by simp) ?_
  have hle1 := SlAt.le' (M.rep 0 rfl)
  have hle2 := SlAt.le' (M.rep 1 rfl)
  have sl3 : IsSl rv := SlAt.isSl (Mem.rep M 0 rfl)
  have sl4 : IsSl lv := SlAt.isSl (Mem.rep M 1 rfl)
  refine W.seq' ?_
  refine W.region rfl ?_
  refine WL.box (v := (Value.agg #[rv, (Value.int .u64 fo)])) (c := #[rv, (Value.int .u64 fo)]) M rfl rfl rfl (fun b5 w6 hb5 M => ?_)
  refine WL.box (v := (Value.agg #[(Value.int .i64 ad), lv, (Value.int .u8 ap.sort), (Value.int .u64 ap.id), (Value.int .u64 ap.epoch), (Value.int .u64 an)])) (c := #[(Value.int .i64 ad), lv, (Value.int .u8 ap.sort), (Value.int .u64 ap.id), (Value.int .u64 ap.epoch), (Value.int .u64 an)]) M rfl rfl rfl (fun b7 w8 hb7 M => ?_)
  refine WL.alloc (c := #[(Value.slice none 0 0), (Value.int .u64 0)]) M rfl Try.el30.zero rfl (fun b9 w10 hb9 M => ?_)
  refine WL.step (v := (Value.bool false)) rfl (Step.assign rfl) ?_
  refine WL.nil ?_
  refine W.seq' ?_
  refine W.seq' ?_
  refine W.region rfl ?_
  refine WL.step (v := (Value.pointer (some ⟨b7, 0, none⟩))) rfl (Step.pure (by kernel_rfl)) ?_
  refine WL.step (v := (Value.int .i64 ad)) rfl (Step.load1 Try.sc3 rfl ((M.cell 1 rfl 0).trans rfl)) ?_
  refine WL.callX rfl (kit_pick ad 6 (by omega) (M.enterW0 trivial)) (CallsF.func Try.en24 rfl) ?_
  rintro _ w11 ⟨rfl, m⟩
  replace M := M.leaveW0 m
  clear m
  replace M : Mem _ _ _ [blk b9 (.cells #[(Value.slice none 0 0), (Value.int .u64 0)] 30), blk b7 (.cells #[(Value.int .i64 ad), lv, (Value.int .u8 ap.sort), (Value.int .u64 ap.id), (Value.int .u64 ap.epoch), (Value.int .u64 an)] 37), blk b5 (.cells #[rv, (Value.int .u64 fo)] 30), blk zb (.cells #[(Value.map (some zm)), (Value.int .u64 fo)] 87), mapP zm ps] [SlAt 3 rv rs.length (rs.flatMap pinE), SlAt 3 lv al.length (al.flatMap pinE)] _ := M
  refine WL.nil ?_
  refine W.block ?_
  refine W.seq' ?_
  refine W.region rfl ?_
  refine WL.step (v := (Value.bool ((pickI ad 6 : Int) == (2 : Int)))) rfl (Step.pure (by kernel_rfl)) ?_
  refine WL.step (v := (Value.bool ((pickI ad 6 : Int) == (2 : Int)))) rfl (Step.assign rfl) ?_
  refine WL.nil ?_
  refine W.cond (t := (pickI ad 6 : Int) == (2 : Int)) rfl (fun h12 => ?_) (fun h12 => ?_)
  ·
    have h12p : (pickI ad 6 : Int) = (2 : Int) := by simpa using h12
    refine W.seq' ?_
    refine W.drawn M [0, 1, 2, 3, 4, 5, 6, 7, 8, 9, 10] [3, 4, 9] [8] [blk b9 (.cells #[(Value.slice none 0 0), (Value.int .u64 0)] 30), blk b7 (.cells #[(Value.int .i64 ad), lv, (Value.int .u8 ap.sort), (Value.int .u64 ap.id), (Value.int .u64 ap.epoch), (Value.int .u64 an)] 37), blk b5 (.cells #[rv, (Value.int .u64 fo)] 30), blk zb (.cells #[(Value.map (some zm)), (Value.int .u64 fo)] 87), mapP zm ps] [SlAt 3 rv rs.length (rs.flatMap pinE), SlAt 3 lv al.length (al.flatMap pinE)] (List.Sublist.cons_cons _ (List.Sublist.cons_cons _ (List.Sublist.cons_cons _ (List.Sublist.cons_cons _ (List.Sublist.cons_cons _ List.Sublist.slnil))))) (fun _ h => h) Try.mixed (by kernel_rfl) ?_
    refine TW.read (v := (Value.agg #[rv, (Value.int .u64 fo)])) rfl (by decide) (by decide) rfl (fun A w M => (Step.loadN Try.ag30 rfl (M.blk 3 rfl) (Nat.le_of_ble_eq_true rfl) rfl)) ?_
    refine TW.pure (v := (Value.pointer (some ⟨b7, 2, none⟩))) rfl (by decide) (by decide) rfl (fun w => (Step.pure (by kernel_rfl))) ?_
    refine TW.read (v := (Value.agg #[(Value.int .u8 ap.sort), (Value.int .u64 ap.id), (Value.int .u64 ap.epoch)])) rfl (by decide) (by decide) rfl (fun A w M => (Step.loadN Try.ag35 rfl (M.blk 2 rfl) (Nat.le_of_ble_eq_true rfl) rfl)) ?_
    refine TW.callX (ι := Unit) (fun jx v_ => v_ = (Value.agg #[(Value.int .u8 ap.sort), (Value.int .u64 ap.id), (Value.int .u64 ap.epoch)])) (fun jx => [blk b9 (.cells #[(Value.slice none 0 0), (Value.int .u64 0)] 30), blk b7 (.cells #[(Value.int .i64 ad), lv, (Value.int .u8 ap.sort), (Value.int .u64 ap.id), (Value.int .u64 ap.epoch), (Value.int .u64 an)] 37), blk b5 (.cells #[rv, (Value.int .u64 fo)] 30), blk zb (.cells #[(Value.map (some zm)), (Value.int .u64 fo)] 87), mapP zm ps]) (fun jx => [SlAt 3 rv rs.length (rs.flatMap pinE), SlAt 3 lv al.length (al.flatMap pinE)]) rfl (by decide) rfl (fun jx => (List.Sublist.cons_cons _ (List.Sublist.cons_cons _ (List.Sublist.cons_cons _ (List.Sublist.cons_cons _ (List.Sublist.cons_cons _ List.Sublist.slnil)))))) (fun jx r h => h) (fun A w M => Rets.mono (law23_pin ap (M.enterW0 trivial)) (fun v_ w_ ⟨e_, m⟩ => ⟨(), e_, (M.leaveW0 m).sel (L' := [fl A, blk b9 (.cells #[(Value.slice none 0 0), (Value.int .u64 0)] 30), blk b7 (.cells #[(Value.int .i64 ad), lv, (Value.int .u8 ap.sort), (Value.int .u64 ap.id), (Value.int .u64 ap.epoch), (Value.int .u64 an)] 37), blk b5 (.cells #[rv, (Value.int .u64 fo)] 30), blk zb (.cells #[(Value.map (some zm)), (Value.int .u64 fo)] 87), mapP zm ps]) [0, 1, 2, 3, 4, 5] rfl (by decide), fun b hb => M.keptW0 m (fl A) (List.mem_cons_self ..) b hb⟩)) (fun w => CallsF.func Try.en44 rfl) (fun jx v hp hin => ?_)
    replace hp := hp.symm; subst hp
    clear hin
    change TW _ _ _ _ _ _ _ _ (MemA _ _ _ [blk b9 (.cells #[(Value.slice none 0 0), (Value.int .u64 0)] 30), blk b7 (.cells #[(Value.int .i64 ad), lv, (Value.int .u8 ap.sort), (Value.int .u64 ap.id), (Value.int .u64 ap.epoch), (Value.int .u64 an)] 37), blk b5 (.cells #[rv, (Value.int .u64 fo)] 30), blk zb (.cells #[(Value.map (some zm)), (Value.int .u64 fo)] 87), mapP zm ps] [SlAt 3 rv rs.length (rs.flatMap pinE), SlAt 3 lv al.length (al.flatMap pinE)])
    refine TW.callX (ι := Value) (fun jx v_ => v_ = (Value.tuple #[(Value.agg #[jx, (Value.int .u64 fo)]), (Value.int .i64 (mvC rs ap))])) (fun jx => [blk b9 (.cells #[(Value.slice none 0 0), (Value.int .u64 0)] 30), blk b7 (.cells #[(Value.int .i64 ad), lv, (Value.int .u8 ap.sort), (Value.int .u64 ap.id), (Value.int .u64 ap.epoch), (Value.int .u64 an)] 37), blk b5 (.cells #[rv, (Value.int .u64 fo)] 30), blk zb (.cells #[(Value.map (some zm)), (Value.int .u64 fo)] 87), mapP zm ps]) (fun jx => [SlAt 3 jx (mvR rs ap).length ((mvR rs ap).flatMap pinE), SlAt 3 rv rs.length (rs.flatMap pinE), SlAt 3 lv al.length (al.flatMap pinE)]) rfl (by decide) rfl (fun jx => (List.Sublist.cons_cons _ (List.Sublist.cons_cons _ (List.Sublist.cons_cons _ (List.Sublist.cons_cons _ (List.Sublist.cons_cons _ List.Sublist.slnil)))))) (fun jx r h => (List.mem_cons_of_mem _ h)) (fun A w M => Rets.mono (ref23_move rv rs fo ap (by omega) (M.enter0 ⟨(M.shr' 0 rfl), trivial⟩)) (fun v_ w_ ⟨rv21, e_, m⟩ => ⟨rv21, e_, (M.leave0 m).sel (L' := [fl A, blk b9 (.cells #[(Value.slice none 0 0), (Value.int .u64 0)] 30), blk b7 (.cells #[(Value.int .i64 ad), lv, (Value.int .u8 ap.sort), (Value.int .u64 ap.id), (Value.int .u64 ap.epoch), (Value.int .u64 an)] 37), blk b5 (.cells #[rv, (Value.int .u64 fo)] 30), blk zb (.cells #[(Value.map (some zm)), (Value.int .u64 fo)] 87), mapP zm ps]) [0, 1, 2, 3, 4, 5] rfl (by decide), fun b hb => M.kept0 m (fl A) (List.mem_cons_self ..) b hb⟩)) (fun w => CallsF.func Try.en43 rfl) (fun rv21 v hp hin => ?_)
    replace hp := hp.symm; subst hp
    obtain ⟨_, _, hin⟩ := hin
    have sl22 : IsSl rv21 := SlAt.isSl (Mem.rep hin 0 rfl)
    clear hin
    change TW _ _ _ _ _ _ _ _ (MemA _ _ _ [blk b9 (.cells #[(Value.slice none 0 0), (Value.int .u64 0)] 30), blk b7 (.cells #[(Value.int .i64 ad), lv, (Value.int .u8 ap.sort), (Value.int .u64 ap.id), (Value.int .u64 ap.epoch), (Value.int .u64 an)] 37), blk b5 (.cells #[rv, (Value.int .u64 fo)] 30), blk zb (.cells #[(Value.map (some zm)), (Value.int .u64 fo)] 87), mapP zm ps] [SlAt 3 rv21 (mvR rs ap).length ((mvR rs ap).flatMap pinE), SlAt 3 rv rs.length (rs.flatMap pinE), SlAt 3 lv al.length (al.flatMap pinE)])
    refine TW.pure (v := (Value.tuple #[(Value.agg #[rv21, (Value.int .u64 fo)]), (Value.int .i64 (mvC rs ap))])) rfl (by decide) (by decide) rfl (fun w => (Step.move rfl)) ?_
    refine TW.pure (v := (Value.agg #[rv21, (Value.int .u64 fo)])) rfl (by decide) (by decide) rfl (fun w => (Step.pure (by kernel_rfl))) ?_
    refine TW.pure (v := (Value.int .i64 (mvC rs ap))) rfl (by decide) (by decide) rfl (fun w => (Step.pure (by kernel_rfl))) ?_
    refine TW.new (obj := .cells #[(Value.slice none 0 0), (Value.int .u64 0)] 30) (fun b => .pointer (some ⟨b, 0, none⟩)) rfl (by decide) (by decide) rfl (fun w => Step.alloc Try.el30.zero) (fun b23 => ?_)
    refine TW.store (v := (Value.agg #[rv21, (Value.int .u64 fo)])) (cs := [rv21, (Value.int .u64 fo)]) (c' := #[rv21, (Value.int .u64 fo)]) 0 rfl rfl (by decide) rfl Try.el30.sized rfl rfl rfl rfl (Nat.le_of_ble_eq_true rfl) (cel_cons (IsSl.cel sl22) (cel_cons rfl cel_nil)) rfl rfl (List.Sublist.cons _ (List.Sublist.cons_cons _ (List.Sublist.cons_cons _ (List.Sublist.cons_cons _ (List.Sublist.cons_cons _ (List.Sublist.cons_cons _ List.Sublist.slnil)))))) (fun r h => (List.mem_cons_of_mem _ h)) ?_
    refine TW.pure (v := (Value.int .i64 (mvC rs ap))) rfl (by decide) (by decide) rfl (fun w => (Step.assign rfl)) ?_
    refine TW.done (fun w24 M => ?_)
    refine W.seq' ?_
    refine W.drawn M [0, 1, 2, 3, 4, 5, 6, 7, 8] [4, 7] [] [blk b23 (.cells #[rv21, (Value.int .u64 fo)] 30), blk b7 (.cells #[(Value.int .i64 ad), lv, (Value.int .u8 ap.sort), (Value.int .u64 ap.id), (Value.int .u64 ap.epoch), (Value.int .u64 an)] 37), blk b5 (.cells #[rv, (Value.int .u64 fo)] 30)] [SlAt 3 rv21 (mvR rs ap).length ((mvR rs ap).flatMap pinE), SlAt 3 rv rs.length (rs.flatMap pinE), SlAt 3 lv al.length (al.flatMap pinE)] (List.Sublist.cons_cons _ (List.Sublist.cons _ (List.Sublist.cons_cons _ (List.Sublist.cons_cons _ (List.Sublist.cons _ (List.Sublist.cons _ List.Sublist.slnil)))))) (fun _ h => h) Try.mixed (by kernel_rfl) ?_
    refine TW.read (v := (Value.agg #[rv21, (Value.int .u64 fo)])) rfl (by decide) (by decide) rfl (fun A w M => (Step.loadN Try.ag30 rfl (M.blk 1 rfl) (Nat.le_of_ble_eq_true rfl) rfl)) ?_
    refine TW.pure (v := (Value.pointer (some ⟨zb, 0, none⟩))) rfl (by decide) (by decide) rfl (fun w => (Step.move rfl)) ?_
    refine TW.pure (v := (Value.pointer (some ⟨b7, 2, none⟩))) rfl (by decide) (by decide) rfl (fun w => (Step.pure (by kernel_rfl))) ?_
    refine TW.read (v := (Value.agg #[(Value.int .u8 ap.sort), (Value.int .u64 ap.id), (Value.int .u64 ap.epoch)])) rfl (by decide) (by decide) rfl (fun A w M => (Step.loadN Try.ag35 rfl (M.blk 2 rfl) (Nat.le_of_ble_eq_true rfl) rfl)) ?_
    refine TW.callX (ι := Unit) (fun jx v_ => v_ = (Value.int .i64 (mvC ps ap))) (fun jx => [blk zb (.cells #[(Value.map (some zm)), (Value.int .u64 fo)] 87), mapP zm (mvS ps ap), blk b23 (.cells #[rv21, (Value.int .u64 fo)] 30), blk b9 (.cells #[(Value.slice none 0 0), (Value.int .u64 0)] 30), blk b7 (.cells #[(Value.int .i64 ad), lv, (Value.int .u8 ap.sort), (Value.int .u64 ap.id), (Value.int .u64 ap.epoch), (Value.int .u64 an)] 37), blk b5 (.cells #[rv, (Value.int .u64 fo)] 30)]) (fun jx => [SlAt 3 rv21 (mvR rs ap).length ((mvR rs ap).flatMap pinE), SlAt 3 rv rs.length (rs.flatMap pinE), SlAt 3 lv al.length (al.flatMap pinE)]) rfl (by decide) rfl (fun jx => (List.Sublist.cons _ (List.Sublist.cons _ (List.Sublist.cons_cons _ (List.Sublist.cons _ (List.Sublist.cons_cons _ (List.Sublist.cons_cons _ List.Sublist.slnil))))))) (fun jx r h => h) (fun A w M => Rets.mono (hz_move zb zm ps fo ap (M.enterW (C := [blk zb (.cells #[(Value.map (some zm)), (Value.int .u64 fo)] 87), mapP zm ps]) (D := [fl A, blk b23 (.cells #[rv21, (Value.int .u64 fo)] 30), blk b9 (.cells #[(Value.slice none 0 0), (Value.int .u64 0)] 30), blk b7 (.cells #[(Value.int .i64 ad), lv, (Value.int .u8 ap.sort), (Value.int .u64 ap.id), (Value.int .u64 ap.epoch), (Value.int .u64 an)] 37), blk b5 (.cells #[rv, (Value.int .u64 fo)] 30)]) [5, 6, 0, 1, 2, 3, 4] rfl (by decide) trivial)) (fun v_ w_ ⟨e_, m⟩ => ⟨(), e_, (M.leaveW (C := [blk zb (.cells #[(Value.map (some zm)), (Value.int .u64 fo)] 87), mapP zm ps]) (D := [fl A, blk b23 (.cells #[rv21, (Value.int .u64 fo)] 30), blk b9 (.cells #[(Value.slice none 0 0), (Value.int .u64 0)] 30), blk b7 (.cells #[(Value.int .i64 ad), lv, (Value.int .u8 ap.sort), (Value.int .u64 ap.id), (Value.int .u64 ap.epoch), (Value.int .u64 an)] 37), blk b5 (.cells #[rv, (Value.int .u64 fo)] 30)]) [5, 6, 0, 1, 2, 3, 4] rfl (by decide) m).sel (L' := [fl A, blk zb (.cells #[(Value.map (some zm)), (Value.int .u64 fo)] 87), mapP zm (mvS ps ap), blk b23 (.cells #[rv21, (Value.int .u64 fo)] 30), blk b9 (.cells #[(Value.slice none 0 0), (Value.int .u64 0)] 30), blk b7 (.cells #[(Value.int .i64 ad), lv, (Value.int .u8 ap.sort), (Value.int .u64 ap.id), (Value.int .u64 ap.epoch), (Value.int .u64 an)] 37), blk b5 (.cells #[rv, (Value.int .u64 fo)] 30)]) [2, 0, 1, 3, 4, 5, 6] rfl (by decide), fun b hb => M.keptW (C := [blk zb (.cells #[(Value.map (some zm)), (Value.int .u64 fo)] 87), mapP zm ps]) (D := [fl A, blk b23 (.cells #[rv21, (Value.int .u64 fo)] 30), blk b9 (.cells #[(Value.slice none 0 0), (Value.int .u64 0)] 30), blk b7 (.cells #[(Value.int .i64 ad), lv, (Value.int .u8 ap.sort), (Value.int .u64 ap.id), (Value.int .u64 ap.epoch), (Value.int .u64 an)] 37), blk b5 (.cells #[rv, (Value.int .u64 fo)] 30)]) [5, 6, 0, 1, 2, 3, 4] rfl (by decide) m (fl A) (List.mem_cons_self ..) b hb⟩)) (fun w => CallsF.func Try.en25 rfl) (fun jx v hp hin => ?_)
    replace hp := hp.symm; subst hp
    obtain ⟨_, _, hin⟩ := hin
    clear hin
    change TW _ _ _ _ _ _ _ _ (MemA _ _ _ [blk zb (.cells #[(Value.map (some zm)), (Value.int .u64 fo)] 87), mapP zm (mvS ps ap), blk b23 (.cells #[rv21, (Value.int .u64 fo)] 30), blk b9 (.cells #[(Value.slice none 0 0), (Value.int .u64 0)] 30), blk b7 (.cells #[(Value.int .i64 ad), lv, (Value.int .u8 ap.sort), (Value.int .u64 ap.id), (Value.int .u64 ap.epoch), (Value.int .u64 an)] 37), blk b5 (.cells #[rv, (Value.int .u64 fo)] 30)] [SlAt 3 rv21 (mvR rs ap).length ((mvR rs ap).flatMap pinE), SlAt 3 rv rs.length (rs.flatMap pinE), SlAt 3 lv al.length (al.flatMap pinE)])
    refine TW.pure (v := (Value.int .i64 (mvC rs ap))) rfl (by decide) (by decide) rfl (fun w => (Step.move rfl)) ?_
    refine TW.pure (v := (Value.bool true)) rfl (by decide) (by decide) rfl (fun w => (Step.cast (congrArg Value.bool (show ((mvC ps ap : Int) == (mvC rs ap : Int)) = true by rw [mvC_perm hR]; simp)) (Step.pure (by kernel_rfl)))) ?_
    refine TW.store (v := (Value.agg #[rv21, (Value.int .u64 fo)])) (cs := [rv21, (Value.int .u64 fo)]) (c' := #[rv21, (Value.int .u64 fo)]) 3 rfl rfl (by decide) rfl Try.el30.sized rfl rfl rfl rfl (Nat.le_of_ble_eq_true rfl) (cel_cons (IsSl.cel sl22) (cel_cons rfl cel_nil)) rfl rfl (List.Sublist.cons _ (List.Sublist.cons _ (List.Sublist.cons_cons _ (List.Sublist.cons _ (List.Sublist.cons_cons _ (List.Sublist.cons_cons _ List.Sublist.slnil)))))) (fun r h => h) ?_
    refine TW.pure (v := (Value.bool true)) rfl (by decide) (by decide) rfl (fun w => (Step.assign rfl)) ?_
    refine TW.done (fun w27 M => ?_)
    refine W.ret ?_
    refine ⟨.inl rfl, (Value.tuple #[(Value.agg #[rv21, (Value.int .u64 fo)]), (Value.bool true)]), ?_, ?_⟩
    · exact ⟨rfl, (Res.r2 (RV.cellN Try.ag30 rfl (M.blk 3 rfl) rfl) (show RV _ _ _ (.tmp 7) (Value.bool true) from by exact rfl))⟩
    replace M := M.rechunk 1 (c' := mapP zm (doPs ps fo (⟨ad, al, ap, an⟩ : HAct))) rfl (by simp [doPs, h12p])
    replace M : Mem _ _ _ [blk zb (.cells #[(Value.map (some zm)), (Value.int .u64 fo)] 87), mapP zm (doPs ps fo (⟨ad, al, ap, an⟩ : HAct)), blk b23 (.cells #[rv21, (Value.int .u64 fo)] 30), blk b9 (.cells #[rv21, (Value.int .u64 fo)] 30), blk b7 (.cells #[(Value.int .i64 ad), lv, (Value.int .u8 ap.sort), (Value.int .u64 ap.id), (Value.int .u64 ap.epoch), (Value.int .u64 an)] 37), blk b5 (.cells #[rv, (Value.int .u64 fo)] 30)] [SlAt 3 rv21 (mvR rs ap).length ((mvR rs ap).flatMap pinE), SlAt 3 rv rs.length (rs.flatMap pinE), SlAt 3 lv al.length (al.flatMap pinE)] _ := M
    replace M := M.rechunk 0 (c' := blk zb (.cells #[(Value.map (some zm)), (Value.int .u64 (doFl rs fo (⟨ad, al, ap, an⟩ : HAct)))] 87)) rfl (by simp [doFl, h12p])
    replace M : Mem _ _ _ [blk zb (.cells #[(Value.map (some zm)), (Value.int .u64 (doFl rs fo (⟨ad, al, ap, an⟩ : HAct)))] 87), mapP zm (doPs ps fo (⟨ad, al, ap, an⟩ : HAct)), blk b23 (.cells #[rv21, (Value.int .u64 fo)] 30), blk b9 (.cells #[rv21, (Value.int .u64 fo)] 30), blk b7 (.cells #[(Value.int .i64 ad), lv, (Value.int .u8 ap.sort), (Value.int .u64 ap.id), (Value.int .u64 ap.epoch), (Value.int .u64 an)] 37), blk b5 (.cells #[rv, (Value.int .u64 fo)] 30)] [SlAt 3 rv21 (mvR rs ap).length ((mvR rs ap).flatMap pinE), SlAt 3 rv rs.length (rs.flatMap pinE), SlAt 3 lv al.length (al.flatMap pinE)] _ := M
    have e28 : doRs rs fo (⟨ad, al, ap, an⟩ : HAct) = mvR rs ap := by
      simp [doRs, doFl, h12p]
    have hf29 := Sh.reList e28 (M.shr' 0 rfl)
    refine ⟨rv21, ?_, M.close [0, 1] rfl (by decide) ⟨hf29, trivial⟩⟩
    simp [doRs, doFl, h12p]
  ·
    have h12p : ¬ (pickI ad 6 : Int) = (2 : Int) := by simpa using h12
    refine W.seq' ?_
    refine W.region rfl ?_
    refine WL.step (v := (Value.bool ((pickI ad 6 : Int) == (3 : Int)))) rfl (Step.pure (by kernel_rfl)) ?_
    refine WL.step (v := (Value.bool ((pickI ad 6 : Int) == (3 : Int)))) rfl (Step.assign rfl) ?_
    refine WL.nil ?_
    refine W.cond (t := (pickI ad 6 : Int) == (3 : Int)) rfl (fun h30 => ?_) (fun h30 => ?_)
    ·
      have h30p : (pickI ad 6 : Int) = (3 : Int) := by simpa using h30
      refine W.seq' ?_
      refine W.region rfl ?_
      refine WL.step (v := (Value.agg #[rv, (Value.int .u64 fo)])) rfl (Step.loadN Try.ag30 rfl (M.blk 2 rfl) (Nat.le_of_ble_eq_true rfl) rfl) ?_
      refine WL.step (v := (Value.pointer (some ⟨b7, 2, none⟩))) rfl (Step.pure (by kernel_rfl)) ?_
      refine WL.step (v := (Value.pointer (some ⟨b7, 2, none⟩))) rfl (Step.pure (by kernel_rfl)) ?_
      refine WL.step (v := (Value.int .u8 ap.sort)) rfl (Step.load1 Try.sc5 rfl ((M.cell 1 rfl 2).trans rfl)) ?_
      refine WL.step (v := (Value.pointer (some ⟨b7, 2, none⟩))) rfl (Step.pure (by kernel_rfl)) ?_
      refine WL.step (v := (Value.pointer (some ⟨b7, 3, none⟩))) rfl (Step.pure (by kernel_rfl)) ?_
      refine WL.step (v := (Value.int .u64 ap.id)) rfl (Step.load1 Try.sc23 rfl ((M.cell 1 rfl 3).trans rfl)) ?_
      refine WL.callX rfl (ref23_drop rv rs fo ap.sort ap.id (by omega) (M.enter0 ⟨(M.shr' 0 rfl), trivial⟩)) (CallsF.func Try.en45 rfl) ?_
      rintro _ w32 ⟨rv31, rfl, m⟩
      replace M := M.leave0 m
      clear m
      replace M : Mem _ _ _ [blk b9 (.cells #[(Value.slice none 0 0), (Value.int .u64 0)] 30), blk b7 (.cells #[(Value.int .i64 ad), lv, (Value.int .u8 ap.sort), (Value.int .u64 ap.id), (Value.int .u64 ap.epoch), (Value.int .u64 an)] 37), blk b5 (.cells #[rv, (Value.int .u64 fo)] 30), blk zb (.cells #[(Value.map (some zm)), (Value.int .u64 fo)] 87), mapP zm ps] [SlAt 3 rv31 (drR rs ap.sort ap.id).length ((drR rs ap.sort ap.id).flatMap pinE), SlAt 3 rv rs.length (rs.flatMap pinE), SlAt 3 lv al.length (al.flatMap pinE)] _ := M
      have sl33 : IsSl rv31 := SlAt.isSl (Mem.rep M 0 rfl)
      have hle34 := SlAt.le' (M.rep 0 rfl)
      refine WL.step (v := (Value.tuple #[(Value.agg #[rv31, (Value.int .u64 fo)]), (Value.bool (heldB ap.sort ap.id rs))])) rfl (Step.move rfl) ?_
      refine WL.step (v := (Value.agg #[rv31, (Value.int .u64 fo)])) rfl (Step.pure (by kernel_rfl)) ?_
      refine WL.step (v := (Value.bool (heldB ap.sort ap.id rs))) rfl (Step.pure (by kernel_rfl)) ?_
      refine WL.alloc (c := #[(Value.slice none 0 0), (Value.int .u64 0)]) M rfl Try.el30.zero rfl (fun b35 w36 hb35 M => ?_)
      refine WL.store (v := (Value.agg #[rv31, (Value.int .u64 fo)])) (cs := [rv31, (Value.int .u64 fo)]) (c' := #[rv31, (Value.int .u64 fo)]) M 0 rfl rfl Try.el30.sized rfl rfl rfl rfl (Nat.le_of_ble_eq_true rfl) (cel_cons (IsSl.cel sl33) (cel_cons rfl cel_nil)) rfl rfl (fun w37 M => ?_)
      refine WL.step (v := (Value.bool (heldB ap.sort ap.id rs))) rfl (Step.assign rfl) ?_
      refine WL.nil ?_
      refine W.seq' ?_
      refine W.drawn M [0, 1, 2, 3, 4, 5, 6, 7, 8, 9, 10, 11, 12] [8, 11] [] [blk b35 (.cells #[rv31, (Value.int .u64 fo)] 30), blk b7 (.cells #[(Value.int .i64 ad), lv, (Value.int .u8 ap.sort), (Value.int .u64 ap.id), (Value.int .u64 ap.epoch), (Value.int .u64 an)] 37), blk b5 (.cells #[rv, (Value.int .u64 fo)] 30)] [SlAt 3 rv31 (drR rs ap.sort ap.id).length ((drR rs ap.sort ap.id).flatMap pinE), SlAt 3 rv rs.length (rs.flatMap pinE), SlAt 3 lv al.length (al.flatMap pinE)] (List.Sublist.cons_cons _ (List.Sublist.cons _ (List.Sublist.cons_cons _ (List.Sublist.cons_cons _ (List.Sublist.cons _ (List.Sublist.cons _ List.Sublist.slnil)))))) (fun _ h => h) Try.mixed (by kernel_rfl) ?_
      refine TW.read (v := (Value.agg #[rv31, (Value.int .u64 fo)])) rfl (by decide) (by decide) rfl (fun A w M => (Step.loadN Try.ag30 rfl (M.blk 1 rfl) (Nat.le_of_ble_eq_true rfl) rfl)) ?_
      refine TW.pure (v := (Value.pointer (some ⟨zb, 0, none⟩))) rfl (by decide) (by decide) rfl (fun w => (Step.move rfl)) ?_
      refine TW.pure (v := (Value.pointer (some ⟨b7, 2, none⟩))) rfl (by decide) (by decide) rfl (fun w => (Step.pure (by kernel_rfl))) ?_
      refine TW.pure (v := (Value.pointer (some ⟨b7, 2, none⟩))) rfl (by decide) (by decide) rfl (fun w => (Step.pure (by kernel_rfl))) ?_
      refine TW.read (v := (Value.int .u8 ap.sort)) rfl (by decide) (by decide) rfl (fun A w M => (Step.load1 Try.sc5 rfl ((M.cell 2 rfl 2).trans rfl))) ?_
      refine TW.pure (v := (Value.pointer (some ⟨b7, 2, none⟩))) rfl (by decide) (by decide) rfl (fun w => (Step.pure (by kernel_rfl))) ?_
      refine TW.pure (v := (Value.pointer (some ⟨b7, 3, none⟩))) rfl (by decide) (by decide) rfl (fun w => (Step.pure (by kernel_rfl))) ?_
      refine TW.read (v := (Value.int .u64 ap.id)) rfl (by decide) (by decide) rfl (fun A w M => (Step.load1 Try.sc23 rfl ((M.cell 2 rfl 3).trans rfl))) ?_
      refine TW.callX (ι := Unit) (fun jx v_ => v_ = (Value.bool ((heldV ap.sort ap.id ps).2))) (fun jx => [blk zb (.cells #[(Value.map (some zm)), (Value.int .u64 fo)] 87), mapP zm (delP ap.sort ap.id ps), blk b35 (.cells #[rv31, (Value.int .u64 fo)] 30), blk b9 (.cells #[(Value.slice none 0 0), (Value.int .u64 0)] 30), blk b7 (.cells #[(Value.int .i64 ad), lv, (Value.int .u8 ap.sort), (Value.int .u64 ap.id), (Value.int .u64 ap.epoch), (Value.int .u64 an)] 37), blk b5 (.cells #[rv, (Value.int .u64 fo)] 30)]) (fun jx => [SlAt 3 rv31 (drR rs ap.sort ap.id).length ((drR rs ap.sort ap.id).flatMap pinE), SlAt 3 rv rs.length (rs.flatMap pinE), SlAt 3 lv al.length (al.flatMap pinE)]) rfl (by decide) rfl (fun jx => (List.Sublist.cons _ (List.Sublist.cons _ (List.Sublist.cons_cons _ (List.Sublist.cons _ (List.Sublist.cons_cons _ (List.Sublist.cons_cons _ List.Sublist.slnil))))))) (fun jx r h => h) (fun A w M => Rets.mono (hz_drop zb zm ps fo ap.sort ap.id (M.enterW (C := [blk zb (.cells #[(Value.map (some zm)), (Value.int .u64 fo)] 87), mapP zm ps]) (D := [fl A, blk b35 (.cells #[rv31, (Value.int .u64 fo)] 30), blk b9 (.cells #[(Value.slice none 0 0), (Value.int .u64 0)] 30), blk b7 (.cells #[(Value.int .i64 ad), lv, (Value.int .u8 ap.sort), (Value.int .u64 ap.id), (Value.int .u64 ap.epoch), (Value.int .u64 an)] 37), blk b5 (.cells #[rv, (Value.int .u64 fo)] 30)]) [5, 6, 0, 1, 2, 3, 4] rfl (by decide) trivial)) (fun v_ w_ ⟨e_, m⟩ => ⟨(), e_, (M.leaveW (C := [blk zb (.cells #[(Value.map (some zm)), (Value.int .u64 fo)] 87), mapP zm ps]) (D := [fl A, blk b35 (.cells #[rv31, (Value.int .u64 fo)] 30), blk b9 (.cells #[(Value.slice none 0 0), (Value.int .u64 0)] 30), blk b7 (.cells #[(Value.int .i64 ad), lv, (Value.int .u8 ap.sort), (Value.int .u64 ap.id), (Value.int .u64 ap.epoch), (Value.int .u64 an)] 37), blk b5 (.cells #[rv, (Value.int .u64 fo)] 30)]) [5, 6, 0, 1, 2, 3, 4] rfl (by decide) m).sel (L' := [fl A, blk zb (.cells #[(Value.map (some zm)), (Value.int .u64 fo)] 87), mapP zm (delP ap.sort ap.id ps), blk b35 (.cells #[rv31, (Value.int .u64 fo)] 30), blk b9 (.cells #[(Value.slice none 0 0), (Value.int .u64 0)] 30), blk b7 (.cells #[(Value.int .i64 ad), lv, (Value.int .u8 ap.sort), (Value.int .u64 ap.id), (Value.int .u64 ap.epoch), (Value.int .u64 an)] 37), blk b5 (.cells #[rv, (Value.int .u64 fo)] 30)]) [2, 0, 1, 3, 4, 5, 6] rfl (by decide), fun b hb => M.keptW (C := [blk zb (.cells #[(Value.map (some zm)), (Value.int .u64 fo)] 87), mapP zm ps]) (D := [fl A, blk b35 (.cells #[rv31, (Value.int .u64 fo)] 30), blk b9 (.cells #[(Value.slice none 0 0), (Value.int .u64 0)] 30), blk b7 (.cells #[(Value.int .i64 ad), lv, (Value.int .u8 ap.sort), (Value.int .u64 ap.id), (Value.int .u64 ap.epoch), (Value.int .u64 an)] 37), blk b5 (.cells #[rv, (Value.int .u64 fo)] 30)]) [5, 6, 0, 1, 2, 3, 4] rfl (by decide) m (fl A) (List.mem_cons_self ..) b hb⟩)) (fun w => CallsF.func Try.en26 rfl) (fun jx v hp hin => ?_)
      replace hp := hp.symm; subst hp
      obtain ⟨_, _, hin⟩ := hin
      clear hin
      change TW _ _ _ _ _ _ _ _ (MemA _ _ _ [blk zb (.cells #[(Value.map (some zm)), (Value.int .u64 fo)] 87), mapP zm (delP ap.sort ap.id ps), blk b35 (.cells #[rv31, (Value.int .u64 fo)] 30), blk b9 (.cells #[(Value.slice none 0 0), (Value.int .u64 0)] 30), blk b7 (.cells #[(Value.int .i64 ad), lv, (Value.int .u8 ap.sort), (Value.int .u64 ap.id), (Value.int .u64 ap.epoch), (Value.int .u64 an)] 37), blk b5 (.cells #[rv, (Value.int .u64 fo)] 30)] [SlAt 3 rv31 (drR rs ap.sort ap.id).length ((drR rs ap.sort ap.id).flatMap pinE), SlAt 3 rv rs.length (rs.flatMap pinE), SlAt 3 lv al.length (al.flatMap pinE)])
      refine TW.pure (v := (Value.bool (heldB ap.sort ap.id rs))) rfl (by decide) (by decide) rfl (fun w => (Step.move rfl)) ?_
      refine TW.pure (v := (Value.bool true)) rfl (by decide) (by decide) rfl (fun w => (Step.cast (congrArg Value.bool (show (((heldV ap.sort ap.id ps).2) == (heldB ap.sort ap.id rs)) = true by rw [heldV_B, heldB_perm hR.perm]; simp)) (Step.pure (by kernel_rfl)))) ?_
      refine TW.store (v := (Value.agg #[rv31, (Value.int .u64 fo)])) (cs := [rv31, (Value.int .u64 fo)]) (c' := #[rv31, (Value.int .u64 fo)]) 3 rfl rfl (by decide) rfl Try.el30.sized rfl rfl rfl rfl (Nat.le_of_ble_eq_true rfl) (cel_cons (IsSl.cel sl33) (cel_cons rfl cel_nil)) rfl rfl (List.Sublist.cons _ (List.Sublist.cons _ (List.Sublist.cons_cons _ (List.Sublist.cons _ (List.Sublist.cons_cons _ (List.Sublist.cons_cons _ List.Sublist.slnil)))))) (fun r h => h) ?_
      refine TW.pure (v := (Value.bool true)) rfl (by decide) (by decide) rfl (fun w => (Step.assign rfl)) ?_
      refine TW.done (fun w40 M => ?_)
      refine W.ret ?_
      refine ⟨.inl rfl, (Value.tuple #[(Value.agg #[rv31, (Value.int .u64 fo)]), (Value.bool true)]), ?_, ?_⟩
      · exact ⟨rfl, (Res.r2 (RV.cellN Try.ag30 rfl (M.blk 3 rfl) rfl) (show RV _ _ _ (.tmp 7) (Value.bool true) from by exact rfl))⟩
      replace M := M.rechunk 1 (c' := mapP zm (doPs ps fo (⟨ad, al, ap, an⟩ : HAct))) rfl (by simp [doPs, h12p, h30p])
      replace M : Mem _ _ _ [blk zb (.cells #[(Value.map (some zm)), (Value.int .u64 fo)] 87), mapP zm (doPs ps fo (⟨ad, al, ap, an⟩ : HAct)), blk b35 (.cells #[rv31, (Value.int .u64 fo)] 30), blk b9 (.cells #[rv31, (Value.int .u64 fo)] 30), blk b7 (.cells #[(Value.int .i64 ad), lv, (Value.int .u8 ap.sort), (Value.int .u64 ap.id), (Value.int .u64 ap.epoch), (Value.int .u64 an)] 37), blk b5 (.cells #[rv, (Value.int .u64 fo)] 30)] [SlAt 3 rv31 (drR rs ap.sort ap.id).length ((drR rs ap.sort ap.id).flatMap pinE), SlAt 3 rv rs.length (rs.flatMap pinE), SlAt 3 lv al.length (al.flatMap pinE)] _ := M
      replace M := M.rechunk 0 (c' := blk zb (.cells #[(Value.map (some zm)), (Value.int .u64 (doFl rs fo (⟨ad, al, ap, an⟩ : HAct)))] 87)) rfl (by simp [doFl, h12p, h30p])
      replace M : Mem _ _ _ [blk zb (.cells #[(Value.map (some zm)), (Value.int .u64 (doFl rs fo (⟨ad, al, ap, an⟩ : HAct)))] 87), mapP zm (doPs ps fo (⟨ad, al, ap, an⟩ : HAct)), blk b35 (.cells #[rv31, (Value.int .u64 fo)] 30), blk b9 (.cells #[rv31, (Value.int .u64 fo)] 30), blk b7 (.cells #[(Value.int .i64 ad), lv, (Value.int .u8 ap.sort), (Value.int .u64 ap.id), (Value.int .u64 ap.epoch), (Value.int .u64 an)] 37), blk b5 (.cells #[rv, (Value.int .u64 fo)] 30)] [SlAt 3 rv31 (drR rs ap.sort ap.id).length ((drR rs ap.sort ap.id).flatMap pinE), SlAt 3 rv rs.length (rs.flatMap pinE), SlAt 3 lv al.length (al.flatMap pinE)] _ := M
      have e41 : doRs rs fo (⟨ad, al, ap, an⟩ : HAct) = drR rs ap.sort ap.id := by
        simp [doRs, doFl, h12p, h30p]
      have hf42 := Sh.reList e41 (M.shr' 0 rfl)
      refine ⟨rv31, ?_, M.close [0, 1] rfl (by decide) ⟨hf42, trivial⟩⟩
      simp [doRs, doFl, h12p, h30p]
    ·
      have h30p : ¬ (pickI ad 6 : Int) = (3 : Int) := by simpa using h30
      refine W.seq' ?_
      refine W.seq' ?_
      refine W.region rfl ?_
      refine WL.step (v := (Value.bool ((pickI ad 6 : Int) == (4 : Int)))) rfl (Step.pure (by kernel_rfl)) ?_
      refine WL.step (v := (Value.bool ((pickI ad 6 : Int) == (4 : Int)))) rfl (Step.assign rfl) ?_
      refine WL.nil ?_
      refine W.cond (t := (pickI ad 6 : Int) == (4 : Int)) rfl (fun h43 => ?_) (fun h43 => ?_)
      ·
        have h43p : (pickI ad 6 : Int) = (4 : Int) := by simpa using h43
        refine W.skip ?_
        refine W.cond (t := (pickI ad 6 : Int) == (4 : Int)) rfl (fun h44 => ?_) (fun h44 => ?_)
        ·
          refine W.seq' ?_
          refine W.region rfl ?_
          refine WL.step (v := (Value.agg #[rv, (Value.int .u64 fo)])) rfl (Step.loadN Try.ag30 rfl (M.blk 2 rfl) (Nat.le_of_ble_eq_true rfl) rfl) ?_
          refine WL.step (v := (Value.pointer (some ⟨b7, 5, none⟩))) rfl (Step.pure (by kernel_rfl)) ?_
          refine WL.step (v := (Value.int .u64 an)) rfl (Step.load1 Try.sc23 rfl ((M.cell 1 rfl 5).trans rfl)) ?_
          refine WL.callX rfl (ref23_raise rv rs fo an (M.enter0 ⟨(M.shr' 0 rfl), trivial⟩)) (CallsF.func Try.en46 rfl) ?_
          rintro _ w46 ⟨rv45, rfl, m⟩
          replace M := M.leave0 m
          clear m
          replace M : Mem _ _ _ [blk b9 (.cells #[(Value.slice none 0 0), (Value.int .u64 0)] 30), blk b7 (.cells #[(Value.int .i64 ad), lv, (Value.int .u8 ap.sort), (Value.int .u64 ap.id), (Value.int .u64 ap.epoch), (Value.int .u64 an)] 37), blk b5 (.cells #[rv, (Value.int .u64 fo)] 30), blk zb (.cells #[(Value.map (some zm)), (Value.int .u64 fo)] 87), mapP zm ps] [SlAt 3 rv45 rs.length (rs.flatMap pinE), SlAt 3 rv rs.length (rs.flatMap pinE), SlAt 3 lv al.length (al.flatMap pinE)] _ := M
          have sl47 : IsSl rv45 := SlAt.isSl (Mem.rep M 0 rfl)
          have hle48 := SlAt.le' (M.rep 0 rfl)
          refine WL.alloc (c := #[(Value.slice none 0 0), (Value.int .u64 0)]) M rfl Try.el30.zero rfl (fun b49 w50 hb49 M => ?_)
          refine WL.store (v := (Value.agg #[rv45, (Value.int .u64 (max (fo : Int) (minE an rs : Int)))])) (cs := [rv45, (Value.int .u64 (max (fo : Int) (minE an rs : Int)))]) (c' := #[rv45, (Value.int .u64 (max (fo : Int) (minE an rs : Int)))]) M 0 rfl rfl Try.el30.sized rfl rfl rfl rfl (Nat.le_of_ble_eq_true rfl) (cel_cons (IsSl.cel sl47) (cel_cons rfl cel_nil)) rfl rfl (fun w51 M => ?_)
          refine WL.nil ?_
          refine W.seq' ?_
          refine W.drawn M [0, 1, 2, 3, 4, 5, 6, 7, 8, 9] [4, 8] [] [blk b49 (.cells #[rv45, (Value.int .u64 (max (fo : Int) (minE an rs : Int)))] 30), blk b7 (.cells #[(Value.int .i64 ad), lv, (Value.int .u8 ap.sort), (Value.int .u64 ap.id), (Value.int .u64 ap.epoch), (Value.int .u64 an)] 37), blk b5 (.cells #[rv, (Value.int .u64 fo)] 30)] [SlAt 3 rv45 rs.length (rs.flatMap pinE), SlAt 3 rv rs.length (rs.flatMap pinE), SlAt 3 lv al.length (al.flatMap pinE)] (List.Sublist.cons_cons _ (List.Sublist.cons _ (List.Sublist.cons_cons _ (List.Sublist.cons_cons _ (List.Sublist.cons _ (List.Sublist.cons _ List.Sublist.slnil)))))) (fun _ h => h) Try.mixed (by kernel_rfl) ?_
          refine TW.read (v := (Value.agg #[rv45, (Value.int .u64 (max (fo : Int) (minE an rs : Int)))])) rfl (by decide) (by decide) rfl (fun A w M => (Step.loadN Try.ag30 rfl (M.blk 1 rfl) (Nat.le_of_ble_eq_true rfl) rfl)) ?_
          refine TW.pure (v := (Value.pointer (some ⟨zb, 0, none⟩))) rfl (by decide) (by decide) rfl (fun w => (Step.move rfl)) ?_
          refine TW.pure (v := (Value.pointer (some ⟨b7, 5, none⟩))) rfl (by decide) (by decide) rfl (fun w => (Step.pure (by kernel_rfl))) ?_
          refine TW.read (v := (Value.int .u64 an)) rfl (by decide) (by decide) rfl (fun A w M => (Step.load1 Try.sc23 rfl ((M.cell 2 rfl 5).trans rfl))) ?_
          refine TW.callX (ι := Unit) (fun jx v_ => v_ = (Value.int .u64 (max (fo : Int) (minE an ps : Int)))) (fun jx => [blk zb (.cells #[(Value.map (some zm)), (Value.int .u64 (max (fo : Int) (minE an ps : Int)))] 87), mapP zm ps, blk b49 (.cells #[rv45, (Value.int .u64 (max (fo : Int) (minE an rs : Int)))] 30), blk b9 (.cells #[(Value.slice none 0 0), (Value.int .u64 0)] 30), blk b7 (.cells #[(Value.int .i64 ad), lv, (Value.int .u8 ap.sort), (Value.int .u64 ap.id), (Value.int .u64 ap.epoch), (Value.int .u64 an)] 37), blk b5 (.cells #[rv, (Value.int .u64 fo)] 30)]) (fun jx => [SlAt 3 rv45 rs.length (rs.flatMap pinE), SlAt 3 rv rs.length (rs.flatMap pinE), SlAt 3 lv al.length (al.flatMap pinE)]) rfl (by decide) rfl (fun jx => (List.Sublist.cons _ (List.Sublist.cons _ (List.Sublist.cons_cons _ (List.Sublist.cons _ (List.Sublist.cons_cons _ (List.Sublist.cons_cons _ List.Sublist.slnil))))))) (fun jx r h => h) (fun A w M => Rets.mono (hz_raise zb zm ps fo an (M.enterW (C := [blk zb (.cells #[(Value.map (some zm)), (Value.int .u64 fo)] 87), mapP zm ps]) (D := [fl A, blk b49 (.cells #[rv45, (Value.int .u64 (max (fo : Int) (minE an rs : Int)))] 30), blk b9 (.cells #[(Value.slice none 0 0), (Value.int .u64 0)] 30), blk b7 (.cells #[(Value.int .i64 ad), lv, (Value.int .u8 ap.sort), (Value.int .u64 ap.id), (Value.int .u64 ap.epoch), (Value.int .u64 an)] 37), blk b5 (.cells #[rv, (Value.int .u64 fo)] 30)]) [5, 6, 0, 1, 2, 3, 4] rfl (by decide) trivial)) (fun v_ w_ ⟨e_, m⟩ => ⟨(), e_, (M.leaveW (C := [blk zb (.cells #[(Value.map (some zm)), (Value.int .u64 fo)] 87), mapP zm ps]) (D := [fl A, blk b49 (.cells #[rv45, (Value.int .u64 (max (fo : Int) (minE an rs : Int)))] 30), blk b9 (.cells #[(Value.slice none 0 0), (Value.int .u64 0)] 30), blk b7 (.cells #[(Value.int .i64 ad), lv, (Value.int .u8 ap.sort), (Value.int .u64 ap.id), (Value.int .u64 ap.epoch), (Value.int .u64 an)] 37), blk b5 (.cells #[rv, (Value.int .u64 fo)] 30)]) [5, 6, 0, 1, 2, 3, 4] rfl (by decide) m).sel (L' := [fl A, blk zb (.cells #[(Value.map (some zm)), (Value.int .u64 (max (fo : Int) (minE an ps : Int)))] 87), mapP zm ps, blk b49 (.cells #[rv45, (Value.int .u64 (max (fo : Int) (minE an rs : Int)))] 30), blk b9 (.cells #[(Value.slice none 0 0), (Value.int .u64 0)] 30), blk b7 (.cells #[(Value.int .i64 ad), lv, (Value.int .u8 ap.sort), (Value.int .u64 ap.id), (Value.int .u64 ap.epoch), (Value.int .u64 an)] 37), blk b5 (.cells #[rv, (Value.int .u64 fo)] 30)]) [2, 0, 1, 3, 4, 5, 6] rfl (by decide), fun b hb => M.keptW (C := [blk zb (.cells #[(Value.map (some zm)), (Value.int .u64 fo)] 87), mapP zm ps]) (D := [fl A, blk b49 (.cells #[rv45, (Value.int .u64 (max (fo : Int) (minE an rs : Int)))] 30), blk b9 (.cells #[(Value.slice none 0 0), (Value.int .u64 0)] 30), blk b7 (.cells #[(Value.int .i64 ad), lv, (Value.int .u8 ap.sort), (Value.int .u64 ap.id), (Value.int .u64 ap.epoch), (Value.int .u64 an)] 37), blk b5 (.cells #[rv, (Value.int .u64 fo)] 30)]) [5, 6, 0, 1, 2, 3, 4] rfl (by decide) m (fl A) (List.mem_cons_self ..) b hb⟩)) (fun w => CallsF.func Try.en27 rfl) (fun jx v hp hin => ?_)
          replace hp := hp.symm; subst hp
          obtain ⟨_, _, hin⟩ := hin
          clear hin
          change TW _ _ _ _ _ _ _ _ (MemA _ _ _ [blk zb (.cells #[(Value.map (some zm)), (Value.int .u64 (max (fo : Int) (minE an ps : Int)))] 87), mapP zm ps, blk b49 (.cells #[rv45, (Value.int .u64 (max (fo : Int) (minE an rs : Int)))] 30), blk b9 (.cells #[(Value.slice none 0 0), (Value.int .u64 0)] 30), blk b7 (.cells #[(Value.int .i64 ad), lv, (Value.int .u8 ap.sort), (Value.int .u64 ap.id), (Value.int .u64 ap.epoch), (Value.int .u64 an)] 37), blk b5 (.cells #[rv, (Value.int .u64 fo)] 30)] [SlAt 3 rv45 rs.length (rs.flatMap pinE), SlAt 3 rv rs.length (rs.flatMap pinE), SlAt 3 lv al.length (al.flatMap pinE)])
          refine TW.pure (v := (Value.pointer (some ⟨b49, 1, none⟩))) rfl (by decide) (by decide) rfl (fun w => (Step.pure (by kernel_rfl))) ?_
          refine TW.read (v := (Value.int .u64 (max (fo : Int) (minE an rs : Int)))) rfl (by decide) (by decide) rfl (fun A w M => (Step.load1 Try.sc23 rfl ((M.cell 1 rfl 1).trans rfl))) ?_
          refine TW.pure (v := (Value.bool true)) rfl (by decide) (by decide) rfl (fun w => (Step.cast (congrArg Value.bool (show ((max (fo : Int) (minE an ps : Int) : Int) == (max (fo : Int) (minE an rs : Int) : Int)) = true by rw [minE_perm hR.perm]; simp)) (Step.pure (by kernel_rfl)))) ?_
          refine TW.store (v := (Value.agg #[rv45, (Value.int .u64 (max (fo : Int) (minE an rs : Int)))])) (cs := [rv45, (Value.int .u64 (max (fo : Int) (minE an rs : Int)))]) (c' := #[rv45, (Value.int .u64 (max (fo : Int) (minE an rs : Int)))]) 3 rfl rfl (by decide) rfl Try.el30.sized rfl rfl rfl rfl (Nat.le_of_ble_eq_true rfl) (cel_cons (IsSl.cel sl47) (cel_cons rfl cel_nil)) rfl rfl (List.Sublist.cons _ (List.Sublist.cons _ (List.Sublist.cons_cons _ (List.Sublist.cons _ (List.Sublist.cons_cons _ (List.Sublist.cons_cons _ List.Sublist.slnil)))))) (fun r h => h) ?_
          refine TW.pure (v := (Value.bool true)) rfl (by decide) (by decide) rfl (fun w => (Step.assign rfl)) ?_
          refine TW.done (fun w54 M => ?_)
          refine W.ret ?_
          refine ⟨.inl rfl, (Value.tuple #[(Value.agg #[rv45, (Value.int .u64 (max (fo : Int) (minE an rs : Int)))]), (Value.bool true)]), ?_, ?_⟩
          · exact ⟨rfl, (Res.r2 (RV.cellN Try.ag30 rfl (M.blk 3 rfl) rfl) (show RV _ _ _ (.tmp 7) (Value.bool true) from by exact rfl))⟩
          replace M := M.rechunk 1 (c' := mapP zm (doPs ps fo (⟨ad, al, ap, an⟩ : HAct))) rfl (by simp [doPs, h12p, h30p, h43p])
          replace M : Mem _ _ _ [blk zb (.cells #[(Value.map (some zm)), (Value.int .u64 (max (fo : Int) (minE an ps : Int)))] 87), mapP zm (doPs ps fo (⟨ad, al, ap, an⟩ : HAct)), blk b49 (.cells #[rv45, (Value.int .u64 (max (fo : Int) (minE an rs : Int)))] 30), blk b9 (.cells #[rv45, (Value.int .u64 (max (fo : Int) (minE an rs : Int)))] 30), blk b7 (.cells #[(Value.int .i64 ad), lv, (Value.int .u8 ap.sort), (Value.int .u64 ap.id), (Value.int .u64 ap.epoch), (Value.int .u64 an)] 37), blk b5 (.cells #[rv, (Value.int .u64 fo)] 30)] [SlAt 3 rv45 rs.length (rs.flatMap pinE), SlAt 3 rv rs.length (rs.flatMap pinE), SlAt 3 lv al.length (al.flatMap pinE)] _ := M
          replace M := M.rechunk 0 (c' := blk zb (.cells #[(Value.map (some zm)), (Value.int .u64 (doFl rs fo (⟨ad, al, ap, an⟩ : HAct)))] 87)) rfl (by simp [doFl, h12p, h30p, h43p, minE_perm hR.perm])
          replace M : Mem _ _ _ [blk zb (.cells #[(Value.map (some zm)), (Value.int .u64 (doFl rs fo (⟨ad, al, ap, an⟩ : HAct)))] 87), mapP zm (doPs ps fo (⟨ad, al, ap, an⟩ : HAct)), blk b49 (.cells #[rv45, (Value.int .u64 (max (fo : Int) (minE an rs : Int)))] 30), blk b9 (.cells #[rv45, (Value.int .u64 (max (fo : Int) (minE an rs : Int)))] 30), blk b7 (.cells #[(Value.int .i64 ad), lv, (Value.int .u8 ap.sort), (Value.int .u64 ap.id), (Value.int .u64 ap.epoch), (Value.int .u64 an)] 37), blk b5 (.cells #[rv, (Value.int .u64 fo)] 30)] [SlAt 3 rv45 rs.length (rs.flatMap pinE), SlAt 3 rv rs.length (rs.flatMap pinE), SlAt 3 lv al.length (al.flatMap pinE)] _ := M
          have e55 : doRs rs fo (⟨ad, al, ap, an⟩ : HAct) = rs := by
            simp [doRs, doFl, h12p, h30p, h43p]
          have hf56 := Sh.reList e55 (M.shr' 0 rfl)
          refine ⟨rv45, ?_, M.close [0, 1] rfl (by decide) ⟨hf56, trivial⟩⟩
          simp [doRs, doFl, h12p, h30p, h43p]
        · exact absurd (h44.symm.trans h43) (by decide)
      ·
        have h43p : ¬ (pickI ad 6 : Int) = (4 : Int) := by simpa using h43
        refine W.region rfl ?_
        refine WL.step (v := (Value.bool ((pickI ad 6 : Int) == (5 : Int)))) rfl (Step.pure (by kernel_rfl)) ?_
        refine WL.step (v := (Value.bool ((pickI ad 6 : Int) == (5 : Int)))) rfl (Step.assign rfl) ?_
        refine WL.nil ?_
        refine W.cond (t := (pickI ad 6 : Int) == (5 : Int)) rfl (fun h57 => ?_) (fun h57 => ?_)
        ·
          have h57p : (pickI ad 6 : Int) = (5 : Int) := by simpa using h57
          refine W.seq' ?_
          refine W.region rfl ?_
          refine WL.step (v := (Value.agg #[rv, (Value.int .u64 fo)])) rfl (Step.loadN Try.ag30 rfl (M.blk 2 rfl) (Nat.le_of_ble_eq_true rfl) rfl) ?_
          refine WL.step (v := (Value.pointer (some ⟨b7, 5, none⟩))) rfl (Step.pure (by kernel_rfl)) ?_
          refine WL.step (v := (Value.int .u64 an)) rfl (Step.load1 Try.sc23 rfl ((M.cell 1 rfl 5).trans rfl)) ?_
          refine WL.callX rfl (ref23_raise rv rs fo an (M.enter0 ⟨(M.shr' 0 rfl), trivial⟩)) (CallsF.func Try.en46 rfl) ?_
          rintro _ w59 ⟨rv58, rfl, m⟩
          replace M := M.leave0 m
          clear m
          replace M : Mem _ _ _ [blk b9 (.cells #[(Value.slice none 0 0), (Value.int .u64 0)] 30), blk b7 (.cells #[(Value.int .i64 ad), lv, (Value.int .u8 ap.sort), (Value.int .u64 ap.id), (Value.int .u64 ap.epoch), (Value.int .u64 an)] 37), blk b5 (.cells #[rv, (Value.int .u64 fo)] 30), blk zb (.cells #[(Value.map (some zm)), (Value.int .u64 fo)] 87), mapP zm ps] [SlAt 3 rv58 rs.length (rs.flatMap pinE), SlAt 3 rv rs.length (rs.flatMap pinE), SlAt 3 lv al.length (al.flatMap pinE)] _ := M
          have sl60 : IsSl rv58 := SlAt.isSl (Mem.rep M 0 rfl)
          have hle61 := SlAt.le' (M.rep 0 rfl)
          refine WL.alloc (c := #[(Value.slice none 0 0), (Value.int .u64 0)]) M rfl Try.el30.zero rfl (fun b62 w63 hb62 M => ?_)
          refine WL.store (v := (Value.agg #[rv58, (Value.int .u64 (max (fo : Int) (minE an rs : Int)))])) (cs := [rv58, (Value.int .u64 (max (fo : Int) (minE an rs : Int)))]) (c' := #[rv58, (Value.int .u64 (max (fo : Int) (minE an rs : Int)))]) M 0 rfl rfl Try.el30.sized rfl rfl rfl rfl (Nat.le_of_ble_eq_true rfl) (cel_cons (IsSl.cel sl60) (cel_cons rfl cel_nil)) rfl rfl (fun w64 M => ?_)
          refine WL.nil ?_
          refine W.seq' ?_
          refine W.drawn M [0, 1, 2, 3, 4, 5, 6, 7, 8, 9] [4, 8] [] [blk b62 (.cells #[rv58, (Value.int .u64 (max (fo : Int) (minE an rs : Int)))] 30), blk b7 (.cells #[(Value.int .i64 ad), lv, (Value.int .u8 ap.sort), (Value.int .u64 ap.id), (Value.int .u64 ap.epoch), (Value.int .u64 an)] 37), blk b5 (.cells #[rv, (Value.int .u64 fo)] 30)] [SlAt 3 rv58 rs.length (rs.flatMap pinE), SlAt 3 rv rs.length (rs.flatMap pinE), SlAt 3 lv al.length (al.flatMap pinE)] (List.Sublist.cons_cons _ (List.Sublist.cons _ (List.Sublist.cons_cons _ (List.Sublist.cons_cons _ (List.Sublist.cons _ (List.Sublist.cons _ List.Sublist.slnil)))))) (fun _ h => h) Try.mixed (by kernel_rfl) ?_
          refine TW.read (v := (Value.agg #[rv58, (Value.int .u64 (max (fo : Int) (minE an rs : Int)))])) rfl (by decide) (by decide) rfl (fun A w M => (Step.loadN Try.ag30 rfl (M.blk 1 rfl) (Nat.le_of_ble_eq_true rfl) rfl)) ?_
          refine TW.pure (v := (Value.pointer (some ⟨zb, 0, none⟩))) rfl (by decide) (by decide) rfl (fun w => (Step.move rfl)) ?_
          refine TW.pure (v := (Value.pointer (some ⟨b7, 5, none⟩))) rfl (by decide) (by decide) rfl (fun w => (Step.pure (by kernel_rfl))) ?_
          refine TW.read (v := (Value.int .u64 an)) rfl (by decide) (by decide) rfl (fun A w M => (Step.load1 Try.sc23 rfl ((M.cell 2 rfl 5).trans rfl))) ?_
          refine TW.callX (ι := Unit) (fun jx v_ => v_ = (Value.int .u64 (max (fo : Int) (minE an ps : Int)))) (fun jx => [blk zb (.cells #[(Value.map (some zm)), (Value.int .u64 (max (fo : Int) (minE an ps : Int)))] 87), mapP zm ps, blk b62 (.cells #[rv58, (Value.int .u64 (max (fo : Int) (minE an rs : Int)))] 30), blk b9 (.cells #[(Value.slice none 0 0), (Value.int .u64 0)] 30), blk b7 (.cells #[(Value.int .i64 ad), lv, (Value.int .u8 ap.sort), (Value.int .u64 ap.id), (Value.int .u64 ap.epoch), (Value.int .u64 an)] 37), blk b5 (.cells #[rv, (Value.int .u64 fo)] 30)]) (fun jx => [SlAt 3 rv58 rs.length (rs.flatMap pinE), SlAt 3 rv rs.length (rs.flatMap pinE), SlAt 3 lv al.length (al.flatMap pinE)]) rfl (by decide) rfl (fun jx => (List.Sublist.cons _ (List.Sublist.cons _ (List.Sublist.cons_cons _ (List.Sublist.cons _ (List.Sublist.cons_cons _ (List.Sublist.cons_cons _ List.Sublist.slnil))))))) (fun jx r h => h) (fun A w M => Rets.mono (hz_raise zb zm ps fo an (M.enterW (C := [blk zb (.cells #[(Value.map (some zm)), (Value.int .u64 fo)] 87), mapP zm ps]) (D := [fl A, blk b62 (.cells #[rv58, (Value.int .u64 (max (fo : Int) (minE an rs : Int)))] 30), blk b9 (.cells #[(Value.slice none 0 0), (Value.int .u64 0)] 30), blk b7 (.cells #[(Value.int .i64 ad), lv, (Value.int .u8 ap.sort), (Value.int .u64 ap.id), (Value.int .u64 ap.epoch), (Value.int .u64 an)] 37), blk b5 (.cells #[rv, (Value.int .u64 fo)] 30)]) [5, 6, 0, 1, 2, 3, 4] rfl (by decide) trivial)) (fun v_ w_ ⟨e_, m⟩ => ⟨(), e_, (M.leaveW (C := [blk zb (.cells #[(Value.map (some zm)), (Value.int .u64 fo)] 87), mapP zm ps]) (D := [fl A, blk b62 (.cells #[rv58, (Value.int .u64 (max (fo : Int) (minE an rs : Int)))] 30), blk b9 (.cells #[(Value.slice none 0 0), (Value.int .u64 0)] 30), blk b7 (.cells #[(Value.int .i64 ad), lv, (Value.int .u8 ap.sort), (Value.int .u64 ap.id), (Value.int .u64 ap.epoch), (Value.int .u64 an)] 37), blk b5 (.cells #[rv, (Value.int .u64 fo)] 30)]) [5, 6, 0, 1, 2, 3, 4] rfl (by decide) m).sel (L' := [fl A, blk zb (.cells #[(Value.map (some zm)), (Value.int .u64 (max (fo : Int) (minE an ps : Int)))] 87), mapP zm ps, blk b62 (.cells #[rv58, (Value.int .u64 (max (fo : Int) (minE an rs : Int)))] 30), blk b9 (.cells #[(Value.slice none 0 0), (Value.int .u64 0)] 30), blk b7 (.cells #[(Value.int .i64 ad), lv, (Value.int .u8 ap.sort), (Value.int .u64 ap.id), (Value.int .u64 ap.epoch), (Value.int .u64 an)] 37), blk b5 (.cells #[rv, (Value.int .u64 fo)] 30)]) [2, 0, 1, 3, 4, 5, 6] rfl (by decide), fun b hb => M.keptW (C := [blk zb (.cells #[(Value.map (some zm)), (Value.int .u64 fo)] 87), mapP zm ps]) (D := [fl A, blk b62 (.cells #[rv58, (Value.int .u64 (max (fo : Int) (minE an rs : Int)))] 30), blk b9 (.cells #[(Value.slice none 0 0), (Value.int .u64 0)] 30), blk b7 (.cells #[(Value.int .i64 ad), lv, (Value.int .u8 ap.sort), (Value.int .u64 ap.id), (Value.int .u64 ap.epoch), (Value.int .u64 an)] 37), blk b5 (.cells #[rv, (Value.int .u64 fo)] 30)]) [5, 6, 0, 1, 2, 3, 4] rfl (by decide) m (fl A) (List.mem_cons_self ..) b hb⟩)) (fun w => CallsF.func Try.en27 rfl) (fun jx v hp hin => ?_)
          replace hp := hp.symm; subst hp
          obtain ⟨_, _, hin⟩ := hin
          clear hin
          change TW _ _ _ _ _ _ _ _ (MemA _ _ _ [blk zb (.cells #[(Value.map (some zm)), (Value.int .u64 (max (fo : Int) (minE an ps : Int)))] 87), mapP zm ps, blk b62 (.cells #[rv58, (Value.int .u64 (max (fo : Int) (minE an rs : Int)))] 30), blk b9 (.cells #[(Value.slice none 0 0), (Value.int .u64 0)] 30), blk b7 (.cells #[(Value.int .i64 ad), lv, (Value.int .u8 ap.sort), (Value.int .u64 ap.id), (Value.int .u64 ap.epoch), (Value.int .u64 an)] 37), blk b5 (.cells #[rv, (Value.int .u64 fo)] 30)] [SlAt 3 rv58 rs.length (rs.flatMap pinE), SlAt 3 rv rs.length (rs.flatMap pinE), SlAt 3 lv al.length (al.flatMap pinE)])
          refine TW.pure (v := (Value.pointer (some ⟨b62, 1, none⟩))) rfl (by decide) (by decide) rfl (fun w => (Step.pure (by kernel_rfl))) ?_
          refine TW.read (v := (Value.int .u64 (max (fo : Int) (minE an rs : Int)))) rfl (by decide) (by decide) rfl (fun A w M => (Step.load1 Try.sc23 rfl ((M.cell 1 rfl 1).trans rfl))) ?_
          refine TW.pure (v := (Value.bool true)) rfl (by decide) (by decide) rfl (fun w => (Step.cast (congrArg Value.bool (show ((max (fo : Int) (minE an ps : Int) : Int) == (max (fo : Int) (minE an rs : Int) : Int)) = true by rw [minE_perm hR.perm]; simp)) (Step.pure (by kernel_rfl)))) ?_
          refine TW.store (v := (Value.agg #[rv58, (Value.int .u64 (max (fo : Int) (minE an rs : Int)))])) (cs := [rv58, (Value.int .u64 (max (fo : Int) (minE an rs : Int)))]) (c' := #[rv58, (Value.int .u64 (max (fo : Int) (minE an rs : Int)))]) 3 rfl rfl (by decide) rfl Try.el30.sized rfl rfl rfl rfl (Nat.le_of_ble_eq_true rfl) (cel_cons (IsSl.cel sl60) (cel_cons rfl cel_nil)) rfl rfl (List.Sublist.cons _ (List.Sublist.cons _ (List.Sublist.cons_cons _ (List.Sublist.cons _ (List.Sublist.cons_cons _ (List.Sublist.cons_cons _ List.Sublist.slnil)))))) (fun r h => h) ?_
          refine TW.pure (v := (Value.bool true)) rfl (by decide) (by decide) rfl (fun w => (Step.assign rfl)) ?_
          refine TW.done (fun w67 M => ?_)
          refine W.ret ?_
          refine ⟨.inl rfl, (Value.tuple #[(Value.agg #[rv58, (Value.int .u64 (max (fo : Int) (minE an rs : Int)))]), (Value.bool true)]), ?_, ?_⟩
          · exact ⟨rfl, (Res.r2 (RV.cellN Try.ag30 rfl (M.blk 3 rfl) rfl) (show RV _ _ _ (.tmp 7) (Value.bool true) from by exact rfl))⟩
          replace M := M.rechunk 1 (c' := mapP zm (doPs ps fo (⟨ad, al, ap, an⟩ : HAct))) rfl (by simp [doPs, h12p, h30p, h43p, h57p])
          replace M : Mem _ _ _ [blk zb (.cells #[(Value.map (some zm)), (Value.int .u64 (max (fo : Int) (minE an ps : Int)))] 87), mapP zm (doPs ps fo (⟨ad, al, ap, an⟩ : HAct)), blk b62 (.cells #[rv58, (Value.int .u64 (max (fo : Int) (minE an rs : Int)))] 30), blk b9 (.cells #[rv58, (Value.int .u64 (max (fo : Int) (minE an rs : Int)))] 30), blk b7 (.cells #[(Value.int .i64 ad), lv, (Value.int .u8 ap.sort), (Value.int .u64 ap.id), (Value.int .u64 ap.epoch), (Value.int .u64 an)] 37), blk b5 (.cells #[rv, (Value.int .u64 fo)] 30)] [SlAt 3 rv58 rs.length (rs.flatMap pinE), SlAt 3 rv rs.length (rs.flatMap pinE), SlAt 3 lv al.length (al.flatMap pinE)] _ := M
          replace M := M.rechunk 0 (c' := blk zb (.cells #[(Value.map (some zm)), (Value.int .u64 (doFl rs fo (⟨ad, al, ap, an⟩ : HAct)))] 87)) rfl (by simp [doFl, h12p, h30p, h43p, h57p, minE_perm hR.perm])
          replace M : Mem _ _ _ [blk zb (.cells #[(Value.map (some zm)), (Value.int .u64 (doFl rs fo (⟨ad, al, ap, an⟩ : HAct)))] 87), mapP zm (doPs ps fo (⟨ad, al, ap, an⟩ : HAct)), blk b62 (.cells #[rv58, (Value.int .u64 (max (fo : Int) (minE an rs : Int)))] 30), blk b9 (.cells #[rv58, (Value.int .u64 (max (fo : Int) (minE an rs : Int)))] 30), blk b7 (.cells #[(Value.int .i64 ad), lv, (Value.int .u8 ap.sort), (Value.int .u64 ap.id), (Value.int .u64 ap.epoch), (Value.int .u64 an)] 37), blk b5 (.cells #[rv, (Value.int .u64 fo)] 30)] [SlAt 3 rv58 rs.length (rs.flatMap pinE), SlAt 3 rv rs.length (rs.flatMap pinE), SlAt 3 lv al.length (al.flatMap pinE)] _ := M
          have e68 : doRs rs fo (⟨ad, al, ap, an⟩ : HAct) = rs := by
            simp [doRs, doFl, h12p, h30p, h43p, h57p]
          have hf69 := Sh.reList e68 (M.shr' 0 rfl)
          refine ⟨rv58, ?_, M.close [0, 1] rfl (by decide) ⟨hf69, trivial⟩⟩
          simp [doRs, doFl, h12p, h30p, h43p, h57p]
        ·
          have h57p : ¬ (pickI ad 6 : Int) = (5 : Int) := by simpa using h57
          refine W.skip ?_
          refine W.seq' ?_
          refine W.drawn M [0, 1, 2, 3, 4, 5, 6, 7, 8, 9, 10] [3, 4, 9] [8] [blk b9 (.cells #[(Value.slice none 0 0), (Value.int .u64 0)] 30), blk b7 (.cells #[(Value.int .i64 ad), lv, (Value.int .u8 ap.sort), (Value.int .u64 ap.id), (Value.int .u64 ap.epoch), (Value.int .u64 an)] 37), blk b5 (.cells #[rv, (Value.int .u64 fo)] 30), blk zb (.cells #[(Value.map (some zm)), (Value.int .u64 fo)] 87), mapP zm ps] [SlAt 3 rv rs.length (rs.flatMap pinE), SlAt 3 lv al.length (al.flatMap pinE)] (List.Sublist.cons_cons _ (List.Sublist.cons_cons _ (List.Sublist.cons_cons _ (List.Sublist.cons_cons _ (List.Sublist.cons_cons _ List.Sublist.slnil))))) (fun _ h => h) Try.mixed (by kernel_rfl) ?_
          refine TW.read (v := (Value.agg #[rv, (Value.int .u64 fo)])) rfl (by decide) (by decide) rfl (fun A w M => (Step.loadN Try.ag30 rfl (M.blk 3 rfl) (Nat.le_of_ble_eq_true rfl) rfl)) ?_
          refine TW.pure (v := (Value.pointer (some ⟨b7, 1, none⟩))) rfl (by decide) (by decide) rfl (fun w => (Step.pure (by kernel_rfl))) ?_
          refine TW.read (v := lv) rfl (by decide) (by decide) rfl (fun A w M => (Step.load1 Try.sc33 rfl ((M.cell 2 rfl 1).trans rfl))) ?_
          refine TW.callX (ι := Value) (fun jx v_ => v_ = jx) (fun jx => [blk b9 (.cells #[(Value.slice none 0 0), (Value.int .u64 0)] 30), blk b7 (.cells #[(Value.int .i64 ad), lv, (Value.int .u8 ap.sort), (Value.int .u64 ap.id), (Value.int .u64 ap.epoch), (Value.int .u64 an)] 37), blk b5 (.cells #[rv, (Value.int .u64 fo)] 30), blk zb (.cells #[(Value.map (some zm)), (Value.int .u64 fo)] 87), mapP zm ps]) (fun jx => [SlAt 3 jx al.length (al.flatMap pinE), SlAt 3 rv rs.length (rs.flatMap pinE), SlAt 3 lv al.length (al.flatMap pinE)]) rfl (by decide) rfl (fun jx => (List.Sublist.cons_cons _ (List.Sublist.cons_cons _ (List.Sublist.cons_cons _ (List.Sublist.cons_cons _ (List.Sublist.cons_cons _ List.Sublist.slnil)))))) (fun jx r h => (List.mem_cons_of_mem _ h)) (fun A w M => Rets.mono (law23_pins lv al (by omega) (M.enterW0 ⟨(M.wideR0 1 rfl), trivial⟩)) (fun v_ w_ ⟨v80, e_, m⟩ => ⟨v80, e_, (M.leaveF1 m).sel (L' := [fl A, blk b9 (.cells #[(Value.slice none 0 0), (Value.int .u64 0)] 30), blk b7 (.cells #[(Value.int .i64 ad), lv, (Value.int .u8 ap.sort), (Value.int .u64 ap.id), (Value.int .u64 ap.epoch), (Value.int .u64 an)] 37), blk b5 (.cells #[rv, (Value.int .u64 fo)] 30), blk zb (.cells #[(Value.map (some zm)), (Value.int .u64 fo)] 87), mapP zm ps]) [0, 1, 2, 3, 4, 5] rfl (by decide), fun b hb => M.keptW0 m (fl A) (List.mem_cons_self ..) b hb⟩)) (fun w => CallsF.func Try.en16 rfl) (fun v80 v hp hin => ?_)
          replace hp := hp.symm; subst hp
          obtain ⟨_, _, hin⟩ := hin
          have sl81 : IsSl v80 := SlAt.isSl (Mem.rep hin 0 rfl)
          clear hin
          change TW _ _ _ _ _ _ _ _ (MemA _ _ _ [blk b9 (.cells #[(Value.slice none 0 0), (Value.int .u64 0)] 30), blk b7 (.cells #[(Value.int .i64 ad), lv, (Value.int .u8 ap.sort), (Value.int .u64 ap.id), (Value.int .u64 ap.epoch), (Value.int .u64 an)] 37), blk b5 (.cells #[rv, (Value.int .u64 fo)] 30), blk zb (.cells #[(Value.map (some zm)), (Value.int .u64 fo)] 87), mapP zm ps] [SlAt 3 v80 al.length (al.flatMap pinE), SlAt 3 rv rs.length (rs.flatMap pinE), SlAt 3 lv al.length (al.flatMap pinE)])
          refine TW.callX (ι := Value) (fun jx v_ => v_ = (Value.tuple #[(Value.agg #[jx, (Value.int .u64 fo)]), (Value.int .i64 (pinC rs fo al))])) (fun jx => [blk b9 (.cells #[(Value.slice none 0 0), (Value.int .u64 0)] 30), blk b7 (.cells #[(Value.int .i64 ad), lv, (Value.int .u8 ap.sort), (Value.int .u64 ap.id), (Value.int .u64 ap.epoch), (Value.int .u64 an)] 37), blk b5 (.cells #[rv, (Value.int .u64 fo)] 30), blk zb (.cells #[(Value.map (some zm)), (Value.int .u64 fo)] 87), mapP zm ps]) (fun jx => [SlAt 3 jx (addS rs fo al).length ((addS rs fo al).flatMap pinE), SlAt 3 v80 al.length (al.flatMap pinE), SlAt 3 rv rs.length (rs.flatMap pinE), SlAt 3 lv al.length (al.flatMap pinE)]) rfl (by decide) rfl (fun jx => (List.Sublist.cons_cons _ (List.Sublist.cons_cons _ (List.Sublist.cons_cons _ (List.Sublist.cons_cons _ (List.Sublist.cons_cons _ List.Sublist.slnil)))))) (fun jx r h => (List.mem_cons_of_mem _ (List.mem_cons_of_mem _ h))) (fun A w M => Rets.mono (ref23_add rv rs fo v80 al (by omega) (M.enter0 ⟨(M.shr' 1 rfl), (M.shr' 0 rfl), trivial⟩)) (fun v_ w_ ⟨rv82, e_, m⟩ => ⟨rv82, e_, (M.leave0 m).sel (L' := [fl A, blk b9 (.cells #[(Value.slice none 0 0), (Value.int .u64 0)] 30), blk b7 (.cells #[(Value.int .i64 ad), lv, (Value.int .u8 ap.sort), (Value.int .u64 ap.id), (Value.int .u64 ap.epoch), (Value.int .u64 an)] 37), blk b5 (.cells #[rv, (Value.int .u64 fo)] 30), blk zb (.cells #[(Value.map (some zm)), (Value.int .u64 fo)] 87), mapP zm ps]) [0, 1, 2, 3, 4, 5] rfl (by decide), fun b hb => M.kept0 m (fl A) (List.mem_cons_self ..) b hb⟩)) (fun w => CallsF.func Try.en47 rfl) (fun rv82 v hp hin => ?_)
          replace hp := hp.symm; subst hp
          obtain ⟨_, _, hin⟩ := hin
          have sl83 : IsSl rv82 := SlAt.isSl (Mem.rep hin 0 rfl)
          clear hin
          change TW _ _ _ _ _ _ _ _ (MemA _ _ _ [blk b9 (.cells #[(Value.slice none 0 0), (Value.int .u64 0)] 30), blk b7 (.cells #[(Value.int .i64 ad), lv, (Value.int .u8 ap.sort), (Value.int .u64 ap.id), (Value.int .u64 ap.epoch), (Value.int .u64 an)] 37), blk b5 (.cells #[rv, (Value.int .u64 fo)] 30), blk zb (.cells #[(Value.map (some zm)), (Value.int .u64 fo)] 87), mapP zm ps] [SlAt 3 rv82 (addS rs fo al).length ((addS rs fo al).flatMap pinE), SlAt 3 v80 al.length (al.flatMap pinE), SlAt 3 rv rs.length (rs.flatMap pinE), SlAt 3 lv al.length (al.flatMap pinE)])
          refine TW.pure (v := (Value.tuple #[(Value.agg #[rv82, (Value.int .u64 fo)]), (Value.int .i64 (pinC rs fo al))])) rfl (by decide) (by decide) rfl (fun w => (Step.move rfl)) ?_
          refine TW.pure (v := (Value.agg #[rv82, (Value.int .u64 fo)])) rfl (by decide) (by decide) rfl (fun w => (Step.pure (by kernel_rfl))) ?_
          refine TW.pure (v := (Value.int .i64 (pinC rs fo al))) rfl (by decide) (by decide) rfl (fun w => (Step.pure (by kernel_rfl))) ?_
          refine TW.new (obj := .cells #[(Value.slice none 0 0), (Value.int .u64 0)] 30) (fun b => .pointer (some ⟨b, 0, none⟩)) rfl (by decide) (by decide) rfl (fun w => Step.alloc Try.el30.zero) (fun b84 => ?_)
          refine TW.store (v := (Value.agg #[rv82, (Value.int .u64 fo)])) (cs := [rv82, (Value.int .u64 fo)]) (c' := #[rv82, (Value.int .u64 fo)]) 0 rfl rfl (by decide) rfl Try.el30.sized rfl rfl rfl rfl (Nat.le_of_ble_eq_true rfl) (cel_cons (IsSl.cel sl83) (cel_cons rfl cel_nil)) rfl rfl (List.Sublist.cons _ (List.Sublist.cons_cons _ (List.Sublist.cons_cons _ (List.Sublist.cons_cons _ (List.Sublist.cons_cons _ (List.Sublist.cons_cons _ List.Sublist.slnil)))))) (fun r h => (List.mem_cons_of_mem _ (List.mem_cons_of_mem _ h))) ?_
          refine TW.pure (v := (Value.int .i64 (pinC rs fo al))) rfl (by decide) (by decide) rfl (fun w => (Step.assign rfl)) ?_
          refine TW.done (fun w85 M => ?_)
          refine W.seq' ?_
          refine W.drawn M [0, 1, 2, 3, 4, 5, 6, 7, 8] [4, 7] [] [blk b84 (.cells #[rv82, (Value.int .u64 fo)] 30), blk b7 (.cells #[(Value.int .i64 ad), lv, (Value.int .u8 ap.sort), (Value.int .u64 ap.id), (Value.int .u64 ap.epoch), (Value.int .u64 an)] 37), blk b5 (.cells #[rv, (Value.int .u64 fo)] 30)] [SlAt 3 rv82 (addS rs fo al).length ((addS rs fo al).flatMap pinE), SlAt 3 v80 al.length (al.flatMap pinE), SlAt 3 rv rs.length (rs.flatMap pinE), SlAt 3 lv al.length (al.flatMap pinE)] (List.Sublist.cons_cons _ (List.Sublist.cons _ (List.Sublist.cons_cons _ (List.Sublist.cons_cons _ (List.Sublist.cons _ (List.Sublist.cons _ List.Sublist.slnil)))))) (fun _ h => h) Try.mixed (by kernel_rfl) ?_
          refine TW.read (v := (Value.agg #[rv82, (Value.int .u64 fo)])) rfl (by decide) (by decide) rfl (fun A w M => (Step.loadN Try.ag30 rfl (M.blk 1 rfl) (Nat.le_of_ble_eq_true rfl) rfl)) ?_
          refine TW.pure (v := (Value.pointer (some ⟨zb, 0, none⟩))) rfl (by decide) (by decide) rfl (fun w => (Step.move rfl)) ?_
          refine TW.pure (v := (Value.pointer (some ⟨b7, 1, none⟩))) rfl (by decide) (by decide) rfl (fun w => (Step.pure (by kernel_rfl))) ?_
          refine TW.read (v := lv) rfl (by decide) (by decide) rfl (fun A w M => (Step.load1 Try.sc33 rfl ((M.cell 2 rfl 1).trans rfl))) ?_
          refine TW.callX (ι := Unit) (fun jx v_ => v_ = (Value.int .i64 (pinC ps fo al))) (fun jx => [blk zb (.cells #[(Value.map (some zm)), (Value.int .u64 fo)] 87), mapP zm (pinS ps fo al), blk b84 (.cells #[rv82, (Value.int .u64 fo)] 30), blk b9 (.cells #[(Value.slice none 0 0), (Value.int .u64 0)] 30), blk b7 (.cells #[(Value.int .i64 ad), lv, (Value.int .u8 ap.sort), (Value.int .u64 ap.id), (Value.int .u64 ap.epoch), (Value.int .u64 an)] 37), blk b5 (.cells #[rv, (Value.int .u64 fo)] 30)]) (fun jx => [SlAt 3 rv82 (addS rs fo al).length ((addS rs fo al).flatMap pinE), SlAt 3 v80 al.length (al.flatMap pinE), SlAt 3 rv rs.length (rs.flatMap pinE), SlAt 3 lv al.length (al.flatMap pinE)]) rfl (by decide) rfl (fun jx => (List.Sublist.cons _ (List.Sublist.cons _ (List.Sublist.cons_cons _ (List.Sublist.cons _ (List.Sublist.cons_cons _ (List.Sublist.cons_cons _ List.Sublist.slnil))))))) (fun jx r h => h) (fun A w M => Rets.mono (hz_pin zb zm ps fo lv al (M.enterW (C := [blk zb (.cells #[(Value.map (some zm)), (Value.int .u64 fo)] 87), mapP zm ps]) (D := [fl A, blk b84 (.cells #[rv82, (Value.int .u64 fo)] 30), blk b9 (.cells #[(Value.slice none 0 0), (Value.int .u64 0)] 30), blk b7 (.cells #[(Value.int .i64 ad), lv, (Value.int .u8 ap.sort), (Value.int .u64 ap.id), (Value.int .u64 ap.epoch), (Value.int .u64 an)] 37), blk b5 (.cells #[rv, (Value.int .u64 fo)] 30)]) [5, 6, 0, 1, 2, 3, 4] rfl (by decide) ⟨(M.wideR (C := [blk zb (.cells #[(Value.map (some zm)), (Value.int .u64 fo)] 87), mapP zm ps]) (D := [fl A, blk b84 (.cells #[rv82, (Value.int .u64 fo)] 30), blk b9 (.cells #[(Value.slice none 0 0), (Value.int .u64 0)] 30), blk b7 (.cells #[(Value.int .i64 ad), lv, (Value.int .u8 ap.sort), (Value.int .u64 ap.id), (Value.int .u64 ap.epoch), (Value.int .u64 an)] 37), blk b5 (.cells #[rv, (Value.int .u64 fo)] 30)]) [5, 6, 0, 1, 2, 3, 4] rfl 3 rfl), trivial⟩)) (fun v_ w_ ⟨e_, m⟩ => ⟨(), e_, (M.leaveW (C := [blk zb (.cells #[(Value.map (some zm)), (Value.int .u64 fo)] 87), mapP zm ps]) (D := [fl A, blk b84 (.cells #[rv82, (Value.int .u64 fo)] 30), blk b9 (.cells #[(Value.slice none 0 0), (Value.int .u64 0)] 30), blk b7 (.cells #[(Value.int .i64 ad), lv, (Value.int .u8 ap.sort), (Value.int .u64 ap.id), (Value.int .u64 ap.epoch), (Value.int .u64 an)] 37), blk b5 (.cells #[rv, (Value.int .u64 fo)] 30)]) [5, 6, 0, 1, 2, 3, 4] rfl (by decide) m).sel (L' := [fl A, blk zb (.cells #[(Value.map (some zm)), (Value.int .u64 fo)] 87), mapP zm (pinS ps fo al), blk b84 (.cells #[rv82, (Value.int .u64 fo)] 30), blk b9 (.cells #[(Value.slice none 0 0), (Value.int .u64 0)] 30), blk b7 (.cells #[(Value.int .i64 ad), lv, (Value.int .u8 ap.sort), (Value.int .u64 ap.id), (Value.int .u64 ap.epoch), (Value.int .u64 an)] 37), blk b5 (.cells #[rv, (Value.int .u64 fo)] 30)]) [2, 0, 1, 3, 4, 5, 6] rfl (by decide), fun b hb => M.keptW (C := [blk zb (.cells #[(Value.map (some zm)), (Value.int .u64 fo)] 87), mapP zm ps]) (D := [fl A, blk b84 (.cells #[rv82, (Value.int .u64 fo)] 30), blk b9 (.cells #[(Value.slice none 0 0), (Value.int .u64 0)] 30), blk b7 (.cells #[(Value.int .i64 ad), lv, (Value.int .u8 ap.sort), (Value.int .u64 ap.id), (Value.int .u64 ap.epoch), (Value.int .u64 an)] 37), blk b5 (.cells #[rv, (Value.int .u64 fo)] 30)]) [5, 6, 0, 1, 2, 3, 4] rfl (by decide) m (fl A) (List.mem_cons_self ..) b hb⟩)) (fun w => CallsF.func Try.en28 rfl) (fun jx v hp hin => ?_)
          replace hp := hp.symm; subst hp
          obtain ⟨_, _, hin⟩ := hin
          clear hin
          change TW _ _ _ _ _ _ _ _ (MemA _ _ _ [blk zb (.cells #[(Value.map (some zm)), (Value.int .u64 fo)] 87), mapP zm (pinS ps fo al), blk b84 (.cells #[rv82, (Value.int .u64 fo)] 30), blk b9 (.cells #[(Value.slice none 0 0), (Value.int .u64 0)] 30), blk b7 (.cells #[(Value.int .i64 ad), lv, (Value.int .u8 ap.sort), (Value.int .u64 ap.id), (Value.int .u64 ap.epoch), (Value.int .u64 an)] 37), blk b5 (.cells #[rv, (Value.int .u64 fo)] 30)] [SlAt 3 rv82 (addS rs fo al).length ((addS rs fo al).flatMap pinE), SlAt 3 v80 al.length (al.flatMap pinE), SlAt 3 rv rs.length (rs.flatMap pinE), SlAt 3 lv al.length (al.flatMap pinE)])
          refine TW.pure (v := (Value.int .i64 (pinC rs fo al))) rfl (by decide) (by decide) rfl (fun w => (Step.move rfl)) ?_
          refine TW.pure (v := (Value.bool true)) rfl (by decide) (by decide) rfl (fun w => (Step.cast (congrArg Value.bool (show ((pinC ps fo al : Int) == (pinC rs fo al : Int)) = true by rw [pinC_perm hR.perm]; simp)) (Step.pure (by kernel_rfl)))) ?_
          refine TW.store (v := (Value.agg #[rv82, (Value.int .u64 fo)])) (cs := [rv82, (Value.int .u64 fo)]) (c' := #[rv82, (Value.int .u64 fo)]) 3 rfl rfl (by decide) rfl Try.el30.sized rfl rfl rfl rfl (Nat.le_of_ble_eq_true rfl) (cel_cons (IsSl.cel sl83) (cel_cons rfl cel_nil)) rfl rfl (List.Sublist.cons _ (List.Sublist.cons _ (List.Sublist.cons_cons _ (List.Sublist.cons _ (List.Sublist.cons_cons _ (List.Sublist.cons_cons _ List.Sublist.slnil)))))) (fun r h => h) ?_
          refine TW.pure (v := (Value.bool true)) rfl (by decide) (by decide) rfl (fun w => (Step.assign rfl)) ?_
          refine TW.done (fun w88 M => ?_)
          refine W.ret ?_
          refine ⟨.inl rfl, (Value.tuple #[(Value.agg #[rv82, (Value.int .u64 fo)]), (Value.bool true)]), ?_, ?_⟩
          · exact ⟨rfl, (Res.r2 (RV.cellN Try.ag30 rfl (M.blk 3 rfl) rfl) (show RV _ _ _ (.tmp 7) (Value.bool true) from by exact rfl))⟩
          replace M := M.rechunk 1 (c' := mapP zm (doPs ps fo (⟨ad, al, ap, an⟩ : HAct))) rfl (by simp [doPs, h12p, h30p, h43p, h57p])
          replace M : Mem _ _ _ [blk zb (.cells #[(Value.map (some zm)), (Value.int .u64 fo)] 87), mapP zm (doPs ps fo (⟨ad, al, ap, an⟩ : HAct)), blk b84 (.cells #[rv82, (Value.int .u64 fo)] 30), blk b9 (.cells #[rv82, (Value.int .u64 fo)] 30), blk b7 (.cells #[(Value.int .i64 ad), lv, (Value.int .u8 ap.sort), (Value.int .u64 ap.id), (Value.int .u64 ap.epoch), (Value.int .u64 an)] 37), blk b5 (.cells #[rv, (Value.int .u64 fo)] 30)] [SlAt 3 rv82 (addS rs fo al).length ((addS rs fo al).flatMap pinE), SlAt 3 v80 al.length (al.flatMap pinE), SlAt 3 rv rs.length (rs.flatMap pinE), SlAt 3 lv al.length (al.flatMap pinE)] _ := M
          replace M := M.rechunk 0 (c' := blk zb (.cells #[(Value.map (some zm)), (Value.int .u64 (doFl rs fo (⟨ad, al, ap, an⟩ : HAct)))] 87)) rfl (by simp [doFl, h12p, h30p, h43p, h57p])
          replace M : Mem _ _ _ [blk zb (.cells #[(Value.map (some zm)), (Value.int .u64 (doFl rs fo (⟨ad, al, ap, an⟩ : HAct)))] 87), mapP zm (doPs ps fo (⟨ad, al, ap, an⟩ : HAct)), blk b84 (.cells #[rv82, (Value.int .u64 fo)] 30), blk b9 (.cells #[rv82, (Value.int .u64 fo)] 30), blk b7 (.cells #[(Value.int .i64 ad), lv, (Value.int .u8 ap.sort), (Value.int .u64 ap.id), (Value.int .u64 ap.epoch), (Value.int .u64 an)] 37), blk b5 (.cells #[rv, (Value.int .u64 fo)] 30)] [SlAt 3 rv82 (addS rs fo al).length ((addS rs fo al).flatMap pinE), SlAt 3 v80 al.length (al.flatMap pinE), SlAt 3 rv rs.length (rs.flatMap pinE), SlAt 3 lv al.length (al.flatMap pinE)] _ := M
          have e89 : doRs rs fo (⟨ad, al, ap, an⟩ : HAct) = addS rs fo al := by
            simp [doRs, doFl, h12p, h30p, h43p, h57p]
          have hf90 := Sh.reList e89 (M.shr' 0 rfl)
          refine ⟨rv82, ?_, M.close [0, 1] rfl (by decide) ⟨hf90, trivial⟩⟩
          simp [doRs, doFl, h12p, h30p, h43p, h57p]
end Go.Proofs
