/- Walks. -/
import Derived.Test.YthihknbbibgchaaTrHorP
import Derived.Test.YthihknbbibgchaaTrAggR
import Derived.Test.YthihknbbibgchaaTrLate
import Derived.Test.YthihknbbibgchaaTrAny3
import Derived.Test.YthihknbbibgchaaChecked
set_option maxRecDepth 100000
set_option linter.all false
namespace Go.Proofs
open Go Tp
theorem Try.un23 : Und Try.prog 23 (.int .u64) := by unfold Und; kernel_rfl
theorem Try.un85 : Und Try.prog 85 (.map 96 23) := by unfold Und; kernel_rfl
theorem Try.ag96 : Aggr Try.prog 96 2 := ⟨fun _ => by kernel_rfl, fun _ => by kernel_rfl⟩
theorem Try.el23 : Elem Try.prog 23 (Value.int .u64 0) 1 8 := Elem.mk (by kernel_rfl)
theorem Try.el96 : Elem Try.prog 96 (Value.agg #[(Value.int .u8 0), (Value.int .u64 0)]) 2 16 := Elem.mk (by kernel_rfl)
theorem Try.fl96 : (Try.prog.fieldsOf 96).toList = [⟨ "sort", 5, 0, false, "", (Try.prog.fieldsOf 96)[0]!.pkgPath, 0⟩, ⟨ "id", 23, 1, false, "", (Try.prog.fieldsOf 96)[1]!.pkgPath, 8⟩] := by kernel_rfl
theorem Try.eg96 : Try.prog.eqGuardType Try.prog.depth 96 = false := by kernel_rfl
theorem Try.eq96 (d : Nat) (a0 : Int) (a1 : Int) (b0 : Int) (b1 : Int) : ∀ w, (Op.equalIn (d + 2) 96 (Value.agg #[(Value.int .u8 a0), (Value.int .u64 a1)]) (Value.agg #[(Value.int .u8 b0), (Value.int .u64 b1)])).run Try.prog w = .ok (((a0 : Int) == (b0 : Int)) && (((a1 : Int) == (b1 : Int)) && true)) w :=
  (eq_struct (by kernel_rfl) (by kernel_rfl) (Try.fl96) (eqF_cons (x := (Value.int .u8 a0)) (y := (Value.int .u8 b0)) (by decide) (fun _ => by kernel_rfl) (fun _ => by kernel_rfl) (fun w => run_equalIn_int w _ _ _ .u8 _ _ (by kernel_rfl)) (eqF_cons (x := (Value.int .u64 a1)) (y := (Value.int .u64 b1)) (by decide) (fun _ => by kernel_rfl) (fun _ => by kernel_rfl) (fun w => run_equalIn_int w _ _ _ .u64 _ _ (by kernel_rfl)) eqF_nil)))
theorem Try.sc5 : Scal Try.prog 5 := fun _ => by kernel_rfl
theorem Try.sc23 : Scal Try.prog 23 := fun _ => by kernel_rfl
theorem Try.sc85 : Scal Try.prog 85 := fun _ => by kernel_rfl
theorem Try.mixed : Try.prog.follows .mixedOrders = true := by kernel_rfl

theorem Try.mp85 : MapTP Try.prog 85 96 23 where
  und := Try.un85
  key := ⟨Try.prog.fieldsOf 96, by unfold Und; kernel_rfl⟩
  eq := fun s i s' i' w => Try.eq96 9998 s i s' i' w
  chk := fun s i em w => by kernel_rfl
  zero := Try.el23.zero

theorem hz_new {G : Nat → Prop} {w : World}    (M : Mem G (fun _ => False) w [] [] w) : Rets Try.prog 12 #[] w fun r w' => ∃ (zb' : Nat) (zm' : Nat), r = (Value.pointer (some ⟨zb', 0, none⟩)) ∧ Mem G (fun _ => False) w [blk zb' (.cells #[(Value.map (some zm')), (Value.int .u64 0)] 87), mapP zm' ([] : List PinH)] [] w' := by
  refine Rets.enter 4 _ Try.func12 rfl Try.ntmps12 Try.results12 (by simp) ?_
  refine W.seq' ?_
  refine W.region rfl ?_
  refine WL.step (v := (Value.pointer none)) rfl (Step.assign rfl) ?_
  refine WL.nil ?_
  refine W.seq' ?_
  refine W.region rfl ?_
  refine WL.new (obj := .map #[] 0) (fun b => .map (some b)) M rfl (fun w => Step.makeMap) (fun b1 w2 hb1 M => ?_)
  refine WL.step (v := (Value.agg #[(Value.map (some b1)), (Value.int .u64 0)])) rfl (Step.pure (by kernel_rfl)) ?_
  refine WL.box (v := (Value.agg #[(Value.map (some b1)), (Value.int .u64 0)])) (c := #[(Value.map (some b1)), (Value.int .u64 0)]) M rfl rfl rfl (fun b3 w4 hb3 M => ?_)
  refine WL.step (v := (Value.pointer (some ⟨b3, 0, none⟩))) rfl (Step.assign rfl) ?_
  refine WL.nil ?_
  refine W.ret ?_
  refine ⟨.inl rfl, (Value.pointer (some ⟨b3, 0, none⟩)), ?_, ?_⟩
  · exact ⟨rfl, (Res.r1 (show RV _ _ _ (.tmp 0) (Value.pointer (some ⟨b3, 0, none⟩)) from by exact rfl))⟩
  replace M := M.newP 1 rfl
  replace M : Mem _ _ _ [blk b3 (.cells #[(Value.map (some b1)), (Value.int .u64 0)] 87), mapP b1 ([] : List PinH)] [] _ := M
  refine ⟨b3, b1, ?_, M.close [0, 1] rfl (by decide) trivial⟩
  rfl

theorem hz_who {G : Nat → Prop} {w : World} (p : PinH)   (M : Mem G (fun _ => False) w [] [] w) : Rets Try.prog 54 #[(Value.agg #[(Value.int .u8 p.sort), (Value.int .u64 p.id), (Value.int .u64 p.epoch)])] w fun r w' => r = (Value.agg #[(Value.int .u8 p.sort), (Value.int .u64 p.id)]) ∧ Mem G (fun _ => False) w [] [] w' := by
  refine Rets.enter 8 _ Try.func54 rfl Try.ntmps54 Try.results54 (by simp) ?_
  refine W.seq' ?_
  refine W.region rfl ?_
  refine WL.box (v := (Value.agg #[(Value.int .u8 p.sort), (Value.int .u64 p.id), (Value.int .u64 p.epoch)])) (c := #[(Value.int .u8 p.sort), (Value.int .u64 p.id), (Value.int .u64 p.epoch)]) M rfl rfl rfl (fun b1 w2 hb1 M => ?_)
  refine WL.alloc (c := #[(Value.int .u8 0), (Value.int .u64 0)]) M rfl Try.el96.zero rfl (fun b3 w4 hb3 M => ?_)
  refine WL.nil ?_
  refine W.seq' ?_
  refine W.region rfl ?_
  refine WL.step (v := (Value.pointer (some ⟨b1, 0, none⟩))) rfl (Step.pure (by kernel_rfl)) ?_
  refine WL.step (v := (Value.int .u8 p.sort)) rfl (Step.load1 Try.sc5 rfl ((M.cell 1 rfl 0).trans rfl)) ?_
  refine WL.step (v := (Value.pointer (some ⟨b1, 1, none⟩))) rfl (Step.pure (by kernel_rfl)) ?_
  refine WL.step (v := (Value.int .u64 p.id)) rfl (Step.load1 Try.sc23 rfl ((M.cell 1 rfl 1).trans rfl)) ?_
  refine WL.step (v := (Value.agg #[(Value.int .u8 p.sort), (Value.int .u64 p.id)])) rfl (Step.pure (by kernel_rfl)) ?_
  refine WL.store (v := (Value.agg #[(Value.int .u8 p.sort), (Value.int .u64 p.id)])) (cs := [(Value.int .u8 p.sort), (Value.int .u64 p.id)]) (c' := #[(Value.int .u8 p.sort), (Value.int .u64 p.id)]) M 0 rfl rfl Try.el96.sized rfl rfl rfl rfl (Nat.le_of_ble_eq_true rfl) (cel_cons rfl (cel_cons rfl cel_nil)) rfl rfl (fun w5 M => ?_)
  refine WL.nil ?_
  refine W.ret ?_
  refine ⟨.inl rfl, (Value.agg #[(Value.int .u8 p.sort), (Value.int .u64 p.id)]), ?_, ?_⟩
  · exact ⟨rfl, (Res.r1 (RV.cellN Try.ag96 rfl (M.blk 0 rfl) rfl))⟩
  refine ⟨?_, M.close [] rfl (by decide) trivial⟩
  rfl

theorem hz_held0 {G : Nat → Prop} {w : World} (s : Int) (i : Int)   (M : Mem G (fun _ => False) w [] [] w) : Rets Try.prog 20 #[(Value.pointer none), (Value.int .u8 s), (Value.int .u64 i)] w fun r w' => r = (Value.tuple #[(Value.int .u64 0), (Value.bool false)]) ∧ Mem G (fun _ => False) w [] [] w' := by
  refine Rets.enter 25 _ Try.func20 rfl Try.ntmps20 Try.results20 (by simp) ?_
  refine W.seq' ?_
  refine W.region rfl ?_
  refine WL.step (v := (Value.int .u64 0)) rfl (Step.assign rfl) ?_
  refine WL.step (v := (Value.bool false)) rfl (Step.assign rfl) ?_
  refine WL.nil ?_
  refine W.seq' ?_
  refine W.seq' ?_
  refine W.region rfl ?_
  refine WL.step (v := (Value.pointer none)) rfl (Step.move rfl) ?_
  refine WL.step (v := (Value.bool true)) rfl (Step.pure (by kernel_rfl)) ?_
  refine WL.nil ?_
  refine W.cond (t := true) rfl (fun _ => ?_) (fun h => by cases h)
  refine W.seq' ?_
  refine W.region rfl ?_
  refine WL.step (v := (Value.int .u64 0)) rfl (Step.assign rfl) ?_
  refine WL.step (v := (Value.bool false)) rfl (Step.assign rfl) ?_
  refine WL.nil ?_
  refine W.ret ?_
  refine ⟨.inl rfl, (Value.tuple #[(Value.int .u64 0), (Value.bool false)]), ?_, ?_⟩
  · exact ⟨rfl, (Res.r2 (show RV _ _ _ (.tmp 6) (Value.int .u64 0) from by exact rfl) (show RV _ _ _ (.tmp 7) (Value.bool false) from by exact rfl))⟩
  refine ⟨?_, M.close [] rfl (by decide) trivial⟩
  rfl

theorem hz_held {G X : Nat → Prop} {w : World} (zb : Nat) (zm : Nat) (ps : List PinH) (fo : Int) (s : Int) (i : Int)   (M : Mem G X w [blk zb (.cells #[(Value.map (some zm)), (Value.int .u64 fo)] 87), mapP zm ps] [] w) : Rets Try.prog 20 #[(Value.pointer (some ⟨zb, 0, none⟩)), (Value.int .u8 s), (Value.int .u64 i)] w fun r w' => r = (Value.tuple #[(Value.int .u64 ((heldV s i ps).1)), (Value.bool ((heldV s i ps).2))]) ∧ Mem G X w [blk zb (.cells #[(Value.map (some zm)), (Value.int .u64 fo)] 87), mapP zm ps] [] w' := by
  refine Rets.enter 25 _ Try.func20 rfl Try.ntmps20 Try.results20 (by simp) ?_
  refine W.seq' ?_
  refine W.region rfl ?_
  refine WL.step (v := (Value.int .u64 0)) rfl (Step.assign rfl) ?_
  refine WL.step (v := (Value.bool false)) rfl (Step.assign rfl) ?_
  refine WL.nil ?_
  refine W.seq' ?_
  refine W.seq' ?_
  refine W.region rfl ?_
  refine WL.step (v := (Value.pointer (some ⟨zb, 0, none⟩))) rfl (Step.move rfl) ?_
  refine WL.step (v := (Value.bool false)) rfl (Step.pure (by kernel_rfl)) ?_
  refine WL.nil ?_
  refine W.cond (t := false) rfl (fun h => by cases h) (fun _ => ?_)
  refine W.skip ?_
  refine W.seq' ?_
  refine W.region rfl ?_
  refine WL.step (v := (Value.pointer (some ⟨zb, 0, none⟩))) rfl (Step.move rfl) ?_
  refine WL.step (v := (Value.pointer (some ⟨zb, 0, none⟩))) rfl (Step.pure (by kernel_rfl)) ?_
  refine WL.step (v := (Value.pointer (some ⟨zb, 0, none⟩))) rfl (Step.pure (by kernel_rfl)) ?_
  refine WL.step (v := (Value.map (some zm))) rfl (Step.load1 Try.sc85 rfl ((M.cell 0 rfl 0).trans rfl)) ?_
  refine WL.step (v := (Value.int .u8 s)) rfl (Step.move rfl) ?_
  refine WL.step (v := (Value.int .u64 i)) rfl (Step.move rfl) ?_
  refine WL.step (v := (Value.agg #[(Value.int .u8 s), (Value.int .u64 i)])) rfl (Step.pure (by kernel_rfl)) ?_
  refine WL.step (v := (Value.tuple #[(Value.int .u64 ((heldV s i ps).1)), (Value.bool ((heldV s i ps).2))])) rfl (Mem.lookupP M 1 rfl Try.mp85 rfl rfl) ?_
  refine WL.step (v := (Value.tuple #[(Value.int .u64 ((heldV s i ps).1)), (Value.bool ((heldV s i ps).2))])) rfl (Step.move rfl) ?_
  refine WL.step (v := (Value.int .u64 ((heldV s i ps).1))) rfl (Step.pure (by kernel_rfl)) ?_
  refine WL.step (v := (Value.bool ((heldV s i ps).2))) rfl (Step.pure (by kernel_rfl)) ?_
  refine WL.step (v := (Value.int .u64 ((heldV s i ps).1))) rfl (Step.assign rfl) ?_
  refine WL.step (v := (Value.bool ((heldV s i ps).2))) rfl (Step.assign rfl) ?_
  refine WL.nil ?_
  refine W.seq' ?_
  refine W.region rfl ?_
  refine WL.step (v := (Value.int .u64 ((heldV s i ps).1))) rfl (Step.move rfl) ?_
  refine WL.step (v := (Value.bool ((heldV s i ps).2))) rfl (Step.move rfl) ?_
  refine WL.step (v := (Value.int .u64 ((heldV s i ps).1))) rfl (Step.assign rfl) ?_
  refine WL.step (v := (Value.bool ((heldV s i ps).2))) rfl (Step.assign rfl) ?_
  refine WL.nil ?_
  refine W.ret ?_
  refine ⟨.inl rfl, (Value.tuple #[(Value.int .u64 ((heldV s i ps).1)), (Value.bool ((heldV s i ps).2))]), ?_, ?_⟩
  · exact ⟨rfl, (Res.r2 (show RV _ _ _ (.tmp 6) (Value.int .u64 ((heldV s i ps).1)) from by exact rfl) (show RV _ _ _ (.tmp 7) (Value.bool ((heldV s i ps).2)) from by exact rfl))⟩
  refine ⟨?_, M.close [0, 1] rfl (by decide) trivial⟩
  rfl

theorem hz_floor0 {G : Nat → Prop} {w : World}    (M : Mem G (fun _ => False) w [] [] w) : Rets Try.prog 17 #[(Value.pointer none)] w fun r w' => r = (Value.int .u64 0) ∧ Mem G (fun _ => False) w [] [] w' := by
  refine Rets.enter 9 _ Try.func17 rfl Try.ntmps17 Try.results17 (by simp) ?_
  refine W.seq' ?_
  refine W.region rfl ?_
  refine WL.step (v := (Value.int .u64 0)) rfl (Step.assign rfl) ?_
  refine WL.nil ?_
  refine W.seq' ?_
  refine W.seq' ?_
  refine W.region rfl ?_
  refine WL.step (v := (Value.pointer none)) rfl (Step.move rfl) ?_
  refine WL.step (v := (Value.bool true)) rfl (Step.pure (by kernel_rfl)) ?_
  refine WL.nil ?_
  refine W.cond (t := true) rfl (fun _ => ?_) (fun h => by cases h)
  refine W.seq' ?_
  refine W.region rfl ?_
  refine WL.step (v := (Value.int .u64 0)) rfl (Step.assign rfl) ?_
  refine WL.nil ?_
  refine W.ret ?_
  refine ⟨.inl rfl, (Value.int .u64 0), ?_, ?_⟩
  · exact ⟨rfl, (Res.r1 (show RV _ _ _ (.tmp 2) (Value.int .u64 0) from by exact rfl))⟩
  refine ⟨?_, M.close [] rfl (by decide) trivial⟩
  rfl

theorem hz_floor {G X : Nat → Prop} {w : World} (zb : Nat) (zm : Nat) (ps : List PinH) (fo : Int)   (M : Mem G X w [blk zb (.cells #[(Value.map (some zm)), (Value.int .u64 fo)] 87), mapP zm ps] [] w) : Rets Try.prog 17 #[(Value.pointer (some ⟨zb, 0, none⟩))] w fun r w' => r = (Value.int .u64 fo) ∧ Mem G X w [blk zb (.cells #[(Value.map (some zm)), (Value.int .u64 fo)] 87), mapP zm ps] [] w' := by
  refine Rets.enter 9 _ Try.func17 rfl Try.ntmps17 Try.results17 (by simp) ?_
  refine W.seq' ?_
  refine W.region rfl ?_
  refine WL.step (v := (Value.int .u64 0)) rfl (Step.assign rfl) ?_
  refine WL.nil ?_
  refine W.seq' ?_
  refine W.seq' ?_
  refine W.region rfl ?_
  refine WL.step (v := (Value.pointer (some ⟨zb, 0, none⟩))) rfl (Step.move rfl) ?_
  refine WL.step (v := (Value.bool false)) rfl (Step.pure (by kernel_rfl)) ?_
  refine WL.nil ?_
  refine W.cond (t := false) rfl (fun h => by cases h) (fun _ => ?_)
  refine W.skip ?_
  refine W.seq' ?_
  refine W.region rfl ?_
  refine WL.step (v := (Value.pointer (some ⟨zb, 0, none⟩))) rfl (Step.move rfl) ?_
  refine WL.step (v := (Value.pointer (some ⟨zb, 0, none⟩))) rfl (Step.pure (by kernel_rfl)) ?_
  refine WL.step (v := (Value.pointer (some ⟨zb, 1, none⟩))) rfl (Step.pure (by kernel_rfl)) ?_
  refine WL.step (v := (Value.int .u64 fo)) rfl (Step.load1 Try.sc23 rfl ((M.cell 0 rfl 1).trans rfl)) ?_
  refine WL.step (v := (Value.int .u64 fo)) rfl (Step.assign rfl) ?_
  refine WL.nil ?_
  refine W.ret ?_
  refine ⟨.inl rfl, (Value.int .u64 fo), ?_, ?_⟩
  · exact ⟨rfl, (Res.r1 (show RV _ _ _ (.tmp 2) (Value.int .u64 fo) from by exact rfl))⟩
  refine ⟨?_, M.close [0, 1] rfl (by decide) trivial⟩
  rfl

theorem hz_read0 {G : Nat → Prop} {w : World} (at_ : Int) (now : Int)   (M : Mem G (fun _ => False) w [] [] w) : Rets Try.prog 22 #[(Value.pointer none), (Value.int .u64 at_), (Value.int .u64 now)] w fun r w' => r = (Value.tuple #[(Value.int .u64 0), (Value.int .i64 1)]) ∧ Mem G (fun _ => False) w [] [] w' := by
  refine Rets.enter 25 _ Try.func22 rfl Try.ntmps22 Try.results22 (by simp) ?_
  refine W.seq' ?_
  refine W.region rfl ?_
  refine WL.step (v := (Value.int .u64 0)) rfl (Step.assign rfl) ?_
  refine WL.step (v := (Value.int .i64 0)) rfl (Step.assign rfl) ?_
  refine WL.nil ?_
  refine W.seq' ?_
  refine W.seq' ?_
  refine W.region rfl ?_
  refine WL.step (v := (Value.pointer none)) rfl (Step.move rfl) ?_
  refine WL.step (v := (Value.bool true)) rfl (Step.pure (by kernel_rfl)) ?_
  refine WL.nil ?_
  refine W.cond (t := true) rfl (fun _ => ?_) (fun h => by cases h)
  refine W.seq' ?_
  refine W.region rfl ?_
  refine WL.step (v := (Value.int .u64 0)) rfl (Step.assign rfl) ?_
  refine WL.step (v := (Value.int .i64 1)) rfl (Step.assign rfl) ?_
  refine WL.nil ?_
  refine W.ret ?_
  refine ⟨.inl rfl, (Value.tuple #[(Value.int .u64 0), (Value.int .i64 1)]), ?_, ?_⟩
  · exact ⟨rfl, (Res.r2 (show RV _ _ _ (.tmp 6) (Value.int .u64 0) from by exact rfl) (show RV _ _ _ (.tmp 7) (Value.int .i64 1) from by exact rfl))⟩
  refine ⟨?_, M.close [] rfl (by decide) trivial⟩
  rfl

theorem hz_read {G X : Nat → Prop} {w : World} (zb : Nat) (zm : Nat) (ps : List PinH) (fo : Int) (at_ : Int) (now : Int)   (M : Mem G X w [blk zb (.cells #[(Value.map (some zm)), (Value.int .u64 fo)] 87), mapP zm ps] [] w) : Rets Try.prog 22 #[(Value.pointer (some ⟨zb, 0, none⟩)), (Value.int .u64 at_), (Value.int .u64 now)] w fun r w' => r = (Value.tuple #[(Value.int .u64 ((readV fo at_ now).1)), (Value.int .i64 ((readV fo at_ now).2))]) ∧ Mem G X w [blk zb (.cells #[(Value.map (some zm)), (Value.int .u64 fo)] 87), mapP zm ps] [] w' := by
  refine Rets.enter 25 _ Try.func22 rfl Try.ntmps22 Try.results22 (by simp) ?_
  refine W.seq' ?_
  refine W.region rfl ?_
  refine WL.step (v := (Value.int .u64 0)) rfl (Step.assign rfl) ?_
  refine WL.step (v := (Value.int .i64 0)) rfl (Step.assign rfl) ?_
  refine WL.nil ?_
  refine W.seq' ?_
  refine W.seq' ?_
  refine W.region rfl ?_
  refine WL.step (v := (Value.pointer (some ⟨zb, 0, none⟩))) rfl (Step.move rfl) ?_
  refine WL.step (v := (Value.bool false)) rfl (Step.pure (by kernel_rfl)) ?_
  refine WL.nil ?_
  refine W.cond (t := false) rfl (fun h => by cases h) (fun _ => ?_)
  refine W.skip ?_
  refine W.seq' ?_
  refine W.seq' ?_
  refine W.region rfl ?_
  refine WL.step (v := (Value.int .u64 at_)) rfl (Step.move rfl) ?_
  refine WL.step (v := (Value.bool ((at_ : Int) == (0 : Int)))) rfl (Step.pure (by kernel_rfl)) ?_
  refine WL.nil ?_
  refine W.cond (t := (at_ : Int) == (0 : Int)) rfl (fun h1 => ?_) (fun h1 => ?_)
  ·
    have h1p : (at_ : Int) = (0 : Int) := by simpa using h1
    refine W.region rfl ?_
    refine WL.step (v := (Value.int .u64 now)) rfl (Step.move rfl) ?_
    refine WL.step (v := (Value.int .u64 now)) rfl (Step.assign rfl) ?_
    refine WL.nil ?_
    refine W.seq' ?_
    refine W.block ?_
    refine W.seq' ?_
    refine W.region rfl ?_
    refine WL.step (v := (Value.int .u64 now)) rfl (Step.move rfl) ?_
    refine WL.step (v := (Value.int .u64 now)) rfl (Step.move rfl) ?_
    refine WL.step (v := (Value.bool (decide ((now : Int) > (now : Int))))) rfl (Step.pure (by kernel_rfl)) ?_
    refine WL.step (v := (Value.bool (decide ((now : Int) > (now : Int))))) rfl (Step.assign rfl) ?_
    refine WL.nil ?_
    refine W.cond (t := decide ((now : Int) > (now : Int))) rfl (fun h2 => ?_) (fun h2 => ?_)
    ·
      have h2p := of_decide_eq_true h2
      refine W.seq' ?_
      refine W.region rfl ?_
      refine WL.step (v := (Value.int .u64 0)) rfl (Step.assign rfl) ?_
      refine WL.step (v := (Value.int .i64 231)) rfl (Step.assign rfl) ?_
      refine WL.nil ?_
      refine W.ret ?_
      refine ⟨.inl rfl, (Value.tuple #[(Value.int .u64 0), (Value.int .i64 231)]), ?_, ?_⟩
      · exact ⟨rfl, (Res.r2 (show RV _ _ _ (.tmp 6) (Value.int .u64 0) from by exact rfl) (show RV _ _ _ (.tmp 7) (Value.int .i64 231) from by exact rfl))⟩
      refine ⟨?_, M.close [0, 1] rfl (by decide) trivial⟩
      unfold readV
      first | rfl | (simp [h1p, h2p]; done) | ((repeat split) <;> first | rfl | omega | simp_all | (exfalso; omega))
    ·
      have h2p := of_decide_eq_false h2
      refine W.seq' ?_
      refine W.region rfl ?_
      refine WL.step (v := (Value.int .u64 now)) rfl (Step.move rfl) ?_
      refine WL.step (v := (Value.pointer (some ⟨zb, 0, none⟩))) rfl (Step.move rfl) ?_
      refine WL.step (v := (Value.pointer (some ⟨zb, 0, none⟩))) rfl (Step.pure (by kernel_rfl)) ?_
      refine WL.step (v := (Value.pointer (some ⟨zb, 1, none⟩))) rfl (Step.pure (by kernel_rfl)) ?_
      refine WL.step (v := (Value.int .u64 fo)) rfl (Step.load1 Try.sc23 rfl ((M.cell 0 rfl 1).trans rfl)) ?_
      refine WL.step (v := (Value.bool (decide ((now : Int) < (fo : Int))))) rfl (Step.pure (by kernel_rfl)) ?_
      refine WL.step (v := (Value.bool (decide ((now : Int) < (fo : Int))))) rfl (Step.assign rfl) ?_
      refine WL.nil ?_
      refine W.cond (t := decide ((now : Int) < (fo : Int))) rfl (fun h3 => ?_) (fun h3 => ?_)
      ·
        have h3p := of_decide_eq_true h3
        refine W.seq' ?_
        refine W.region rfl ?_
        refine WL.step (v := (Value.int .u64 0)) rfl (Step.assign rfl) ?_
        refine WL.step (v := (Value.int .i64 230)) rfl (Step.assign rfl) ?_
        refine WL.nil ?_
        refine W.ret ?_
        refine ⟨.inl rfl, (Value.tuple #[(Value.int .u64 0), (Value.int .i64 230)]), ?_, ?_⟩
        · exact ⟨rfl, (Res.r2 (show RV _ _ _ (.tmp 6) (Value.int .u64 0) from by exact rfl) (show RV _ _ _ (.tmp 7) (Value.int .i64 230) from by exact rfl))⟩
        refine ⟨?_, M.close [0, 1] rfl (by decide) trivial⟩
        unfold readV
        first | rfl | (simp [h1p, h2p, h3p]; done) | ((repeat split) <;> first | rfl | omega | simp_all | (exfalso; omega))
      ·
        have h3p := of_decide_eq_false h3
        refine W.skip ?_
        refine W.seq' ?_
        refine W.region rfl ?_
        refine WL.step (v := (Value.int .u64 now)) rfl (Step.move rfl) ?_
        refine WL.step (v := (Value.int .u64 now)) rfl (Step.assign rfl) ?_
        refine WL.step (v := (Value.int .i64 0)) rfl (Step.assign rfl) ?_
        refine WL.nil ?_
        refine W.ret ?_
        refine ⟨.inl rfl, (Value.tuple #[(Value.int .u64 now), (Value.int .i64 0)]), ?_, ?_⟩
        · exact ⟨rfl, (Res.r2 (show RV _ _ _ (.tmp 6) (Value.int .u64 now) from by exact rfl) (show RV _ _ _ (.tmp 7) (Value.int .i64 0) from by exact rfl))⟩
        refine ⟨?_, M.close [0, 1] rfl (by decide) trivial⟩
        unfold readV
        first | rfl | (simp [h1p, h2p, h3p]; done) | ((repeat split) <;> first | rfl | omega | simp_all | (exfalso; omega))
  ·
    have h1p : ¬ (at_ : Int) = (0 : Int) := by simpa using h1
    refine W.skip ?_
    refine W.seq' ?_
    refine W.block ?_
    refine W.seq' ?_
    refine W.region rfl ?_
    refine WL.step (v := (Value.int .u64 at_)) rfl (Step.move rfl) ?_
    refine WL.step (v := (Value.int .u64 now)) rfl (Step.move rfl) ?_
    refine WL.step (v := (Value.bool (decide ((at_ : Int) > (now : Int))))) rfl (Step.pure (by kernel_rfl)) ?_
    refine WL.step (v := (Value.bool (decide ((at_ : Int) > (now : Int))))) rfl (Step.assign rfl) ?_
    refine WL.nil ?_
    refine W.cond (t := decide ((at_ : Int) > (now : Int))) rfl (fun h4 => ?_) (fun h4 => ?_)
    ·
      have h4p := of_decide_eq_true h4
      refine W.seq' ?_
      refine W.region rfl ?_
      refine WL.step (v := (Value.int .u64 0)) rfl (Step.assign rfl) ?_
      refine WL.step (v := (Value.int .i64 231)) rfl (Step.assign rfl) ?_
      refine WL.nil ?_
      refine W.ret ?_
      refine ⟨.inl rfl, (Value.tuple #[(Value.int .u64 0), (Value.int .i64 231)]), ?_, ?_⟩
      · exact ⟨rfl, (Res.r2 (show RV _ _ _ (.tmp 6) (Value.int .u64 0) from by exact rfl) (show RV _ _ _ (.tmp 7) (Value.int .i64 231) from by exact rfl))⟩
      refine ⟨?_, M.close [0, 1] rfl (by decide) trivial⟩
      unfold readV
      first | rfl | (simp [h1p, h4p]; done) | ((repeat split) <;> first | rfl | omega | simp_all | (exfalso; omega))
    ·
      have h4p := of_decide_eq_false h4
      refine W.seq' ?_
      refine W.region rfl ?_
      refine WL.step (v := (Value.int .u64 at_)) rfl (Step.move rfl) ?_
      refine WL.step (v := (Value.pointer (some ⟨zb, 0, none⟩))) rfl (Step.move rfl) ?_
      refine WL.step (v := (Value.pointer (some ⟨zb, 0, none⟩))) rfl (Step.pure (by kernel_rfl)) ?_
      refine WL.step (v := (Value.pointer (some ⟨zb, 1, none⟩))) rfl (Step.pure (by kernel_rfl)) ?_
      refine WL.step (v := (Value.int .u64 fo)) rfl (Step.load1 Try.sc23 rfl ((M.cell 0 rfl 1).trans rfl)) ?_
      refine WL.step (v := (Value.bool (decide ((at_ : Int) < (fo : Int))))) rfl (Step.pure (by kernel_rfl)) ?_
      refine WL.step (v := (Value.bool (decide ((at_ : Int) < (fo : Int))))) rfl (Step.assign rfl) ?_
      refine WL.nil ?_
      refine W.cond (t := decide ((at_ : Int) < (fo : Int))) rfl (fun h5 => ?_) (fun h5 => ?_)
      ·
        have h5p := of_decide_eq_true h5
        refine W.seq' ?_
        refine W.region rfl ?_
        refine WL.step (v := (Value.int .u64 0)) rfl (Step.assign rfl) ?_
        refine WL.step (v := (Value.int .i64 230)) rfl (Step.assign rfl) ?_
        refine WL.nil ?_
        refine W.ret ?_
        refine ⟨.inl rfl, (Value.tuple #[(Value.int .u64 0), (Value.int .i64 230)]), ?_, ?_⟩
        · exact ⟨rfl, (Res.r2 (show RV _ _ _ (.tmp 6) (Value.int .u64 0) from by exact rfl) (show RV _ _ _ (.tmp 7) (Value.int .i64 230) from by exact rfl))⟩
        refine ⟨?_, M.close [0, 1] rfl (by decide) trivial⟩
        unfold readV
        first | rfl | (simp [h1p, h4p, h5p]; done) | ((repeat split) <;> first | rfl | omega | simp_all | (exfalso; omega))
      ·
        have h5p := of_decide_eq_false h5
        refine W.skip ?_
        refine W.seq' ?_
        refine W.region rfl ?_
        refine WL.step (v := (Value.int .u64 at_)) rfl (Step.move rfl) ?_
        refine WL.step (v := (Value.int .u64 at_)) rfl (Step.assign rfl) ?_
        refine WL.step (v := (Value.int .i64 0)) rfl (Step.assign rfl) ?_
        refine WL.nil ?_
        refine W.ret ?_
        refine ⟨.inl rfl, (Value.tuple #[(Value.int .u64 at_), (Value.int .i64 0)]), ?_, ?_⟩
        · exact ⟨rfl, (Res.r2 (show RV _ _ _ (.tmp 6) (Value.int .u64 at_) from by exact rfl) (show RV _ _ _ (.tmp 7) (Value.int .i64 0) from by exact rfl))⟩
        refine ⟨?_, M.close [0, 1] rfl (by decide) trivial⟩
        unfold readV
        first | rfl | (simp [h1p, h4p, h5p]; done) | ((repeat split) <;> first | rfl | omega | simp_all | (exfalso; omega))
end Go.Proofs
