/- Walks. -/
import Derived.Test.YtdaafologmjeeaaTpW2
import Derived.Test.YtdaafologmjeeaaTpLaw11
set_option maxRecDepth 100000
set_option linter.all false
namespace Go.Proofs
open Go Tp
theorem Try.un45 : Und Try.prog 45 (.slice 93) := by unfold Und; kernel_rfl
theorem Try.ag47 : Aggr Try.prog 47 1 := ⟨fun _ => by kernel_rfl, fun _ => by kernel_rfl⟩
theorem Try.ag93 : Aggr Try.prog 93 6 := ⟨fun _ => by kernel_rfl, fun _ => by kernel_rfl⟩
theorem Try.el45 : Elem Try.prog 45 (Value.slice none 0 0) 1 24 := Elem.mk (by kernel_rfl)
theorem Try.el47 : Elem Try.prog 47 (Value.agg #[(Value.slice none 0 0)]) 1 24 := Elem.mk (by kernel_rfl)
theorem Try.el93 : Elem Try.prog 93 (Value.agg #[(Value.bool false), (Value.int .i64 0), (Value.bool false), (Value.slice none 0 0), (Value.slice none 0 0), (Value.slice none 0 0)]) 6 96 := Elem.mk (by kernel_rfl)
theorem Try.fl61 : (Try.prog.fieldsOf 61).toList = [⟨ "At", 3, 0, false, "", "", 0⟩, ⟨ "Turn", 3, 1, false, "", "", 8⟩] := by kernel_rfl
theorem Try.eg61 : Try.prog.eqGuardType Try.prog.depth 61 = false := by kernel_rfl
theorem Try.eq61 (d : Nat) (a0 : Int) (a1 : Int) (b0 : Int) (b1 : Int) : ∀ w, (Op.equalIn (d + 2) 61 (Value.agg #[(Value.int .i64 a0), (Value.int .i64 a1)]) (Value.agg #[(Value.int .i64 b0), (Value.int .i64 b1)])).run Try.prog w = .ok (((a0 : Int) == (b0 : Int)) && (((a1 : Int) == (b1 : Int)) && true)) w :=
  (eq_struct (by kernel_rfl) (by kernel_rfl) (Try.fl61) (eqF_cons (x := (Value.int .i64 a0)) (y := (Value.int .i64 b0)) (by decide) (fun _ => by kernel_rfl) (fun _ => by kernel_rfl) (fun w => run_equalIn_int w _ _ _ .i64 _ _ (by kernel_rfl)) (eqF_cons (x := (Value.int .i64 a1)) (y := (Value.int .i64 b1)) (by decide) (fun _ => by kernel_rfl) (fun _ => by kernel_rfl) (fun w => run_equalIn_int w _ _ _ .i64 _ _ (by kernel_rfl)) eqF_nil)))
theorem Try.sc45 : Scal Try.prog 45 := fun _ => by kernel_rfl
theorem Try.sc56 : Scal Try.prog 56 := fun _ => by kernel_rfl

theorem ref_has {G : Nat → Prop} {w : World} (v : Value) (xs : List RPlace) (h : Handle)  (M : Mem G (fun _ => False) w [] [RepS RPlaceT v xs] w) : Rets Try.prog 25 #[(Value.agg #[v]), (Value.agg #[(Value.int .i64 h.at_), (Value.int .i64 h.turn)])] w fun r w' => r = (Value.bool (rhas xs h)) ∧ Mem G (fun _ => False) w [] [] w' := by
  refine Rets.enter 37 _ Try.func25 rfl Try.ntmps25 Try.results25 (by simp) ?_
  have hle1 := RepS.le' (M.rep 0 rfl)
  have sl2 : IsSl v := RepS.isSl (Mem.rep M 0 rfl)
  obtain ⟨cs3, M⟩ := M.openS 0 rfl
  refine W.seq' ?_
  refine W.region rfl ?_
  refine WL.box (v := (Value.agg #[v])) (c := #[v]) M rfl rfl rfl (fun b4 w5 hb4 M => ?_)
  refine WL.box (v := (Value.agg #[(Value.int .i64 h.at_), (Value.int .i64 h.turn)])) (c := #[(Value.int .i64 h.at_), (Value.int .i64 h.turn)]) M rfl rfl rfl (fun b6 w7 hb6 M => ?_)
  refine WL.step (v := (Value.bool false)) rfl (Step.assign rfl) ?_
  refine WL.nil ?_
  refine W.seq' ?_
  rcases Bool.eq_false_or_eq_true (decide ((h.at_ : Int) ≥ (0 : Int))) with h8 | h8
  ·
    have h8p := of_decide_eq_true h8
    rcases Bool.eq_false_or_eq_true (decide ((h.at_ : Int) < (↑xs.length : Int))) with h9 | h9
    ·
      have h9p := of_decide_eq_true h9
      obtain ⟨cap11, hb10⟩ := SlAt.base (M.rep 0 rfl) (by omega)
      obtain ⟨p12, hp12⟩ := elem_of_lt (xs := xs) (i := h.at_.toNat) (by omega)
      obtain ⟨kv13, dv14, vv15, M⟩ := rplace_open M 0 1 rfl rfl rfl hp12
      have sl16 : IsSl kv13 := SlAt.isSl (Mem.rep M 1 rfl)
      have sl17 : IsSl dv14 := SlAt.isSl (Mem.rep M 2 rfl)
      have sl18 : IsSl vv15 := SlAt.isSl (Mem.rep M 3 rfl)
      rcases Bool.eq_false_or_eq_true (p12.used) with h19 | h19
      ·
        refine W.drawn M [0, 1, 2, 3, 4, 5, 6, 7, 8, 9, 10, 11, 12, 13, 14, 15, 16, 17, 18, 19, 20, 21, 22, 23, 24, 25, 26, 27, 28, 29, 30, 31, 32] [] [] [blk b6 (.cells #[(Value.int .i64 h.at_), (Value.int .i64 h.turn)] 61), blk b4 (.cells #[v] 47)] [EC v 6 h.at_.toNat [(Value.bool p12.used), (Value.int .i64 p12.turn), (Value.bool p12.node.leaf), kv13, dv14, vv15], SlAt 1 kv13 p12.node.keys.length (p12.node.keys.flatMap strE), SlAt 2 dv14 p12.node.kids.length (p12.node.kids.flatMap handleE), SlAt 1 vv15 p12.node.vals.length (p12.node.vals.flatMap intE), SlAt 6 v xs.length cs3, RepL RPlaceT cs3 xs, RepS RPlaceT v xs] (List.Sublist.cons_cons _ (List.Sublist.cons_cons _ List.Sublist.slnil)) (fun _ h => h) Try.mixed (by kernel_rfl) ?_
        refine TW.pure (v := (Value.pointer (some ⟨b6, 0, none⟩))) rfl (by decide) (by decide) rfl (fun w => (Step.pure (by kernel_rfl))) ?_
        refine TW.read (v := (Value.int .i64 h.at_)) rfl (by decide) (by decide) rfl (fun A w M => (Step.load1 Try.sc3 rfl ((M.cell 1 rfl 0).trans rfl))) ?_
        refine TW.pure (v := (Value.bool true)) rfl (by decide) (by decide) rfl (fun w => (Step.cast (congrArg Value.bool h8) (Step.pure (by kernel_rfl)))) ?_
        refine TW.pure (v := (Value.bool true)) rfl (by decide) (by decide) rfl (fun w => (Step.move rfl)) ?_
        refine TW.pure (v := (Value.pointer (some ⟨b6, 0, none⟩))) rfl (by decide) (by decide) rfl (fun w => (Step.pure (by kernel_rfl))) ?_
        refine TW.read (v := (Value.int .i64 h.at_)) rfl (by decide) (by decide) rfl (fun A w M => (Step.load1 Try.sc3 rfl ((M.cell 1 rfl 0).trans rfl))) ?_
        refine TW.pure (v := (Value.pointer (some ⟨b4, 0, none⟩))) rfl (by decide) (by decide) rfl (fun w => (Step.pure (by kernel_rfl))) ?_
        refine TW.read (v := v) rfl (by decide) (by decide) rfl (fun A w M => (Step.load1 Try.sc45 rfl ((M.cell 2 rfl 0).trans rfl))) ?_
        refine TW.read (v := (Value.int .i64 ↑xs.length)) rfl (by decide) (by decide) rfl (fun A w M => (Step.lenSl Try.un45 rfl (M.rep 4 rfl))) ?_
        refine TW.pure (v := (Value.bool true)) rfl (by decide) (by decide) rfl (fun w => (Step.cast (congrArg Value.bool h9) (Step.pure (by kernel_rfl)))) ?_
        refine TW.pure (v := (Value.bool true)) rfl (by decide) (by decide) rfl (fun w => (Step.pick (t := true) rfl rfl)) ?_
        refine TW.pure (v := (Value.bool true)) rfl (by decide) (by decide) rfl (fun w => (Step.move rfl)) ?_
        refine TW.pure (v := (Value.pointer (some ⟨b4, 0, none⟩))) rfl (by decide) (by decide) rfl (fun w => (Step.pure (by kernel_rfl))) ?_
        refine TW.read (v := v) rfl (by decide) (by decide) rfl (fun A w M => (Step.load1 Try.sc45 rfl ((M.cell 2 rfl 0).trans rfl))) ?_
        refine TW.pure (v := (Value.pointer (some ⟨b6, 0, none⟩))) rfl (by decide) (by decide) rfl (fun w => (Step.pure (by kernel_rfl))) ?_
        refine TW.read (v := (Value.int .i64 h.at_)) rfl (by decide) (by decide) rfl (fun A w M => (Step.load1 Try.sc3 rfl ((M.cell 1 rfl 0).trans rfl))) ?_
        refine TW.pure (v := (Value.pointer (some ⟨(sBlk v), sOff v + h.at_.toNat * 6, none⟩))) rfl (by decide) (by decide) rfl (fun w => (Step.indexAddr (i := h.at_.toNat) (Try.un45).run Try.el93.sized rfl rfl (by omega) hb10 (by omega))) ?_
        refine TW.pure (v := (Value.pointer (some ⟨(sBlk v), sOff v + h.at_.toNat * 6, none⟩))) rfl (by decide) (by decide) rfl (fun w => (Step.pure (by kernel_rfl))) ?_
        refine TW.read (v := (Value.bool true)) rfl (by decide) (by decide) rfl (fun A w M => (Step.cast (congrArg Value.bool h19) (Step.loadE (k := 0) Try.sc4 (M.rep 0 rfl : EC _ _ _ _ _) (by decide) rfl rfl))) ?_
        refine TW.pure (v := (Value.bool true)) rfl (by decide) (by decide) rfl (fun w => (Step.pick (t := true) rfl rfl)) ?_
        refine TW.pure (v := (Value.bool true)) rfl (by decide) (by decide) rfl (fun w => (Step.move rfl)) ?_
        refine TW.pure (v := (Value.pointer (some ⟨b4, 0, none⟩))) rfl (by decide) (by decide) rfl (fun w => (Step.pure (by kernel_rfl))) ?_
        refine TW.read (v := v) rfl (by decide) (by decide) rfl (fun A w M => (Step.load1 Try.sc45 rfl ((M.cell 2 rfl 0).trans rfl))) ?_
        refine TW.pure (v := (Value.pointer (some ⟨b6, 0, none⟩))) rfl (by decide) (by decide) rfl (fun w => (Step.pure (by kernel_rfl))) ?_
        refine TW.read (v := (Value.int .i64 h.at_)) rfl (by decide) (by decide) rfl (fun A w M => (Step.load1 Try.sc3 rfl ((M.cell 1 rfl 0).trans rfl))) ?_
        refine TW.pure (v := (Value.pointer (some ⟨(sBlk v), sOff v + h.at_.toNat * 6, none⟩))) rfl (by decide) (by decide) rfl (fun w => (Step.indexAddr (i := h.at_.toNat) (Try.un45).run Try.el93.sized rfl rfl (by omega) hb10 (by omega))) ?_
        refine TW.pure (v := (Value.pointer (some ⟨(sBlk v), sOff v + h.at_.toNat * 6 + 1, none⟩))) rfl (by decide) (by decide) rfl (fun w => (Step.pure (by kernel_rfl))) ?_
        refine TW.read (v := (Value.int .i64 p12.turn)) rfl (by decide) (by decide) rfl (fun A w M => (Step.loadE (k := 1) Try.sc3 (M.rep 0 rfl : EC _ _ _ _ _) (by decide) rfl rfl)) ?_
        refine TW.pure (v := (Value.pointer (some ⟨b6, 1, none⟩))) rfl (by decide) (by decide) rfl (fun w => (Step.pure (by kernel_rfl))) ?_
        refine TW.read (v := (Value.int .i64 h.turn)) rfl (by decide) (by decide) rfl (fun A w M => (Step.load1 Try.sc3 rfl ((M.cell 1 rfl 1).trans rfl))) ?_
        refine TW.pure (v := (Value.bool ((p12.turn : Int) == (h.turn : Int)))) rfl (by decide) (by decide) rfl (fun w => (Step.pure (by kernel_rfl))) ?_
        refine TW.pure (v := (Value.bool ((p12.turn : Int) == (h.turn : Int)))) rfl (by decide) (by decide) rfl (fun w => (Step.pick (t := true) rfl rfl)) ?_
        refine TW.pure (v := (Value.bool ((p12.turn : Int) == (h.turn : Int)))) rfl (by decide) (by decide) rfl (fun w => (Step.assign rfl)) ?_
        refine TW.done (fun w20 M => ?_)
        refine W.ret ?_
        refine ⟨.inl rfl, (Value.bool ((p12.turn : Int) == (h.turn : Int))), ?_, ?_⟩
        · exact (Res.r1 (show RV _ _ _ (.tmp 4) (Value.bool ((p12.turn : Int) == (h.turn : Int))) from by exact rfl))
        refine ⟨?_, M.close [] rfl (by decide) trivial⟩
        refine congrArg Value.bool ?_
        first | exact Eq.symm (rhas_low (by omega)) | exact Eq.symm (rhas_high (by omega)) | exact Eq.symm (rhas_unused (by assumption) (by assumption)) | exact Eq.symm (rhas_used (by omega) (by assumption) (by assumption))
      ·
        refine W.drawn M [0, 1, 2, 3, 4, 5, 6, 7, 8, 9, 10, 11, 12, 13, 14, 15, 16, 17, 18, 19, 20, 21, 22, 23, 24, 25, 26, 27, 28, 29, 30, 31, 32] [] [] [blk b6 (.cells #[(Value.int .i64 h.at_), (Value.int .i64 h.turn)] 61), blk b4 (.cells #[v] 47)] [EC v 6 h.at_.toNat [(Value.bool p12.used), (Value.int .i64 p12.turn), (Value.bool p12.node.leaf), kv13, dv14, vv15], SlAt 1 kv13 p12.node.keys.length (p12.node.keys.flatMap strE), SlAt 2 dv14 p12.node.kids.length (p12.node.kids.flatMap handleE), SlAt 1 vv15 p12.node.vals.length (p12.node.vals.flatMap intE), SlAt 6 v xs.length cs3, RepL RPlaceT cs3 xs, RepS RPlaceT v xs] (List.Sublist.cons_cons _ (List.Sublist.cons_cons _ List.Sublist.slnil)) (fun _ h => h) Try.mixed (by kernel_rfl) ?_
        refine TW.pure (v := (Value.pointer (some ⟨b6, 0, none⟩))) rfl (by decide) (by decide) rfl (fun w => (Step.pure (by kernel_rfl))) ?_
        refine TW.read (v := (Value.int .i64 h.at_)) rfl (by decide) (by decide) rfl (fun A w M => (Step.load1 Try.sc3 rfl ((M.cell 1 rfl 0).trans rfl))) ?_
        refine TW.pure (v := (Value.bool true)) rfl (by decide) (by decide) rfl (fun w => (Step.cast (congrArg Value.bool h8) (Step.pure (by kernel_rfl)))) ?_
        refine TW.pure (v := (Value.bool true)) rfl (by decide) (by decide) rfl (fun w => (Step.move rfl)) ?_
        refine TW.pure (v := (Value.pointer (some ⟨b6, 0, none⟩))) rfl (by decide) (by decide) rfl (fun w => (Step.pure (by kernel_rfl))) ?_
        refine TW.read (v := (Value.int .i64 h.at_)) rfl (by decide) (by decide) rfl (fun A w M => (Step.load1 Try.sc3 rfl ((M.cell 1 rfl 0).trans rfl))) ?_
        refine TW.pure (v := (Value.pointer (some ⟨b4, 0, none⟩))) rfl (by decide) (by decide) rfl (fun w => (Step.pure (by kernel_rfl))) ?_
        refine TW.read (v := v) rfl (by decide) (by decide) rfl (fun A w M => (Step.load1 Try.sc45 rfl ((M.cell 2 rfl 0).trans rfl))) ?_
        refine TW.read (v := (Value.int .i64 ↑xs.length)) rfl (by decide) (by decide) rfl (fun A w M => (Step.lenSl Try.un45 rfl (M.rep 4 rfl))) ?_
        refine TW.pure (v := (Value.bool true)) rfl (by decide) (by decide) rfl (fun w => (Step.cast (congrArg Value.bool h9) (Step.pure (by kernel_rfl)))) ?_
        refine TW.pure (v := (Value.bool true)) rfl (by decide) (by decide) rfl (fun w => (Step.pick (t := true) rfl rfl)) ?_
        refine TW.pure (v := (Value.bool true)) rfl (by decide) (by decide) rfl (fun w => (Step.move rfl)) ?_
        refine TW.pure (v := (Value.pointer (some ⟨b4, 0, none⟩))) rfl (by decide) (by decide) rfl (fun w => (Step.pure (by kernel_rfl))) ?_
        refine TW.read (v := v) rfl (by decide) (by decide) rfl (fun A w M => (Step.load1 Try.sc45 rfl ((M.cell 2 rfl 0).trans rfl))) ?_
        refine TW.pure (v := (Value.pointer (some ⟨b6, 0, none⟩))) rfl (by decide) (by decide) rfl (fun w => (Step.pure (by kernel_rfl))) ?_
        refine TW.read (v := (Value.int .i64 h.at_)) rfl (by decide) (by decide) rfl (fun A w M => (Step.load1 Try.sc3 rfl ((M.cell 1 rfl 0).trans rfl))) ?_
        refine TW.pure (v := (Value.pointer (some ⟨(sBlk v), sOff v + h.at_.toNat * 6, none⟩))) rfl (by decide) (by decide) rfl (fun w => (Step.indexAddr (i := h.at_.toNat) (Try.un45).run Try.el93.sized rfl rfl (by omega) hb10 (by omega))) ?_
        refine TW.pure (v := (Value.pointer (some ⟨(sBlk v), sOff v + h.at_.toNat * 6, none⟩))) rfl (by decide) (by decide) rfl (fun w => (Step.pure (by kernel_rfl))) ?_
        refine TW.read (v := (Value.bool false)) rfl (by decide) (by decide) rfl (fun A w M => (Step.cast (congrArg Value.bool h19) (Step.loadE (k := 0) Try.sc4 (M.rep 0 rfl : EC _ _ _ _ _) (by decide) rfl rfl))) ?_
        refine TW.pure (v := (Value.bool false)) rfl (by decide) (by decide) rfl (fun w => (Step.pick (t := true) rfl rfl)) ?_
        refine TW.pure (v := (Value.bool false)) rfl (by decide) (by decide) rfl (fun w => (Step.move rfl)) ?_
        refine TW.skip rfl rfl ?_
        refine TW.skip rfl rfl ?_
        refine TW.skip rfl rfl ?_
        refine TW.skip rfl rfl ?_
        refine TW.skip rfl rfl ?_
        refine TW.skip rfl rfl ?_
        refine TW.skip rfl rfl ?_
        refine TW.skip rfl rfl ?_
        refine TW.skip rfl rfl ?_
        refine TW.skip rfl rfl ?_
        refine TW.pure (v := (Value.bool false)) rfl (by decide) (by decide) rfl (fun w => (Step.pick (t := false) rfl rfl)) ?_
        refine TW.pure (v := (Value.bool false)) rfl (by decide) (by decide) rfl (fun w => (Step.assign rfl)) ?_
        refine TW.done (fun w21 M => ?_)
        refine W.ret ?_
        refine ⟨.inl rfl, (Value.bool false), ?_, ?_⟩
        · exact (Res.r1 (show RV _ _ _ (.tmp 4) (Value.bool false) from by exact rfl))
        refine ⟨?_, M.close [] rfl (by decide) trivial⟩
        refine congrArg Value.bool ?_
        first | exact Eq.symm (rhas_low (by omega)) | exact Eq.symm (rhas_high (by omega)) | exact Eq.symm (rhas_unused (by assumption) (by assumption)) | exact Eq.symm (rhas_used (by omega) (by assumption) (by assumption))
    ·
      have h9p := of_decide_eq_false h9
      refine W.drawn M [0, 1, 2, 3, 4, 5, 6, 7, 8, 9, 10, 11, 12, 13, 14, 15, 16, 17, 18, 19, 20, 21, 22, 23, 24, 25, 26, 27, 28, 29, 30, 31, 32] [] [] [blk b6 (.cells #[(Value.int .i64 h.at_), (Value.int .i64 h.turn)] 61), blk b4 (.cells #[v] 47)] [SlAt 6 v xs.length cs3, RepL RPlaceT cs3 xs, RepS RPlaceT v xs] (List.Sublist.cons_cons _ (List.Sublist.cons_cons _ List.Sublist.slnil)) (fun _ h => h) Try.mixed (by kernel_rfl) ?_
      refine TW.pure (v := (Value.pointer (some ⟨b6, 0, none⟩))) rfl (by decide) (by decide) rfl (fun w => (Step.pure (by kernel_rfl))) ?_
      refine TW.read (v := (Value.int .i64 h.at_)) rfl (by decide) (by decide) rfl (fun A w M => (Step.load1 Try.sc3 rfl ((M.cell 1 rfl 0).trans rfl))) ?_
      refine TW.pure (v := (Value.bool true)) rfl (by decide) (by decide) rfl (fun w => (Step.cast (congrArg Value.bool h8) (Step.pure (by kernel_rfl)))) ?_
      refine TW.pure (v := (Value.bool true)) rfl (by decide) (by decide) rfl (fun w => (Step.move rfl)) ?_
      refine TW.pure (v := (Value.pointer (some ⟨b6, 0, none⟩))) rfl (by decide) (by decide) rfl (fun w => (Step.pure (by kernel_rfl))) ?_
      refine TW.read (v := (Value.int .i64 h.at_)) rfl (by decide) (by decide) rfl (fun A w M => (Step.load1 Try.sc3 rfl ((M.cell 1 rfl 0).trans rfl))) ?_
      refine TW.pure (v := (Value.pointer (some ⟨b4, 0, none⟩))) rfl (by decide) (by decide) rfl (fun w => (Step.pure (by kernel_rfl))) ?_
      refine TW.read (v := v) rfl (by decide) (by decide) rfl (fun A w M => (Step.load1 Try.sc45 rfl ((M.cell 2 rfl 0).trans rfl))) ?_
      refine TW.read (v := (Value.int .i64 ↑xs.length)) rfl (by decide) (by decide) rfl (fun A w M => (Step.lenSl Try.un45 rfl (M.rep 0 rfl))) ?_
      refine TW.pure (v := (Value.bool false)) rfl (by decide) (by decide) rfl (fun w => (Step.cast (congrArg Value.bool h9) (Step.pure (by kernel_rfl)))) ?_
      refine TW.pure (v := (Value.bool false)) rfl (by decide) (by decide) rfl (fun w => (Step.pick (t := true) rfl rfl)) ?_
      refine TW.pure (v := (Value.bool false)) rfl (by decide) (by decide) rfl (fun w => (Step.move rfl)) ?_
      refine TW.skip rfl rfl ?_
      refine TW.skip rfl rfl ?_
      refine TW.skip rfl rfl ?_
      refine TW.skip rfl rfl ?_
      refine TW.skip rfl rfl ?_
      refine TW.skip rfl rfl ?_
      refine TW.skip rfl rfl ?_
      refine TW.pure (v := (Value.bool false)) rfl (by decide) (by decide) rfl (fun w => (Step.pick (t := false) rfl rfl)) ?_
      refine TW.pure (v := (Value.bool false)) rfl (by decide) (by decide) rfl (fun w => (Step.move rfl)) ?_
      refine TW.skip rfl rfl ?_
      refine TW.skip rfl rfl ?_
      refine TW.skip rfl rfl ?_
      refine TW.skip rfl rfl ?_
      refine TW.skip rfl rfl ?_
      refine TW.skip rfl rfl ?_
      refine TW.skip rfl rfl ?_
      refine TW.skip rfl rfl ?_
      refine TW.skip rfl rfl ?_
      refine TW.skip rfl rfl ?_
      refine TW.pure (v := (Value.bool false)) rfl (by decide) (by decide) rfl (fun w => (Step.pick (t := false) rfl rfl)) ?_
      refine TW.pure (v := (Value.bool false)) rfl (by decide) (by decide) rfl (fun w => (Step.assign rfl)) ?_
      refine TW.done (fun w22 M => ?_)
      refine W.ret ?_
      refine ⟨.inl rfl, (Value.bool false), ?_, ?_⟩
      · exact (Res.r1 (show RV _ _ _ (.tmp 4) (Value.bool false) from by exact rfl))
      refine ⟨?_, M.close [] rfl (by decide) trivial⟩
      refine congrArg Value.bool ?_
      first | exact Eq.symm (rhas_low (by omega)) | exact Eq.symm (rhas_high (by omega)) | exact Eq.symm (rhas_unused (by assumption) (by assumption)) | exact Eq.symm (rhas_used (by omega) (by assumption) (by assumption))
  ·
    have h8p := of_decide_eq_false h8
    refine W.drawn M [0, 1, 2, 3, 4, 5, 6, 7, 8, 9, 10, 11, 12, 13, 14, 15, 16, 17, 18, 19, 20, 21, 22, 23, 24, 25, 26, 27, 28, 29, 30, 31, 32] [] [] [blk b6 (.cells #[(Value.int .i64 h.at_), (Value.int .i64 h.turn)] 61), blk b4 (.cells #[v] 47)] [SlAt 6 v xs.length cs3, RepL RPlaceT cs3 xs, RepS RPlaceT v xs] (List.Sublist.cons_cons _ (List.Sublist.cons_cons _ List.Sublist.slnil)) (fun _ h => h) Try.mixed (by kernel_rfl) ?_
    refine TW.pure (v := (Value.pointer (some ⟨b6, 0, none⟩))) rfl (by decide) (by decide) rfl (fun w => (Step.pure (by kernel_rfl))) ?_
    refine TW.read (v := (Value.int .i64 h.at_)) rfl (by decide) (by decide) rfl (fun A w M => (Step.load1 Try.sc3 rfl ((M.cell 1 rfl 0).trans rfl))) ?_
    refine TW.pure (v := (Value.bool false)) rfl (by decide) (by decide) rfl (fun w => (Step.cast (congrArg Value.bool h8) (Step.pure (by kernel_rfl)))) ?_
    refine TW.pure (v := (Value.bool false)) rfl (by decide) (by decide) rfl (fun w => (Step.move rfl)) ?_
    refine TW.skip rfl rfl ?_
    refine TW.skip rfl rfl ?_
    refine TW.skip rfl rfl ?_
    refine TW.skip rfl rfl ?_
    refine TW.skip rfl rfl ?_
    refine TW.skip rfl rfl ?_
    refine TW.pure (v := (Value.bool false)) rfl (by decide) (by decide) rfl (fun w => (Step.pick (t := false) rfl rfl)) ?_
    refine TW.pure (v := (Value.bool false)) rfl (by decide) (by decide) rfl (fun w => (Step.move rfl)) ?_
    refine TW.skip rfl rfl ?_
    refine TW.skip rfl rfl ?_
    refine TW.skip rfl rfl ?_
    refine TW.skip rfl rfl ?_
    refine TW.skip rfl rfl ?_
    refine TW.skip rfl rfl ?_
    refine TW.skip rfl rfl ?_
    refine TW.pure (v := (Value.bool false)) rfl (by decide) (by decide) rfl (fun w => (Step.pick (t := false) rfl rfl)) ?_
    refine TW.pure (v := (Value.bool false)) rfl (by decide) (by decide) rfl (fun w => (Step.move rfl)) ?_
    refine TW.skip rfl rfl ?_
    refine TW.skip rfl rfl ?_
    refine TW.skip rfl rfl ?_
    refine TW.skip rfl rfl ?_
    refine TW.skip rfl rfl ?_
    refine TW.skip rfl rfl ?_
    refine TW.skip rfl rfl ?_
    refine TW.skip rfl rfl ?_
    refine TW.skip rfl rfl ?_
    refine TW.skip rfl rfl ?_
    refine TW.pure (v := (Value.bool false)) rfl (by decide) (by decide) rfl (fun w => (Step.pick (t := false) rfl rfl)) ?_
    refine TW.pure (v := (Value.bool false)) rfl (by decide) (by decide) rfl (fun w => (Step.assign rfl)) ?_
    refine TW.done (fun w23 M => ?_)
    refine W.ret ?_
    refine ⟨.inl rfl, (Value.bool false), ?_, ?_⟩
    · exact (Res.r1 (show RV _ _ _ (.tmp 4) (Value.bool false) from by exact rfl))
    refine ⟨?_, M.close [] rfl (by decide) trivial⟩
    refine congrArg Value.bool ?_
    first | exact Eq.symm (rhas_low (by omega)) | exact Eq.symm (rhas_high (by omega)) | exact Eq.symm (rhas_unused (by assumption) (by assumption)) | exact Eq.symm (rhas_used (by omega) (by assumption) (by assumption))

theorem ref_same {G : Nat → Prop} {w : World} (kv : Value) (dv : Value) (vv : Value) (a : Nd) (kv2 : Value) (dv2 : Value) (vv2 : Value) (b : Nd)  (M : Mem G (fun _ => False) w [] [SlAt 1 kv a.keys.length (a.keys.flatMap strE), SlAt 2 dv a.kids.length (a.kids.flatMap handleE), SlAt 1 vv a.vals.length (a.vals.flatMap intE), SlAt 1 kv2 b.keys.length (b.keys.flatMap strE), SlAt 2 dv2 b.kids.length (b.kids.flatMap handleE), SlAt 1 vv2 b.vals.length (b.vals.flatMap intE)] w) : Rets Try.prog 23 #[(Value.agg #[(Value.bool a.leaf), kv, dv, vv]), (Value.agg #[(Value.bool b.leaf), kv2, dv2, vv2])] w fun r w' => r = (Value.bool (nodeEq a b)) ∧ Mem G (fun _ => False) w [] [] w' := by
  refine Rets.enter 94 _ Try.func23 rfl Try.ntmps23 Try.results23 (by simp) ?_
  have hle1 := SlAt.le' (M.rep 0 rfl)
  have hle2 := SlAt.le' (M.rep 1 rfl)
  have hle3 := SlAt.le' (M.rep 2 rfl)
  have hle4 := SlAt.le' (M.rep 3 rfl)
  have hle5 := SlAt.le' (M.rep 4 rfl)
  have hle6 := SlAt.le' (M.rep 5 rfl)
  have sl7 : IsSl kv := SlAt.isSl (Mem.rep M 0 rfl)
  have sl8 : IsSl dv := SlAt.isSl (Mem.rep M 1 rfl)
  have sl9 : IsSl vv := SlAt.isSl (Mem.rep M 2 rfl)
  have sl10 : IsSl kv2 := SlAt.isSl (Mem.rep M 3 rfl)
  have sl11 : IsSl dv2 := SlAt.isSl (Mem.rep M 4 rfl)
  have sl12 : IsSl vv2 := SlAt.isSl (Mem.rep M 5 rfl)
  refine W.seq' ?_
  refine W.region rfl ?_
  refine WL.box (v := (Value.agg #[(Value.bool a.leaf), kv, dv, vv])) (c := #[(Value.bool a.leaf), kv, dv, vv]) M rfl rfl rfl (fun b13 w14 hb13 M => ?_)
  refine WL.box (v := (Value.agg #[(Value.bool b.leaf), kv2, dv2, vv2])) (c := #[(Value.bool b.leaf), kv2, dv2, vv2]) M rfl rfl rfl (fun b15 w16 hb15 M => ?_)
  refine WL.step (v := (Value.bool false)) rfl (Step.assign rfl) ?_
  refine WL.nil ?_
  refine W.seq' ?_
  refine W.seq' ?_
  refine W.region rfl ?_
  refine WL.step (v := (Value.pointer (some ⟨b13, 0, none⟩))) rfl (Step.pure (by kernel_rfl)) ?_
  refine WL.step (v := (Value.bool a.leaf)) rfl (Step.load1 Try.sc4 rfl ((M.cell 1 rfl 0).trans rfl)) ?_
  refine WL.step (v := (Value.pointer (some ⟨b15, 0, none⟩))) rfl (Step.pure (by kernel_rfl)) ?_
  refine WL.step (v := (Value.bool b.leaf)) rfl (Step.load1 Try.sc4 rfl ((M.cell 0 rfl 0).trans rfl)) ?_
  refine WL.step (v := (Value.bool (!(a.leaf == b.leaf)))) rfl (Step.pure (by kernel_rfl)) ?_
  refine WL.step (v := (Value.bool (!(a.leaf == b.leaf)))) rfl (Step.move rfl) ?_
  rcases Bool.eq_false_or_eq_true (!(a.leaf == b.leaf)) with h17 | h17
  ·
    rw [h17]
    refine WL.pass rfl ?_
    refine WL.pass rfl ?_
    refine WL.pass rfl ?_
    refine WL.pass rfl ?_
    refine WL.pass rfl ?_
    refine WL.pass rfl ?_
    refine WL.pass rfl ?_
    refine WL.step (v := (Value.bool true)) rfl (Step.pick (t := true) rfl rfl) ?_
    refine WL.step (v := (Value.bool true)) rfl (Step.move rfl) ?_
    refine WL.pass rfl ?_
    refine WL.pass rfl ?_
    refine WL.pass rfl ?_
    refine WL.pass rfl ?_
    refine WL.pass rfl ?_
    refine WL.pass rfl ?_
    refine WL.pass rfl ?_
    refine WL.step (v := (Value.bool true)) rfl (Step.pick (t := true) rfl rfl) ?_
    refine WL.step (v := (Value.bool true)) rfl (Step.move rfl) ?_
    refine WL.pass rfl ?_
    refine WL.pass rfl ?_
    refine WL.pass rfl ?_
    refine WL.pass rfl ?_
    refine WL.pass rfl ?_
    refine WL.pass rfl ?_
    refine WL.pass rfl ?_
    refine WL.step (v := (Value.bool true)) rfl (Step.pick (t := true) rfl rfl) ?_
    refine WL.nil ?_
    refine W.cond (t := true) rfl (fun _ => ?_) (fun h => by cases h)
    refine W.seq' ?_
    refine W.region rfl ?_
    refine WL.step (v := (Value.bool false)) rfl (Step.assign rfl) ?_
    refine WL.nil ?_
    refine W.ret ?_
    refine ⟨.inl rfl, (Value.bool false), ?_, ?_⟩
    · exact (Res.r1 (show RV _ _ _ (.tmp 4) (Value.bool false) from by exact rfl))
    refine ⟨?_, M.close [] rfl (by decide) trivial⟩
    refine congrArg Value.bool (Eq.symm ?_)
    exact nodeEq_len (by first | (right; left; omega) | (right; right; left; omega) | (right; right; right; omega) | (left; simpa using h17) | (left; simpa using h17))
  ·
    rw [h17]
    refine WL.step (v := (Value.pointer (some ⟨b13, 1, none⟩))) rfl (Step.pure (by kernel_rfl)) ?_
    refine WL.step (v := kv) rfl (Step.load1 Try.sc34 rfl ((M.cell 1 rfl 1).trans rfl)) ?_
    refine WL.step (v := (Value.int .i64 ↑a.keys.length)) rfl (Step.lenSl Try.un34 rfl (M.rep 0 rfl)) ?_
    refine WL.step (v := (Value.pointer (some ⟨b15, 1, none⟩))) rfl (Step.pure (by kernel_rfl)) ?_
    refine WL.step (v := kv2) rfl (Step.load1 Try.sc34 rfl ((M.cell 0 rfl 1).trans rfl)) ?_
    refine WL.step (v := (Value.int .i64 ↑b.keys.length)) rfl (Step.lenSl Try.un34 rfl (M.rep 3 rfl)) ?_
    refine WL.step (v := (Value.bool ((↑a.keys.length : Int) != (↑b.keys.length : Int)))) rfl (Step.pure (by kernel_rfl)) ?_
    refine WL.step (v := (Value.bool ((↑a.keys.length : Int) != (↑b.keys.length : Int)))) rfl (Step.pick (t := false) rfl rfl) ?_
    refine WL.step (v := (Value.bool ((↑a.keys.length : Int) != (↑b.keys.length : Int)))) rfl (Step.move rfl) ?_
    rcases Bool.eq_false_or_eq_true ((↑a.keys.length : Int) != (↑b.keys.length : Int)) with h18 | h18
    ·
      have h18p : ¬ (↑a.keys.length : Int) = (↑b.keys.length : Int) := by simpa using h18
      rw [h18]
      refine WL.pass rfl ?_
      refine WL.pass rfl ?_
      refine WL.pass rfl ?_
      refine WL.pass rfl ?_
      refine WL.pass rfl ?_
      refine WL.pass rfl ?_
      refine WL.pass rfl ?_
      refine WL.step (v := (Value.bool true)) rfl (Step.pick (t := true) rfl rfl) ?_
      refine WL.step (v := (Value.bool true)) rfl (Step.move rfl) ?_
      refine WL.pass rfl ?_
      refine WL.pass rfl ?_
      refine WL.pass rfl ?_
      refine WL.pass rfl ?_
      refine WL.pass rfl ?_
      refine WL.pass rfl ?_
      refine WL.pass rfl ?_
      refine WL.step (v := (Value.bool true)) rfl (Step.pick (t := true) rfl rfl) ?_
      refine WL.nil ?_
      refine W.cond (t := true) rfl (fun _ => ?_) (fun h => by cases h)
      refine W.seq' ?_
      refine W.region rfl ?_
      refine WL.step (v := (Value.bool false)) rfl (Step.assign rfl) ?_
      refine WL.nil ?_
      refine W.ret ?_
      refine ⟨.inl rfl, (Value.bool false), ?_, ?_⟩
      · exact (Res.r1 (show RV _ _ _ (.tmp 4) (Value.bool false) from by exact rfl))
      refine ⟨?_, M.close [] rfl (by decide) trivial⟩
      refine congrArg Value.bool (Eq.symm ?_)
      exact nodeEq_len (by first | (right; left; omega) | (right; right; left; omega) | (right; right; right; omega) | (left; simpa using h18) | (left; simpa using h17))
    ·
      have h18p : (↑a.keys.length : Int) = (↑b.keys.length : Int) := by simpa using h18
      rw [h18]
      refine WL.step (v := (Value.pointer (some ⟨b13, 2, none⟩))) rfl (Step.pure (by kernel_rfl)) ?_
      refine WL.step (v := dv) rfl (Step.load1 Try.sc56 rfl ((M.cell 1 rfl 2).trans rfl)) ?_
      refine WL.step (v := (Value.int .i64 ↑a.kids.length)) rfl (Step.lenSl Try.un56 rfl (M.rep 1 rfl)) ?_
      refine WL.step (v := (Value.pointer (some ⟨b15, 2, none⟩))) rfl (Step.pure (by kernel_rfl)) ?_
      refine WL.step (v := dv2) rfl (Step.load1 Try.sc56 rfl ((M.cell 0 rfl 2).trans rfl)) ?_
      refine WL.step (v := (Value.int .i64 ↑b.kids.length)) rfl (Step.lenSl Try.un56 rfl (M.rep 4 rfl)) ?_
      refine WL.step (v := (Value.bool ((↑a.kids.length : Int) != (↑b.kids.length : Int)))) rfl (Step.pure (by kernel_rfl)) ?_
      refine WL.step (v := (Value.bool ((↑a.kids.length : Int) != (↑b.kids.length : Int)))) rfl (Step.pick (t := false) rfl rfl) ?_
      refine WL.step (v := (Value.bool ((↑a.kids.length : Int) != (↑b.kids.length : Int)))) rfl (Step.move rfl) ?_
      rcases Bool.eq_false_or_eq_true ((↑a.kids.length : Int) != (↑b.kids.length : Int)) with h19 | h19
      ·
        have h19p : ¬ (↑a.kids.length : Int) = (↑b.kids.length : Int) := by simpa using h19
        rw [h19]
        refine WL.pass rfl ?_
        refine WL.pass rfl ?_
        refine WL.pass rfl ?_
        refine WL.pass rfl ?_
        refine WL.pass rfl ?_
        refine WL.pass rfl ?_
        refine WL.pass rfl ?_
        refine WL.step (v := (Value.bool true)) rfl (Step.pick (t := true) rfl rfl) ?_
        refine WL.nil ?_
        refine W.cond (t := true) rfl (fun _ => ?_) (fun h => by cases h)
        refine W.seq' ?_
        refine W.region rfl ?_
        refine WL.step (v := (Value.bool false)) rfl (Step.assign rfl) ?_
        refine WL.nil ?_
        refine W.ret ?_
        refine ⟨.inl rfl, (Value.bool false), ?_, ?_⟩
        · exact (Res.r1 (show RV _ _ _ (.tmp 4) (Value.bool false) from by exact rfl))
        refine ⟨?_, M.close [] rfl (by decide) trivial⟩
        refine congrArg Value.bool (Eq.symm ?_)
        exact nodeEq_len (by first | (right; left; omega) | (right; right; left; omega) | (right; right; right; omega) | (left; simpa using h19) | (left; simpa using h17))
      ·
        have h19p : (↑a.kids.length : Int) = (↑b.kids.length : Int) := by simpa using h19
        rw [h19]
        refine WL.step (v := (Value.pointer (some ⟨b13, 3, none⟩))) rfl (Step.pure (by kernel_rfl)) ?_
        refine WL.step (v := vv) rfl (Step.load1 Try.sc22 rfl ((M.cell 1 rfl 3).trans rfl)) ?_
        refine WL.step (v := (Value.int .i64 ↑a.vals.length)) rfl (Step.lenSl Try.un22 rfl (M.rep 2 rfl)) ?_
        refine WL.step (v := (Value.pointer (some ⟨b15, 3, none⟩))) rfl (Step.pure (by kernel_rfl)) ?_
        refine WL.step (v := vv2) rfl (Step.load1 Try.sc22 rfl ((M.cell 0 rfl 3).trans rfl)) ?_
        refine WL.step (v := (Value.int .i64 ↑b.vals.length)) rfl (Step.lenSl Try.un22 rfl (M.rep 5 rfl)) ?_
        refine WL.step (v := (Value.bool ((↑a.vals.length : Int) != (↑b.vals.length : Int)))) rfl (Step.pure (by kernel_rfl)) ?_
        refine WL.step (v := (Value.bool ((↑a.vals.length : Int) != (↑b.vals.length : Int)))) rfl (Step.pick (t := false) rfl rfl) ?_
        refine WL.nil ?_
        refine W.cond (t := (↑a.vals.length : Int) != (↑b.vals.length : Int)) rfl (fun h20 => ?_) (fun h20 => ?_)
        ·
          have h20p : ¬ (↑a.vals.length : Int) = (↑b.vals.length : Int) := by simpa using h20
          refine W.seq' ?_
          refine W.region rfl ?_
          refine WL.step (v := (Value.bool false)) rfl (Step.assign rfl) ?_
          refine WL.nil ?_
          refine W.ret ?_
          refine ⟨.inl rfl, (Value.bool false), ?_, ?_⟩
          · exact (Res.r1 (show RV _ _ _ (.tmp 4) (Value.bool false) from by exact rfl))
          refine ⟨?_, M.close [] rfl (by decide) trivial⟩
          refine congrArg Value.bool (Eq.symm ?_)
          exact nodeEq_len (by first | (right; left; omega) | (right; right; left; omega) | (right; right; right; omega) | (left; simpa using h20) | (left; simpa using h17))
        ·
          have h20p : (↑a.vals.length : Int) = (↑b.vals.length : Int) := by simpa using h20
          refine W.skip ?_
          refine W.seq' ?_
          refine W.seq' ?_
          refine W.region rfl ?_
          refine WL.step (v := (Value.int .i64 0)) rfl (Step.assign rfl) ?_
          refine WL.nil ?_
          refine W.block ?_
          refine W.loop (fun kk ρ w' => ∃ (ia_ : Nat), ((ia_ ≤ a.keys.length) ∧ (∀ j, j < ia_ → a.keys[j]? = b.keys[j]?) ∧ kk = a.keys.length - ia_) ∧ ρ.has [(2, (Value.pointer (some ⟨b13, 0, none⟩))), (3, (Value.pointer (some ⟨b15, 0, none⟩))), (5, (Value.int .i64 ↑ia_))] ∧ Mem G (fun _ => False) w [blk b15 (.cells #[(Value.bool b.leaf), kv2, dv2, vv2] 58), blk b13 (.cells #[(Value.bool a.leaf), kv, dv, vv] 58)] [SlAt 1 kv a.keys.length (a.keys.flatMap strE), SlAt 2 dv a.kids.length (a.kids.flatMap handleE), SlAt 1 vv a.vals.length (a.vals.flatMap intE), SlAt 1 kv2 b.keys.length (b.keys.flatMap strE), SlAt 2 dv2 b.kids.length (b.kids.flatMap handleE), SlAt 1 vv2 b.vals.length (b.vals.flatMap intE)]  w') _ ⟨0, ⟨(Nat.zero_le _), (fun _ h => absurd h (Nat.not_lt_zero _)), rfl⟩, ⟨rfl, rfl, rfl, trivial⟩, M⟩ ?_
          rintro _ ρ22 w21 ⟨ia_, ⟨hi23, hi24, rfl⟩, hρ, M⟩
          obtain ⟨ρ22, rfl⟩ := hρ.know
          clear hρ
          refine W.seq' ?_
          refine W.seq' ?_
          refine W.region rfl ?_
          refine WL.step (v := (Value.int .i64 ↑ia_)) rfl (Step.move rfl) ?_
          refine WL.step (v := (Value.pointer (some ⟨b13, 1, none⟩))) rfl (Step.pure (by kernel_rfl)) ?_
          refine WL.step (v := kv) rfl (Step.load1 Try.sc34 rfl ((M.cell 1 rfl 1).trans rfl)) ?_
          refine WL.step (v := (Value.int .i64 ↑a.keys.length)) rfl (Step.lenSl Try.un34 rfl (M.rep 0 rfl)) ?_
          refine WL.step (v := (Value.bool (decide ((↑ia_ : Int) < (↑a.keys.length : Int))))) rfl (Step.pure (by kernel_rfl)) ?_
          refine WL.nil ?_
          refine W.cond (t := decide ((↑ia_ : Int) < (↑a.keys.length : Int))) rfl (fun h25 => ?_) (fun h25 => ?_)
          ·
            have h25p := of_decide_eq_true h25
            refine W.skip ?_
            refine W.seq' ?_
            refine W.block ?_
            refine W.seq' ?_
            obtain ⟨cap27, hb26⟩ := SlAt.base (M.rep 0 rfl) (by omega)
            obtain ⟨x28, hx28⟩ := elem_of_lt (xs := a.keys) (i := ia_) (by omega)
            obtain ⟨cap30, hb29⟩ := SlAt.base (M.rep 3 rfl) (by omega)
            obtain ⟨x31, hx31⟩ := elem_of_lt (xs := b.keys) (i := ia_) (by omega)
            refine W.drawn M [0, 1, 2, 3, 4, 5, 6, 7, 8, 9, 10] [] [] [blk b15 (.cells #[(Value.bool b.leaf), kv2, dv2, vv2] 58), blk b13 (.cells #[(Value.bool a.leaf), kv, dv, vv] 58)] [SlAt 1 kv a.keys.length (a.keys.flatMap strE), SlAt 2 dv a.kids.length (a.kids.flatMap handleE), SlAt 1 vv a.vals.length (a.vals.flatMap intE), SlAt 1 kv2 b.keys.length (b.keys.flatMap strE), SlAt 2 dv2 b.kids.length (b.kids.flatMap handleE), SlAt 1 vv2 b.vals.length (b.vals.flatMap intE)] (List.Sublist.cons_cons _ (List.Sublist.cons_cons _ List.Sublist.slnil)) (fun _ h => h) Try.mixed (by kernel_rfl) ?_
            refine TW.pure (v := (Value.pointer (some ⟨b13, 1, none⟩))) rfl (by decide) (by decide) rfl (fun w => (Step.pure (by kernel_rfl))) ?_
            refine TW.read (v := kv) rfl (by decide) (by decide) rfl (fun A w M => (Step.load1 Try.sc34 rfl ((M.cell 2 rfl 1).trans rfl))) ?_
            refine TW.pure (v := (Value.int .i64 ↑ia_)) rfl (by decide) (by decide) rfl (fun w => (Step.move rfl)) ?_
            refine TW.pure (v := (Value.pointer (some ⟨(sBlk kv), sOff kv + ia_ * 1, none⟩))) rfl (by decide) (by decide) rfl (fun w => (Step.indexAddr (i := ia_) (Try.un34).run Try.el9.sized rfl rfl (by omega) hb26 (by omega))) ?_
            refine TW.read (v := (Value.string x28)) rfl (by decide) (by decide) rfl (fun A w M => (Step.loadE (k := 0) Try.sc9 (flat_ec (M.rep 0 rfl) hx28 strE_len) (by decide) rfl rfl)) ?_
            refine TW.pure (v := (Value.pointer (some ⟨b15, 1, none⟩))) rfl (by decide) (by decide) rfl (fun w => (Step.pure (by kernel_rfl))) ?_
            refine TW.read (v := kv2) rfl (by decide) (by decide) rfl (fun A w M => (Step.load1 Try.sc34 rfl ((M.cell 1 rfl 1).trans rfl))) ?_
            refine TW.pure (v := (Value.int .i64 ↑ia_)) rfl (by decide) (by decide) rfl (fun w => (Step.move rfl)) ?_
            refine TW.pure (v := (Value.pointer (some ⟨(sBlk kv2), sOff kv2 + ia_ * 1, none⟩))) rfl (by decide) (by decide) rfl (fun w => (Step.indexAddr (i := ia_) (Try.un34).run Try.el9.sized rfl rfl (by omega) hb29 (by omega))) ?_
            refine TW.read (v := (Value.string x31)) rfl (by decide) (by decide) rfl (fun A w M => (Step.loadE (k := 0) Try.sc9 (flat_ec (M.rep 3 rfl) hx31 strE_len) (by decide) rfl rfl)) ?_
            refine TW.pure (v := (Value.bool (!(x28.toList == x31.toList)))) rfl (by decide) (by decide) rfl (fun w => (Step.pure (by kernel_rfl))) ?_
            refine TW.done (fun w32 M => ?_)
            refine W.cond (t := !(x28.toList == x31.toList)) rfl (fun h33 => ?_) (fun h33 => ?_)
            ·
              refine W.seq' ?_
              refine W.region rfl ?_
              refine WL.step (v := (Value.bool false)) rfl (Step.assign rfl) ?_
              refine WL.nil ?_
              refine W.ret ?_
              refine ⟨.inl rfl, (Value.bool false), ?_, ?_⟩
              · exact (Res.r1 (show RV _ _ _ (.tmp 4) (Value.bool false) from by exact rfl))
              refine ⟨?_, M.close [] rfl (by decide) trivial⟩
              refine congrArg Value.bool (Eq.symm ?_)
              exact nodeEq_keys (list_ne_of hx28 hx31 (str_ne h33))
            ·
              refine W.skip ?_
              refine W.region rfl ?_
              refine WL.step (v := (Value.int .i64 ↑ia_)) rfl (Step.move rfl) ?_
              refine WL.step (v := (Value.int .i64 (↑ia_ + 1))) rfl (Step.add rfl rfl (wrap_i64 (by omega))) ?_
              refine WL.step (v := (Value.int .i64 (↑ia_ + 1))) rfl (Step.assign rfl) ?_
              refine WL.nil ?_
              have hs := list_step hx28 hx31 (str_eq h33) hi24
              exact ⟨_, (by omega), ia_ + 1, ⟨(by omega), hs, rfl⟩, ⟨rfl, rfl, rfl, trivial⟩, M⟩
          ·
            have h25p := of_decide_eq_false h25
            refine W.exit ?_
            refine thn_exit ?_
            refine thn_exit ?_
            refine inBlk_hit ?_
            refine W.seq' ?_
            refine W.seq' ?_
            refine W.region rfl ?_
            refine WL.step (v := (Value.int .i64 0)) rfl (Step.assign rfl) ?_
            refine WL.nil ?_
            refine W.block ?_
            refine W.loop (fun kk ρ w' => ∃ (ib_ : Nat), ((ib_ ≤ a.kids.length) ∧ (∀ j, j < ib_ → a.kids[j]? = b.kids[j]?) ∧ kk = a.kids.length - ib_) ∧ ρ.has [(2, (Value.pointer (some ⟨b13, 0, none⟩))), (3, (Value.pointer (some ⟨b15, 0, none⟩))), (6, (Value.int .i64 ↑ib_))] ∧ Mem G (fun _ => False) w [blk b15 (.cells #[(Value.bool b.leaf), kv2, dv2, vv2] 58), blk b13 (.cells #[(Value.bool a.leaf), kv, dv, vv] 58)] [SlAt 1 kv a.keys.length (a.keys.flatMap strE), SlAt 2 dv a.kids.length (a.kids.flatMap handleE), SlAt 1 vv a.vals.length (a.vals.flatMap intE), SlAt 1 kv2 b.keys.length (b.keys.flatMap strE), SlAt 2 dv2 b.kids.length (b.kids.flatMap handleE), SlAt 1 vv2 b.vals.length (b.vals.flatMap intE)]  w') _ ⟨0, ⟨(Nat.zero_le _), (fun _ h => absurd h (Nat.not_lt_zero _)), rfl⟩, ⟨rfl, rfl, rfl, trivial⟩, M⟩ ?_
            rintro _ ρ35 w34 ⟨ib_, ⟨hi36, hi37, rfl⟩, hρ, M⟩
            obtain ⟨ρ35, rfl⟩ := hρ.know
            clear hρ
            refine W.seq' ?_
            refine W.seq' ?_
            refine W.region rfl ?_
            refine WL.step (v := (Value.int .i64 ↑ib_)) rfl (Step.move rfl) ?_
            refine WL.step (v := (Value.pointer (some ⟨b13, 2, none⟩))) rfl (Step.pure (by kernel_rfl)) ?_
            refine WL.step (v := dv) rfl (Step.load1 Try.sc56 rfl ((M.cell 1 rfl 2).trans rfl)) ?_
            refine WL.step (v := (Value.int .i64 ↑a.kids.length)) rfl (Step.lenSl Try.un56 rfl (M.rep 1 rfl)) ?_
            refine WL.step (v := (Value.bool (decide ((↑ib_ : Int) < (↑a.kids.length : Int))))) rfl (Step.pure (by kernel_rfl)) ?_
            refine WL.nil ?_
            refine W.cond (t := decide ((↑ib_ : Int) < (↑a.kids.length : Int))) rfl (fun h38 => ?_) (fun h38 => ?_)
            ·
              have h38p := of_decide_eq_true h38
              refine W.skip ?_
              refine W.seq' ?_
              refine W.block ?_
              refine W.seq' ?_
              obtain ⟨cap40, hb39⟩ := SlAt.base (M.rep 1 rfl) (by omega)
              obtain ⟨x41, hx41⟩ := elem_of_lt (xs := a.kids) (i := ib_) (by omega)
              obtain ⟨cap43, hb42⟩ := SlAt.base (M.rep 4 rfl) (by omega)
              obtain ⟨x44, hx44⟩ := elem_of_lt (xs := b.kids) (i := ib_) (by omega)
              refine W.drawn M [0, 1, 2, 3, 4, 5, 6, 7, 8, 9, 10] [] [] [blk b15 (.cells #[(Value.bool b.leaf), kv2, dv2, vv2] 58), blk b13 (.cells #[(Value.bool a.leaf), kv, dv, vv] 58)] [SlAt 1 kv a.keys.length (a.keys.flatMap strE), SlAt 2 dv a.kids.length (a.kids.flatMap handleE), SlAt 1 vv a.vals.length (a.vals.flatMap intE), SlAt 1 kv2 b.keys.length (b.keys.flatMap strE), SlAt 2 dv2 b.kids.length (b.kids.flatMap handleE), SlAt 1 vv2 b.vals.length (b.vals.flatMap intE)] (List.Sublist.cons_cons _ (List.Sublist.cons_cons _ List.Sublist.slnil)) (fun _ h => h) Try.mixed (by kernel_rfl) ?_
              refine TW.pure (v := (Value.pointer (some ⟨b13, 2, none⟩))) rfl (by decide) (by decide) rfl (fun w => (Step.pure (by kernel_rfl))) ?_
              refine TW.read (v := dv) rfl (by decide) (by decide) rfl (fun A w M => (Step.load1 Try.sc56 rfl ((M.cell 2 rfl 2).trans rfl))) ?_
              refine TW.pure (v := (Value.int .i64 ↑ib_)) rfl (by decide) (by decide) rfl (fun w => (Step.move rfl)) ?_
              refine TW.pure (v := (Value.pointer (some ⟨(sBlk dv), sOff dv + ib_ * 2, none⟩))) rfl (by decide) (by decide) rfl (fun w => (Step.indexAddr (i := ib_) (Try.un56).run Try.el61.sized rfl rfl (by omega) hb39 (by omega))) ?_
              refine TW.read (v := (Value.agg #[(Value.int .i64 x41.at_), (Value.int .i64 x41.turn)])) rfl (by decide) (by decide) rfl (fun A w M => (Step.loadEN (k := 0) (cs' := [(Value.int .i64 x41.at_), (Value.int .i64 x41.turn)]) Try.ag61 (flat_ec (M.rep 1 rfl) hx41 handleE_len) (by decide) rfl rfl rfl)) ?_
              refine TW.pure (v := (Value.pointer (some ⟨b15, 2, none⟩))) rfl (by decide) (by decide) rfl (fun w => (Step.pure (by kernel_rfl))) ?_
              refine TW.read (v := dv2) rfl (by decide) (by decide) rfl (fun A w M => (Step.load1 Try.sc56 rfl ((M.cell 1 rfl 2).trans rfl))) ?_
              refine TW.pure (v := (Value.int .i64 ↑ib_)) rfl (by decide) (by decide) rfl (fun w => (Step.move rfl)) ?_
              refine TW.pure (v := (Value.pointer (some ⟨(sBlk dv2), sOff dv2 + ib_ * 2, none⟩))) rfl (by decide) (by decide) rfl (fun w => (Step.indexAddr (i := ib_) (Try.un56).run Try.el61.sized rfl rfl (by omega) hb42 (by omega))) ?_
              refine TW.read (v := (Value.agg #[(Value.int .i64 x44.at_), (Value.int .i64 x44.turn)])) rfl (by decide) (by decide) rfl (fun A w M => (Step.loadEN (k := 0) (cs' := [(Value.int .i64 x44.at_), (Value.int .i64 x44.turn)]) Try.ag61 (flat_ec (M.rep 4 rfl) hx44 handleE_len) (by decide) rfl rfl rfl)) ?_
              refine TW.pure (v := (Value.bool (!(((x41.at_ : Int) == (x44.at_ : Int)) && (((x41.turn : Int) == (x44.turn : Int)) && true))))) rfl (by decide) (by decide) rfl (fun w => (Step.neqAgg Try.eg61 rfl rfl rfl (Try.eq61 9998 (x41.at_ : Int) (x41.turn : Int) (x44.at_ : Int) (x44.turn : Int)))) ?_
              refine TW.done (fun w45 M => ?_)
              refine W.cond (t := !(((x41.at_ : Int) == (x44.at_ : Int)) && (((x41.turn : Int) == (x44.turn : Int)) && true))) rfl (fun h46 => ?_) (fun h46 => ?_)
              ·
                refine W.seq' ?_
                refine W.region rfl ?_
                refine WL.step (v := (Value.bool false)) rfl (Step.assign rfl) ?_
                refine WL.nil ?_
                refine W.ret ?_
                refine ⟨.inl rfl, (Value.bool false), ?_, ?_⟩
                · exact (Res.r1 (show RV _ _ _ (.tmp 4) (Value.bool false) from by exact rfl))
                refine ⟨?_, M.close [] rfl (by decide) trivial⟩
                refine congrArg Value.bool (Eq.symm ?_)
                exact nodeEq_kids (list_ne_of hx41 hx44 (handle_ne h46))
              ·
                refine W.skip ?_
                refine W.region rfl ?_
                refine WL.step (v := (Value.int .i64 ↑ib_)) rfl (Step.move rfl) ?_
                refine WL.step (v := (Value.int .i64 (↑ib_ + 1))) rfl (Step.add rfl rfl (wrap_i64 (by omega))) ?_
                refine WL.step (v := (Value.int .i64 (↑ib_ + 1))) rfl (Step.assign rfl) ?_
                refine WL.nil ?_
                have hs := list_step hx41 hx44 (handle_eq h46) hi37
                exact ⟨_, (by omega), ib_ + 1, ⟨(by omega), hs, rfl⟩, ⟨rfl, rfl, rfl, trivial⟩, M⟩
            ·
              have h38p := of_decide_eq_false h38
              refine W.exit ?_
              refine thn_exit ?_
              refine thn_exit ?_
              refine inBlk_hit ?_
              refine W.seq' ?_
              refine W.seq' ?_
              refine W.region rfl ?_
              refine WL.step (v := (Value.int .i64 0)) rfl (Step.assign rfl) ?_
              refine WL.nil ?_
              refine W.block ?_
              refine W.loop (fun kk ρ w' => ∃ (ic_ : Nat), ((ic_ ≤ a.vals.length) ∧ (∀ j, j < ic_ → a.vals[j]? = b.vals[j]?) ∧ kk = a.vals.length - ic_) ∧ ρ.has [(2, (Value.pointer (some ⟨b13, 0, none⟩))), (3, (Value.pointer (some ⟨b15, 0, none⟩))), (7, (Value.int .i64 ↑ic_))] ∧ Mem G (fun _ => False) w [blk b15 (.cells #[(Value.bool b.leaf), kv2, dv2, vv2] 58), blk b13 (.cells #[(Value.bool a.leaf), kv, dv, vv] 58)] [SlAt 1 kv a.keys.length (a.keys.flatMap strE), SlAt 2 dv a.kids.length (a.kids.flatMap handleE), SlAt 1 vv a.vals.length (a.vals.flatMap intE), SlAt 1 kv2 b.keys.length (b.keys.flatMap strE), SlAt 2 dv2 b.kids.length (b.kids.flatMap handleE), SlAt 1 vv2 b.vals.length (b.vals.flatMap intE)]  w') _ ⟨0, ⟨(Nat.zero_le _), (fun _ h => absurd h (Nat.not_lt_zero _)), rfl⟩, ⟨rfl, rfl, rfl, trivial⟩, M⟩ ?_
              rintro _ ρ48 w47 ⟨ic_, ⟨hi49, hi50, rfl⟩, hρ, M⟩
              obtain ⟨ρ48, rfl⟩ := hρ.know
              clear hρ
              refine W.seq' ?_
              refine W.seq' ?_
              refine W.region rfl ?_
              refine WL.step (v := (Value.int .i64 ↑ic_)) rfl (Step.move rfl) ?_
              refine WL.step (v := (Value.pointer (some ⟨b13, 3, none⟩))) rfl (Step.pure (by kernel_rfl)) ?_
              refine WL.step (v := vv) rfl (Step.load1 Try.sc22 rfl ((M.cell 1 rfl 3).trans rfl)) ?_
              refine WL.step (v := (Value.int .i64 ↑a.vals.length)) rfl (Step.lenSl Try.un22 rfl (M.rep 2 rfl)) ?_
              refine WL.step (v := (Value.bool (decide ((↑ic_ : Int) < (↑a.vals.length : Int))))) rfl (Step.pure (by kernel_rfl)) ?_
              refine WL.nil ?_
              refine W.cond (t := decide ((↑ic_ : Int) < (↑a.vals.length : Int))) rfl (fun h51 => ?_) (fun h51 => ?_)
              ·
                have h51p := of_decide_eq_true h51
                refine W.skip ?_
                refine W.seq' ?_
                refine W.block ?_
                refine W.seq' ?_
                obtain ⟨cap53, hb52⟩ := SlAt.base (M.rep 2 rfl) (by omega)
                obtain ⟨x54, hx54⟩ := elem_of_lt (xs := a.vals) (i := ic_) (by omega)
                obtain ⟨cap56, hb55⟩ := SlAt.base (M.rep 5 rfl) (by omega)
                obtain ⟨x57, hx57⟩ := elem_of_lt (xs := b.vals) (i := ic_) (by omega)
                refine W.drawn M [0, 1, 2, 3, 4, 5, 6, 7, 8, 9, 10] [] [] [blk b15 (.cells #[(Value.bool b.leaf), kv2, dv2, vv2] 58), blk b13 (.cells #[(Value.bool a.leaf), kv, dv, vv] 58)] [SlAt 1 kv a.keys.length (a.keys.flatMap strE), SlAt 2 dv a.kids.length (a.kids.flatMap handleE), SlAt 1 vv a.vals.length (a.vals.flatMap intE), SlAt 1 kv2 b.keys.length (b.keys.flatMap strE), SlAt 2 dv2 b.kids.length (b.kids.flatMap handleE), SlAt 1 vv2 b.vals.length (b.vals.flatMap intE)] (List.Sublist.cons_cons _ (List.Sublist.cons_cons _ List.Sublist.slnil)) (fun _ h => h) Try.mixed (by kernel_rfl) ?_
                refine TW.pure (v := (Value.pointer (some ⟨b13, 3, none⟩))) rfl (by decide) (by decide) rfl (fun w => (Step.pure (by kernel_rfl))) ?_
                refine TW.read (v := vv) rfl (by decide) (by decide) rfl (fun A w M => (Step.load1 Try.sc22 rfl ((M.cell 2 rfl 3).trans rfl))) ?_
                refine TW.pure (v := (Value.int .i64 ↑ic_)) rfl (by decide) (by decide) rfl (fun w => (Step.move rfl)) ?_
                refine TW.pure (v := (Value.pointer (some ⟨(sBlk vv), sOff vv + ic_ * 1, none⟩))) rfl (by decide) (by decide) rfl (fun w => (Step.indexAddr (i := ic_) (Try.un22).run Try.el3.sized rfl rfl (by omega) hb52 (by omega))) ?_
                refine TW.read (v := (Value.int .i64 x54)) rfl (by decide) (by decide) rfl (fun A w M => (Step.loadE (k := 0) Try.sc3 (flat_ec (M.rep 2 rfl) hx54 intE_len) (by decide) rfl rfl)) ?_
                refine TW.pure (v := (Value.pointer (some ⟨b15, 3, none⟩))) rfl (by decide) (by decide) rfl (fun w => (Step.pure (by kernel_rfl))) ?_
                refine TW.read (v := vv2) rfl (by decide) (by decide) rfl (fun A w M => (Step.load1 Try.sc22 rfl ((M.cell 1 rfl 3).trans rfl))) ?_
                refine TW.pure (v := (Value.int .i64 ↑ic_)) rfl (by decide) (by decide) rfl (fun w => (Step.move rfl)) ?_
                refine TW.pure (v := (Value.pointer (some ⟨(sBlk vv2), sOff vv2 + ic_ * 1, none⟩))) rfl (by decide) (by decide) rfl (fun w => (Step.indexAddr (i := ic_) (Try.un22).run Try.el3.sized rfl rfl (by omega) hb55 (by omega))) ?_
                refine TW.read (v := (Value.int .i64 x57)) rfl (by decide) (by decide) rfl (fun A w M => (Step.loadE (k := 0) Try.sc3 (flat_ec (M.rep 5 rfl) hx57 intE_len) (by decide) rfl rfl)) ?_
                refine TW.pure (v := (Value.bool ((x54 : Int) != (x57 : Int)))) rfl (by decide) (by decide) rfl (fun w => (Step.pure (by kernel_rfl))) ?_
                refine TW.done (fun w58 M => ?_)
                refine W.cond (t := (x54 : Int) != (x57 : Int)) rfl (fun h59 => ?_) (fun h59 => ?_)
                ·
                  have h59p : ¬ (x54 : Int) = (x57 : Int) := by simpa using h59
                  refine W.seq' ?_
                  refine W.region rfl ?_
                  refine WL.step (v := (Value.bool false)) rfl (Step.assign rfl) ?_
                  refine WL.nil ?_
                  refine W.ret ?_
                  refine ⟨.inl rfl, (Value.bool false), ?_, ?_⟩
                  · exact (Res.r1 (show RV _ _ _ (.tmp 4) (Value.bool false) from by exact rfl))
                  refine ⟨?_, M.close [] rfl (by decide) trivial⟩
                  refine congrArg Value.bool (Eq.symm ?_)
                  exact nodeEq_vals (list_ne_of hx54 hx57 (by simpa using h59))
                ·
                  have h59p : (x54 : Int) = (x57 : Int) := by simpa using h59
                  refine W.skip ?_
                  refine W.region rfl ?_
                  refine WL.step (v := (Value.int .i64 ↑ic_)) rfl (Step.move rfl) ?_
                  refine WL.step (v := (Value.int .i64 (↑ic_ + 1))) rfl (Step.add rfl rfl (wrap_i64 (by omega))) ?_
                  refine WL.step (v := (Value.int .i64 (↑ic_ + 1))) rfl (Step.assign rfl) ?_
                  refine WL.nil ?_
                  have hs := list_step hx54 hx57 (by simpa using h59) hi50
                  exact ⟨_, (by omega), ic_ + 1, ⟨(by omega), hs, rfl⟩, ⟨rfl, rfl, rfl, trivial⟩, M⟩
              ·
                have h51p := of_decide_eq_false h51
                refine W.exit ?_
                refine thn_exit ?_
                refine thn_exit ?_
                refine inBlk_hit ?_
                refine W.seq' ?_
                refine W.region rfl ?_
                refine WL.step (v := (Value.bool true)) rfl (Step.assign rfl) ?_
                refine WL.nil ?_
                refine W.ret ?_
                refine ⟨.inl rfl, (Value.bool true), ?_, ?_⟩
                · exact (Res.r1 (show RV _ _ _ (.tmp 4) (Value.bool true) from by exact rfl))
                refine ⟨?_, M.close [] rfl (by decide) trivial⟩
                refine congrArg Value.bool (Eq.symm ?_)
                exact nodeEq_yes (by first | assumption | simpa using h17) (list_eq_of (by omega) hi24 (by omega)) (list_eq_of (by omega) hi37 (by omega)) (list_eq_of (by omega) hi50 (by omega))

theorem ref_with {G : Nat → Prop} {w : World} (v : Value) (xs : List RPlace) (at_ : Int) (u : Bool) (t : Int) (kv : Value) (dv : Value) (vv : Value) (n : Nd) (hat : 0 ≤ at_ ∧ at_ ≤ xs.length) (hxs : xs.length ≤ 1000000) (M : Mem G (fun _ => False) w [] [RepS RPlaceT v xs, SlAt 1 kv n.keys.length (n.keys.flatMap strE), SlAt 2 dv n.kids.length (n.kids.flatMap handleE), SlAt 1 vv n.vals.length (n.vals.flatMap intE)] w) : Rets Try.prog 46 #[(Value.agg #[v]), (Value.int .i64 at_), (Value.agg #[(Value.bool u), (Value.int .i64 t), (Value.bool n.leaf), kv, dv, vv])] w fun r w' => ∃ (v' : Value), r = (Value.agg #[v']) ∧ Mem G (fun _ => False) w [] [RepS RPlaceT v' (rwith xs at_ ⟨u, t, n⟩)] w' := by
  refine Rets.enter 31 _ Try.func46 rfl Try.ntmps46 Try.results46 (by simp) ?_
  have hle1 := RepS.le' (M.rep 0 rfl)
  have hle2 := SlAt.le' (M.rep 1 rfl)
  have hle3 := SlAt.le' (M.rep 2 rfl)
  have hle4 := SlAt.le' (M.rep 3 rfl)
  have sl5 : IsSl v := RepS.isSl (Mem.rep M 0 rfl)
  have sl6 : IsSl kv := SlAt.isSl (Mem.rep M 1 rfl)
  have sl7 : IsSl dv := SlAt.isSl (Mem.rep M 2 rfl)
  have sl8 : IsSl vv := SlAt.isSl (Mem.rep M 3 rfl)
  obtain ⟨cs9, M⟩ := M.openS 0 rfl
  refine W.seq' ?_
  refine W.region rfl ?_
  refine WL.box (v := (Value.agg #[v])) (c := #[v]) M rfl rfl rfl (fun b10 w11 hb10 M => ?_)
  refine WL.box (v := (Value.agg #[(Value.bool u), (Value.int .i64 t), (Value.bool n.leaf), kv, dv, vv])) (c := #[(Value.bool u), (Value.int .i64 t), (Value.bool n.leaf), kv, dv, vv]) M rfl rfl rfl (fun b12 w13 hb12 M => ?_)
  refine WL.alloc (c := #[(Value.slice none 0 0)]) M rfl Try.el47.zero rfl (fun b14 w15 hb14 M => ?_)
  refine WL.nil ?_
  refine W.seq' ?_
  refine W.region rfl ?_
  refine WL.alloc (c := #[(Value.slice none 0 0)]) M rfl Try.el47.zero rfl (fun b16 w17 hb16 M => ?_)
  refine WL.nil ?_
  refine W.seq' ?_
  refine W.region rfl ?_
  refine WL.step (v := (Value.pointer (some ⟨b16, 0, none⟩))) rfl (Step.pure (by kernel_rfl)) ?_
  refine WL.step (v := (Value.slice none 0 0)) rfl (Step.load1 Try.sc45 rfl ((M.cell 0 rfl 0).trans rfl)) ?_
  refine WL.step (v := (Value.pointer (some ⟨b10, 0, none⟩))) rfl (Step.pure (by kernel_rfl)) ?_
  refine WL.step (v := v) rfl (Step.load1 Try.sc45 rfl ((M.cell 3 rfl 0).trans rfl)) ?_
  replace M := M.ownNil 93 6
  replace M : Mem _ _ _ [own 93 6 (Value.slice none 0 0) 0 ([]), blk b16 (.cells #[(Value.slice none 0 0)] 47), blk b14 (.cells #[(Value.slice none 0 0)] 47), blk b12 (.cells #[(Value.bool u), (Value.int .i64 t), (Value.bool n.leaf), kv, dv, vv] 93), blk b10 (.cells #[v] 47)] [SlAt 6 v xs.length cs9, RepL RPlaceT cs9 xs, RepS RPlaceT v xs, SlAt 1 kv n.keys.length (n.keys.flatMap strE), SlAt 2 dv n.kids.length (n.kids.flatMap handleE), SlAt 1 vv n.vals.length (n.vals.flatMap intE)] _ := M
  refine WL.does rfl (M.append (sv := v) (news := cs9) 0 Try.un45 Try.el93 rfl (by decide) rfl rfl rfl (M.rep 0 rfl) (Step.Cellish.one (repL_one (M.rep 1 rfl) rplace_cel)) (by have := hxs; simp only [maxLen]; omega) (by have := hxs; omega)) ?_
  rintro v18 w19 ⟨-, -, M⟩
  replace M : Mem _ _ _ [own 93 6 v18 (0 + xs.length) (([]) ++ cs9), blk b16 (.cells #[(Value.slice none 0 0)] 47), blk b14 (.cells #[(Value.slice none 0 0)] 47), blk b12 (.cells #[(Value.bool u), (Value.int .i64 t), (Value.bool n.leaf), kv, dv, vv] 93), blk b10 (.cells #[v] 47)] [SlAt 6 v xs.length cs9, RepL RPlaceT cs9 xs, RepS RPlaceT v xs, SlAt 1 kv n.keys.length (n.keys.flatMap strE), SlAt 2 dv n.kids.length (n.kids.flatMap handleE), SlAt 1 vv n.vals.length (n.vals.flatMap intE)] _ := M
  replace M := M.rechunk 0 (c' := own 93 6 v18 xs.length cs9) rfl (by rw [Nat.zero_add, List.nil_append])
  replace M : Mem _ _ _ [own 93 6 v18 xs.length cs9, blk b16 (.cells #[(Value.slice none 0 0)] 47), blk b14 (.cells #[(Value.slice none 0 0)] 47), blk b12 (.cells #[(Value.bool u), (Value.int .i64 t), (Value.bool n.leaf), kv, dv, vv] 93), blk b10 (.cells #[v] 47)] [SlAt 6 v xs.length cs9, RepL RPlaceT cs9 xs, RepS RPlaceT v xs, SlAt 1 kv n.keys.length (n.keys.flatMap strE), SlAt 2 dv n.kids.length (n.kids.flatMap handleE), SlAt 1 vv n.vals.length (n.vals.flatMap intE)] _ := M
  have sl20 : IsSl v18 := SlAt.isSl (own_slAt (M.chunk 0 rfl).inv)
  refine WL.step (v := (Value.pointer (some ⟨b16, 0, none⟩))) rfl (Step.pure (by kernel_rfl)) ?_
  refine WL.store (v := v18) (cs := [v18]) (c' := #[v18]) M 1 rfl rfl Try.el45.sized rfl rfl (IsSl.list sl20) rfl (Nat.le_of_ble_eq_true rfl) (cel_cons (IsSl.cel sl20) cel_nil) rfl rfl (fun w21 M => ?_)
  refine WL.nil ?_
  refine W.seq' ?_
  refine W.seq' ?_
  refine W.region rfl ?_
  refine WL.step (v := (Value.int .i64 at_)) rfl (Step.move rfl) ?_
  refine WL.step (v := (Value.pointer (some ⟨b16, 0, none⟩))) rfl (Step.pure (by kernel_rfl)) ?_
  refine WL.step (v := v18) rfl (Step.load1 Try.sc45 rfl ((M.cell 1 rfl 0).trans rfl)) ?_
  refine WL.step (v := (Value.int .i64 ↑xs.length)) rfl (Step.lenSl Try.un45 rfl (own_slAt (M.chunk 0 rfl).inv)) ?_
  refine WL.step (v := (Value.bool ((at_ : Int) == (↑xs.length : Int)))) rfl (Step.pure (by kernel_rfl)) ?_
  refine WL.nil ?_
  refine W.cond (t := (at_ : Int) == (↑xs.length : Int)) rfl (fun h22 => ?_) (fun h22 => ?_)
  ·
    have h22p : (at_ : Int) = (↑xs.length : Int) := by simpa using h22
    refine W.region rfl ?_
    refine WL.step (v := (Value.pointer (some ⟨b16, 0, none⟩))) rfl (Step.pure (by kernel_rfl)) ?_
    refine WL.step (v := v18) rfl (Step.load1 Try.sc45 rfl ((M.cell 1 rfl 0).trans rfl)) ?_
    refine WL.step (v := (Value.agg #[(Value.bool u), (Value.int .i64 t), (Value.bool n.leaf), kv, dv, vv])) rfl (Step.loadN Try.ag93 rfl (M.blk 3 rfl) (Nat.le_of_ble_eq_true rfl) rfl) ?_
    refine WL.new (obj := .cells #[(Value.bool u), (Value.int .i64 t), (Value.bool n.leaf), kv, dv, vv] 93) (fun b => .slice (some ⟨b, 0, none⟩) 1 1) M rfl (fun w => Step.make (by kernel_rfl)) (fun b23 w24 hb23 M => ?_)
    refine WL.does rfl (M.append (sv := (Value.slice (some ⟨b23, 0, none⟩) 1 1)) (news := [(Value.bool u), (Value.int .i64 t), (Value.bool n.leaf), kv, dv, vv]) 1 Try.un45 Try.el93 rfl (by decide) rfl rfl rfl (SlAt.of_blk (M.blk 0 rfl) rfl (by decide)) (Step.Cellish.one (cel_cons rfl (cel_cons rfl (cel_cons rfl (cel_cons (IsSl.cel sl6) (cel_cons (IsSl.cel sl7) (cel_cons (IsSl.cel sl8) cel_nil))))))) (by have := hxs; simp only [maxLen]; omega) (by have := hxs; omega)) ?_
    rintro v25 w26 ⟨-, -, M⟩
    replace M : Mem _ _ _ [blk b23 (.cells #[(Value.bool u), (Value.int .i64 t), (Value.bool n.leaf), kv, dv, vv] 93), own 93 6 v25 (xs.length + 1) (cs9 ++ ([(Value.bool u), (Value.int .i64 t), (Value.bool n.leaf), kv, dv, vv])), blk b16 (.cells #[v18] 47), blk b14 (.cells #[(Value.slice none 0 0)] 47), blk b12 (.cells #[(Value.bool u), (Value.int .i64 t), (Value.bool n.leaf), kv, dv, vv] 93), blk b10 (.cells #[v] 47)] [SlAt 6 v xs.length cs9, RepL RPlaceT cs9 xs, RepS RPlaceT v xs, SlAt 1 kv n.keys.length (n.keys.flatMap strE), SlAt 2 dv n.kids.length (n.kids.flatMap handleE), SlAt 1 vv n.vals.length (n.vals.flatMap intE)] _ := M
    have sl27 : IsSl v25 := SlAt.isSl (own_slAt (M.chunk 1 rfl).inv)
    refine WL.step (v := (Value.pointer (some ⟨b16, 0, none⟩))) rfl (Step.pure (by kernel_rfl)) ?_
    refine WL.store (v := v25) (cs := [v25]) (c' := #[v25]) M 2 rfl rfl Try.el45.sized rfl rfl (IsSl.list sl27) rfl (Nat.le_of_ble_eq_true rfl) (cel_cons (IsSl.cel sl27) cel_nil) rfl rfl (fun w28 M => ?_)
    refine WL.nil ?_
    refine W.seq' ?_
    refine W.region rfl ?_
    refine WL.step (v := (Value.agg #[v25])) rfl (Step.loadN Try.ag47 rfl (M.blk 2 rfl) (Nat.le_of_ble_eq_true rfl) rfl) ?_
    refine WL.store (v := (Value.agg #[v25])) (cs := [v25]) (c' := #[v25]) M 3 rfl rfl Try.el47.sized rfl rfl rfl rfl (Nat.le_of_ble_eq_true rfl) (cel_cons (IsSl.cel sl27) cel_nil) rfl rfl (fun w29 M => ?_)
    refine WL.nil ?_
    refine W.ret ?_
    refine ⟨.inl rfl, (Value.agg #[v25]), ?_, ?_⟩
    · exact (Res.r1 (RV.cellN Try.ag47 rfl (M.blk 3 rfl) rfl))
    replace M := M.shareOwn 1 rfl
    replace M : Mem _ _ _ [blk b23 (.cells #[(Value.bool u), (Value.int .i64 t), (Value.bool n.leaf), kv, dv, vv] 93), blk b16 (.cells #[v25] 47), blk b14 (.cells #[v25] 47), blk b12 (.cells #[(Value.bool u), (Value.int .i64 t), (Value.bool n.leaf), kv, dv, vv] 93), blk b10 (.cells #[v] 47)] [SlAt 6 v25 (xs.length + 1) (cs9 ++ ([(Value.bool u), (Value.int .i64 t), (Value.bool n.leaf), kv, dv, vv])), SlAt 6 v xs.length cs9, RepL RPlaceT cs9 xs, RepS RPlaceT v xs, SlAt 1 kv n.keys.length (n.keys.flatMap strE), SlAt 2 dv n.kids.length (n.kids.flatMap handleE), SlAt 1 vv n.vals.length (n.vals.flatMap intE)] _ := M
    refine ⟨_, rfl, M.close [] rfl (by decide) ⟨((M.shr' 0 rfl).and ((M.shr' 2 rfl).and ((M.shr' 4 rfl).and ((M.shr' 5 rfl).and (M.shr' 6 rfl))))).imp fun w ⟨h1, h2, h3, h4, h5⟩ => rwith_app (by omega) h1 h2 h3 h4 h5, trivial⟩⟩
  ·
    have h22p : ¬ (at_ : Int) = (↑xs.length : Int) := by simpa using h22
    refine W.region rfl ?_
    refine WL.step (v := (Value.pointer (some ⟨b16, 0, none⟩))) rfl (Step.pure (by kernel_rfl)) ?_
    refine WL.step (v := v18) rfl (Step.load1 Try.sc45 rfl ((M.cell 1 rfl 0).trans rfl)) ?_
    refine WL.step (v := (Value.int .i64 at_)) rfl (Step.move rfl) ?_
    refine WL.step (v := (Value.agg #[(Value.bool u), (Value.int .i64 t), (Value.bool n.leaf), kv, dv, vv])) rfl (Step.loadN Try.ag93 rfl (M.blk 3 rfl) (Nat.le_of_ble_eq_true rfl) rfl) ?_
    obtain ⟨cap31, hb30⟩ := SlAt.base (own_slAt (M.chunk 0 rfl).inv) (by omega)
    refine WL.step (v := (Value.pointer (some ⟨(sBlk v18), sOff v18 + at_.toNat * 6, none⟩))) rfl (Step.indexAddr (i := at_.toNat) (Try.un45).run Try.el93.sized rfl rfl (by omega) hb30 (by omega)) ?_
    refine WL.act rfl (M.storeRow (new := [(Value.bool u), (Value.int .i64 t), (Value.bool n.leaf), kv, dv, vv]) (j := at_.toNat) (k := 0) 0 rfl Try.el93.sized rfl rfl rfl (cel_cons rfl (cel_cons rfl (cel_cons rfl (cel_cons (IsSl.cel sl6) (cel_cons (IsSl.cel sl7) (cel_cons (IsSl.cel sl8) cel_nil)))))) (by omega) (Nat.le_of_ble_eq_true rfl)) ?_
    rintro w32 ⟨M, -⟩
    replace M : Mem _ _ _ [own 93 6 v18 xs.length (splice cs9 (at_.toNat * 6 + 0) [(Value.bool u), (Value.int .i64 t), (Value.bool n.leaf), kv, dv, vv]), blk b16 (.cells #[v18] 47), blk b14 (.cells #[(Value.slice none 0 0)] 47), blk b12 (.cells #[(Value.bool u), (Value.int .i64 t), (Value.bool n.leaf), kv, dv, vv] 93), blk b10 (.cells #[v] 47)] [SlAt 6 v xs.length cs9, RepL RPlaceT cs9 xs, RepS RPlaceT v xs, SlAt 1 kv n.keys.length (n.keys.flatMap strE), SlAt 2 dv n.kids.length (n.kids.flatMap handleE), SlAt 1 vv n.vals.length (n.vals.flatMap intE)] _ := M
    refine WL.nil ?_
    refine W.seq' ?_
    refine W.region rfl ?_
    refine WL.step (v := (Value.agg #[v18])) rfl (Step.loadN Try.ag47 rfl (M.blk 1 rfl) (Nat.le_of_ble_eq_true rfl) rfl) ?_
    refine WL.store (v := (Value.agg #[v18])) (cs := [v18]) (c' := #[v18]) M 2 rfl rfl Try.el47.sized rfl rfl rfl rfl (Nat.le_of_ble_eq_true rfl) (cel_cons (IsSl.cel sl20) cel_nil) rfl rfl (fun w33 M => ?_)
    refine WL.nil ?_
    refine W.ret ?_
    refine ⟨.inl rfl, (Value.agg #[v18]), ?_, ?_⟩
    · exact (Res.r1 (RV.cellN Try.ag47 rfl (M.blk 2 rfl) rfl))
    replace M := M.shareOwn 0 rfl
    replace M : Mem _ _ _ [blk b16 (.cells #[v18] 47), blk b14 (.cells #[v18] 47), blk b12 (.cells #[(Value.bool u), (Value.int .i64 t), (Value.bool n.leaf), kv, dv, vv] 93), blk b10 (.cells #[v] 47)] [SlAt 6 v18 xs.length (splice cs9 (at_.toNat * 6 + 0) [(Value.bool u), (Value.int .i64 t), (Value.bool n.leaf), kv, dv, vv]), SlAt 6 v xs.length cs9, RepL RPlaceT cs9 xs, RepS RPlaceT v xs, SlAt 1 kv n.keys.length (n.keys.flatMap strE), SlAt 2 dv n.kids.length (n.kids.flatMap handleE), SlAt 1 vv n.vals.length (n.vals.flatMap intE)] _ := M
    refine ⟨_, rfl, M.close [] rfl (by decide) ⟨((M.shr' 0 rfl).and ((M.shr' 2 rfl).and ((M.shr' 4 rfl).and ((M.shr' 5 rfl).and (M.shr' 6 rfl))))).imp fun w ⟨h1, h2, h3, h4, h5⟩ => rwith_set (by omega) (by omega) h1 h2 h3 h4 h5, trivial⟩⟩
end Go.Proofs
