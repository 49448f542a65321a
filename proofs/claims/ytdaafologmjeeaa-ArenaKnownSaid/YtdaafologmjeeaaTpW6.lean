/- Walks. -/
import Derived.Test.YtdaafologmjeeaaTpW5
import Derived.Test.YtdaafologmjeeaaTpLaw11
set_option maxRecDepth 100000
set_option linter.all false
namespace Go.Proofs
open Go Tp
theorem Try.un9 : Und Try.prog 9 (.string) := by unfold Und; kernel_rfl
theorem Try.un43 : Und Try.prog 43 (.slice 51) := by unfold Und; kernel_rfl
theorem Try.el51 : Elem Try.prog 51 (Value.agg #[(Value.int .i64 0), (Value.bool false), (Value.slice none 0 0), (Value.slice none 0 0), (Value.slice none 0 0), (Value.slice none 0 0)]) 6 112 := Elem.mk (by kernel_rfl)

theorem law_few {G : Nat → Prop} {w : World} (v : Value) (l : List AAct) (top : Int)  (M : Mem G (fun _ => False) w [] [RepS ActT v l] w) : Rets Try.prog 17 #[v, (Value.int .i64 top)] w fun r w' => r = (Value.bool (fewB l top)) ∧ Mem G (fun _ => False) w [] [] w' := by
  refine Rets.enter 66 _ Try.func17 rfl Try.ntmps17 Try.results17 (by simp) ?_
  have hle1 := RepS.le' (M.rep 0 rfl)
  have sl2 : IsSl v := RepS.isSl (Mem.rep M 0 rfl)
  obtain ⟨cs3, M⟩ := M.openS 0 rfl
  refine W.seq' ?_
  refine W.region rfl ?_
  refine WL.step (v := (Value.bool false)) rfl (Step.assign rfl) ?_
  refine WL.nil ?_
  refine W.seq' ?_
  refine W.seq' ?_
  refine W.region rfl ?_
  refine WL.step (v := (Value.int .i64 0)) rfl (Step.assign rfl) ?_
  refine WL.nil ?_
  refine W.block ?_
  refine W.loop (fun kk ρ w' => ∃ (ia_ : Nat), ((ia_ ≤ l.length) ∧ (ia_ ≤ 100) ∧ (∀ (j : Nat) (a : AAct), j < ia_ → l[j]? = some a → okAct a = true) ∧ kk = l.length - ia_) ∧ ρ.has [(0, v), (1, (Value.int .i64 top)), (5, (Value.int .i64 ↑ia_))] ∧ Mem G (fun _ => False) w [] [SlAt 6 v l.length cs3, RepL ActT cs3 l, RepS ActT v l]  w') _ ⟨0, ⟨(Nat.zero_le _), (Nat.zero_le _), (fun _ _ h => absurd h (Nat.not_lt_zero _)), rfl⟩, ⟨rfl, rfl, rfl, trivial⟩, M⟩ ?_
  rintro _ ρ5 w4 ⟨ia_, ⟨hi6, hi7, hi8, rfl⟩, hρ, M⟩
  obtain ⟨ρ5, rfl⟩ := hρ.know
  clear hρ
  refine W.seq' ?_
  refine W.seq' ?_
  refine W.region rfl ?_
  refine WL.step (v := (Value.int .i64 ↑ia_)) rfl (Step.move rfl) ?_
  refine WL.step (v := v) rfl (Step.move rfl) ?_
  refine WL.step (v := (Value.int .i64 ↑l.length)) rfl (Step.lenSl Try.un43 rfl (M.rep 0 rfl)) ?_
  refine WL.step (v := (Value.bool (decide ((↑ia_ : Int) < (↑l.length : Int))))) rfl (Step.pure (by kernel_rfl)) ?_
  refine WL.step (v := (Value.bool (decide ((↑ia_ : Int) < (↑l.length : Int))))) rfl (Step.move rfl) ?_
  rcases Bool.eq_false_or_eq_true (decide ((↑ia_ : Int) < (↑l.length : Int))) with h9 | h9
  ·
    have h9p := of_decide_eq_true h9
    rw [h9]
    refine WL.step (v := (Value.int .i64 ↑ia_)) rfl (Step.move rfl) ?_
    refine WL.step (v := (Value.bool (decide ((↑ia_ : Int) < (100 : Int))))) rfl (Step.pure (by kernel_rfl)) ?_
    refine WL.step (v := (Value.bool (decide ((↑ia_ : Int) < (100 : Int))))) rfl (Step.pick (t := true) rfl rfl) ?_
    refine WL.nil ?_
    refine W.cond (t := decide ((↑ia_ : Int) < (100 : Int))) rfl (fun h10 => ?_) (fun h10 => ?_)
    ·
      have h10p := of_decide_eq_true h10
      refine W.skip ?_
      refine W.seq' ?_
      refine W.block ?_
      refine W.seq' ?_
      refine W.region rfl ?_
      refine WL.step (v := v) rfl (Step.move rfl) ?_
      refine WL.step (v := (Value.int .i64 ↑ia_)) rfl (Step.move rfl) ?_
      obtain ⟨cap12, hb11⟩ := SlAt.base (M.rep 0 rfl) (by omega)
      obtain ⟨p13, hp13⟩ := elem_of_lt (xs := l) (i := ia_) (by omega)
      obtain ⟨kv14, dv15, vv16, hv17, M⟩ := act_open M 0 1 rfl rfl rfl hp13
      have sl18 : IsSl kv14 := SlAt.isSl (Mem.rep M 1 rfl)
      have sl19 : IsSl dv15 := SlAt.isSl (Mem.rep M 2 rfl)
      have sl20 : IsSl vv16 := SlAt.isSl (Mem.rep M 3 rfl)
      have sl21 : IsSl hv17 := SlAt.isSl (Mem.rep M 4 rfl)
      refine WL.step (v := (Value.pointer (some ⟨(sBlk v), sOff v + ia_ * 6, none⟩))) rfl (Step.indexAddr (i := ia_) (Try.un43).run Try.el51.sized rfl rfl (by omega) hb11 (by omega)) ?_
      refine WL.step (v := (Value.pointer (some ⟨(sBlk v), sOff v + ia_ * 6 + 1, none⟩))) rfl (Step.pure (by kernel_rfl)) ?_
      refine WL.step (v := (Value.agg #[(Value.bool p13.node.leaf), kv14, dv15, vv16])) rfl (Step.loadEN (k := 1) (cs' := [(Value.bool p13.node.leaf), kv14, dv15, vv16]) Try.ag36 (M.rep 0 rfl : EC _ _ _ _ _) (by decide) rfl rfl rfl) ?_
      refine WL.alloc (c := #[(Value.bool false), (Value.slice none 0 0), (Value.slice none 0 0), (Value.slice none 0 0)]) M rfl Try.el36.zero rfl (fun b22 w23 hb22 M => ?_)
      refine WL.store (v := (Value.agg #[(Value.bool p13.node.leaf), kv14, dv15, vv16])) (cs := [(Value.bool p13.node.leaf), kv14, dv15, vv16]) (c' := #[(Value.bool p13.node.leaf), kv14, dv15, vv16]) M 0 rfl rfl Try.el36.sized rfl rfl rfl rfl (Nat.le_of_ble_eq_true rfl) (cel_cons rfl (cel_cons (IsSl.cel sl18) (cel_cons (IsSl.cel sl19) (cel_cons (IsSl.cel sl20) cel_nil)))) rfl rfl (fun w24 M => ?_)
      refine WL.nil ?_
      refine W.seq' ?_
      refine W.seq' ?_
      refine W.region rfl ?_
      refine WL.step (v := (Value.pointer (some ⟨b22, 1, none⟩))) rfl (Step.pure (by kernel_rfl)) ?_
      refine WL.step (v := kv14) rfl (Step.load1 Try.sc34 rfl ((M.cell 0 rfl 1).trans rfl)) ?_
      refine WL.step (v := (Value.int .i64 ↑p13.node.keys.length)) rfl (Step.lenSl Try.un34 rfl (M.rep 1 rfl)) ?_
      refine WL.step (v := (Value.bool (decide ((↑p13.node.keys.length : Int) > (10 : Int))))) rfl (Step.pure (by kernel_rfl)) ?_
      refine WL.step (v := (Value.bool (decide ((↑p13.node.keys.length : Int) > (10 : Int))))) rfl (Step.move rfl) ?_
      rcases Bool.eq_false_or_eq_true (decide ((↑p13.node.keys.length : Int) > (10 : Int))) with h25 | h25
      ·
        have h25p := of_decide_eq_true h25
        rw [h25]
        refine WL.pass rfl ?_
        refine WL.pass rfl ?_
        refine WL.pass rfl ?_
        refine WL.pass rfl ?_
        refine WL.step (v := (Value.bool true)) rfl (Step.pick (t := true) rfl rfl) ?_
        refine WL.step (v := (Value.bool true)) rfl (Step.move rfl) ?_
        refine WL.pass rfl ?_
        refine WL.pass rfl ?_
        refine WL.pass rfl ?_
        refine WL.pass rfl ?_
        refine WL.step (v := (Value.bool true)) rfl (Step.pick (t := true) rfl rfl) ?_
        refine WL.step (v := (Value.bool true)) rfl (Step.move rfl) ?_
        refine WL.pass rfl ?_
        refine WL.pass rfl ?_
        refine WL.pass rfl ?_
        refine WL.pass rfl ?_
        refine WL.pass rfl ?_
        refine WL.pass rfl ?_
        refine WL.pass rfl ?_
        refine WL.step (v := (Value.bool true)) rfl (Step.pick (t := true) rfl rfl) ?_
        refine WL.nil ?_
        refine W.cond (t := true) rfl (fun _ => ?_) (fun h => by cases h)
        refine W.seq' ?_
        refine W.region rfl ?_
        refine WL.step (v := (Value.bool false)) rfl (Step.assign rfl) ?_
        refine WL.nil ?_
        refine W.ret ?_
        refine ⟨.inl rfl, (Value.bool false), ?_, ?_⟩
        · exact (Res.r1 (show RV _ _ _ (.tmp 4) (Value.bool false) from by exact rfl))
        refine ⟨?_, M.close [] rfl (by decide) trivial⟩
        refine congrArg Value.bool (Eq.symm ?_)
        exact few_bad hp13 (by omega) (okAct_no (by omega))
      ·
        have h25p := of_decide_eq_false h25
        rw [h25]
        refine WL.step (v := (Value.pointer (some ⟨b22, 2, none⟩))) rfl (Step.pure (by kernel_rfl)) ?_
        refine WL.step (v := dv15) rfl (Step.load1 Try.sc26 rfl ((M.cell 0 rfl 2).trans rfl)) ?_
        refine WL.step (v := (Value.int .i64 ↑p13.node.kids.length)) rfl (Step.lenSl Try.un26 rfl (M.rep 2 rfl)) ?_
        refine WL.step (v := (Value.bool (decide ((↑p13.node.kids.length : Int) > (10 : Int))))) rfl (Step.pure (by kernel_rfl)) ?_
        refine WL.step (v := (Value.bool (decide ((↑p13.node.kids.length : Int) > (10 : Int))))) rfl (Step.pick (t := false) rfl rfl) ?_
        refine WL.step (v := (Value.bool (decide ((↑p13.node.kids.length : Int) > (10 : Int))))) rfl (Step.move rfl) ?_
        rcases Bool.eq_false_or_eq_true (decide ((↑p13.node.kids.length : Int) > (10 : Int))) with h26 | h26
        ·
          have h26p := of_decide_eq_true h26
          rw [h26]
          refine WL.pass rfl ?_
          refine WL.pass rfl ?_
          refine WL.pass rfl ?_
          refine WL.pass rfl ?_
          refine WL.step (v := (Value.bool true)) rfl (Step.pick (t := true) rfl rfl) ?_
          refine WL.step (v := (Value.bool true)) rfl (Step.move rfl) ?_
          refine WL.pass rfl ?_
          refine WL.pass rfl ?_
          refine WL.pass rfl ?_
          refine WL.pass rfl ?_
          refine WL.pass rfl ?_
          refine WL.pass rfl ?_
          refine WL.pass rfl ?_
          refine WL.step (v := (Value.bool true)) rfl (Step.pick (t := true) rfl rfl) ?_
          refine WL.nil ?_
          refine W.cond (t := true) rfl (fun _ => ?_) (fun h => by cases h)
          refine W.seq' ?_
          refine W.region rfl ?_
          refine WL.step (v := (Value.bool false)) rfl (Step.assign rfl) ?_
          refine WL.nil ?_
          refine W.ret ?_
          refine ⟨.inl rfl, (Value.bool false), ?_, ?_⟩
          · exact (Res.r1 (show RV _ _ _ (.tmp 4) (Value.bool false) from by exact rfl))
          refine ⟨?_, M.close [] rfl (by decide) trivial⟩
          refine congrArg Value.bool (Eq.symm ?_)
          exact few_bad hp13 (by omega) (okAct_no (by omega))
        ·
          have h26p := of_decide_eq_false h26
          rw [h26]
          refine WL.step (v := (Value.pointer (some ⟨b22, 3, none⟩))) rfl (Step.pure (by kernel_rfl)) ?_
          refine WL.step (v := vv16) rfl (Step.load1 Try.sc22 rfl ((M.cell 0 rfl 3).trans rfl)) ?_
          refine WL.step (v := (Value.int .i64 ↑p13.node.vals.length)) rfl (Step.lenSl Try.un22 rfl (M.rep 3 rfl)) ?_
          refine WL.step (v := (Value.bool (decide ((↑p13.node.vals.length : Int) > (10 : Int))))) rfl (Step.pure (by kernel_rfl)) ?_
          refine WL.step (v := (Value.bool (decide ((↑p13.node.vals.length : Int) > (10 : Int))))) rfl (Step.pick (t := false) rfl rfl) ?_
          refine WL.step (v := (Value.bool (decide ((↑p13.node.vals.length : Int) > (10 : Int))))) rfl (Step.move rfl) ?_
          rcases Bool.eq_false_or_eq_true (decide ((↑p13.node.vals.length : Int) > (10 : Int))) with h27 | h27
          ·
            have h27p := of_decide_eq_true h27
            rw [h27]
            refine WL.pass rfl ?_
            refine WL.pass rfl ?_
            refine WL.pass rfl ?_
            refine WL.pass rfl ?_
            refine WL.pass rfl ?_
            refine WL.pass rfl ?_
            refine WL.pass rfl ?_
            refine WL.step (v := (Value.bool true)) rfl (Step.pick (t := true) rfl rfl) ?_
            refine WL.nil ?_
            refine W.cond (t := true) rfl (fun _ => ?_) (fun h => by cases h)
            refine W.seq' ?_
            refine W.region rfl ?_
            refine WL.step (v := (Value.bool false)) rfl (Step.assign rfl) ?_
            refine WL.nil ?_
            refine W.ret ?_
            refine ⟨.inl rfl, (Value.bool false), ?_, ?_⟩
            · exact (Res.r1 (show RV _ _ _ (.tmp 4) (Value.bool false) from by exact rfl))
            refine ⟨?_, M.close [] rfl (by decide) trivial⟩
            refine congrArg Value.bool (Eq.symm ?_)
            exact few_bad hp13 (by omega) (okAct_no (by omega))
          ·
            have h27p := of_decide_eq_false h27
            rw [h27]
            refine WL.step (v := v) rfl (Step.move rfl) ?_
            refine WL.step (v := (Value.int .i64 ↑ia_)) rfl (Step.move rfl) ?_
            refine WL.step (v := (Value.pointer (some ⟨(sBlk v), sOff v + ia_ * 6, none⟩))) rfl (Step.indexAddr (i := ia_) (Try.un43).run Try.el51.sized rfl rfl (by omega) hb11 (by omega)) ?_
            refine WL.step (v := (Value.pointer (some ⟨(sBlk v), sOff v + ia_ * 6 + 5, none⟩))) rfl (Step.pure (by kernel_rfl)) ?_
            refine WL.step (v := hv17) rfl (Step.loadE (k := 5) Try.sc26 (M.rep 0 rfl : EC _ _ _ _ _) (by decide) rfl rfl) ?_
            refine WL.step (v := (Value.int .i64 ↑p13.hs.length)) rfl (Step.lenSl Try.un26 rfl (M.rep 4 rfl)) ?_
            refine WL.step (v := (Value.bool (decide ((↑p13.hs.length : Int) > (6 : Int))))) rfl (Step.pure (by kernel_rfl)) ?_
            refine WL.step (v := (Value.bool (decide ((↑p13.hs.length : Int) > (6 : Int))))) rfl (Step.pick (t := false) rfl rfl) ?_
            refine WL.nil ?_
            refine W.cond (t := decide ((↑p13.hs.length : Int) > (6 : Int))) rfl (fun h28 => ?_) (fun h28 => ?_)
            ·
              have h28p := of_decide_eq_true h28
              refine W.seq' ?_
              refine W.region rfl ?_
              refine WL.step (v := (Value.bool false)) rfl (Step.assign rfl) ?_
              refine WL.nil ?_
              refine W.ret ?_
              refine ⟨.inl rfl, (Value.bool false), ?_, ?_⟩
              · exact (Res.r1 (show RV _ _ _ (.tmp 4) (Value.bool false) from by exact rfl))
              refine ⟨?_, M.close [] rfl (by decide) trivial⟩
              refine congrArg Value.bool (Eq.symm ?_)
              exact few_bad hp13 (by omega) (okAct_no (by omega))
            ·
              have h28p := of_decide_eq_false h28
              refine W.skip ?_
              refine W.seq' ?_
              refine W.region rfl ?_
              refine WL.step (v := (Value.int .i64 0)) rfl (Step.assign rfl) ?_
              refine WL.nil ?_
              refine W.block ?_
              refine W.loop (fun kk ρ w' => ∃ (ib_ : Nat), ((ib_ ≤ p13.node.keys.length) ∧ (∀ (j : Nat) (s : ByteArray), j < ib_ → p13.node.keys[j]? = some s → s.size ≤ 40) ∧ kk = p13.node.keys.length - ib_) ∧ ρ.has [(0, v), (1, (Value.int .i64 top)), (5, (Value.int .i64 ↑ia_)), (6, (Value.pointer (some ⟨b22, 0, none⟩))), (7, (Value.int .i64 ↑ib_)), (8, (Value.int .i64 ↑ia_)), (9, v), (10, (Value.int .i64 ↑l.length)), (11, (Value.bool true)), (12, (Value.bool true)), (13, (Value.int .i64 ↑ia_)), (14, (Value.bool (decide ((↑ia_ : Int) < (100 : Int))))), (15, (Value.bool (decide ((↑ia_ : Int) < (100 : Int))))), (18, v), (19, (Value.int .i64 ↑ia_)), (20, (Value.pointer (some ⟨(sBlk v), sOff v + ia_ * 6, none⟩))), (21, (Value.pointer (some ⟨(sBlk v), sOff v + ia_ * 6 + 1, none⟩))), (22, (Value.agg #[(Value.bool p13.node.leaf), kv14, dv15, vv16])), (23, (Value.pointer (some ⟨b22, 1, none⟩))), (24, kv14), (25, (Value.int .i64 ↑p13.node.keys.length)), (26, (Value.bool false)), (27, (Value.bool false)), (28, (Value.pointer (some ⟨b22, 2, none⟩))), (29, dv15), (30, (Value.int .i64 ↑p13.node.kids.length)), (31, (Value.bool false)), (32, (Value.bool false)), (33, (Value.bool false)), (34, (Value.pointer (some ⟨b22, 3, none⟩))), (35, vv16), (36, (Value.int .i64 ↑p13.node.vals.length)), (37, (Value.bool false)), (38, (Value.bool false)), (39, (Value.bool false)), (40, v), (41, (Value.int .i64 ↑ia_)), (42, (Value.pointer (some ⟨(sBlk v), sOff v + ia_ * 6, none⟩))), (43, (Value.pointer (some ⟨(sBlk v), sOff v + ia_ * 6 + 5, none⟩))), (44, hv17), (45, (Value.int .i64 ↑p13.hs.length)), (46, (Value.bool (decide ((↑p13.hs.length : Int) > (6 : Int))))), (47, (Value.bool (decide ((↑p13.hs.length : Int) > (6 : Int)))))] ∧ Mem G (fun _ => False) w [blk b22 (.cells #[(Value.bool p13.node.leaf), kv14, dv15, vv16] 36)] [EC v 6 ia_ [(Value.int .i64 p13.do_), (Value.bool p13.node.leaf), kv14, dv15, vv16, hv17], SlAt 1 kv14 p13.node.keys.length (p13.node.keys.flatMap strE), SlAt 2 dv15 p13.node.kids.length (p13.node.kids.flatMap handleE), SlAt 1 vv16 p13.node.vals.length (p13.node.vals.flatMap intE), SlAt 2 hv17 p13.hs.length (p13.hs.flatMap handleE), SlAt 6 v l.length cs3, RepL ActT cs3 l, RepS ActT v l]  w') _ ⟨0, ⟨(Nat.zero_le _), (fun _ _ h => absurd h (Nat.not_lt_zero _)), rfl⟩, ⟨rfl, rfl, rfl, rfl, rfl, rfl, rfl, rfl, rfl, rfl, rfl, rfl, rfl, rfl, rfl, rfl, rfl, rfl, rfl, rfl, rfl, rfl, rfl, rfl, rfl, rfl, rfl, rfl, rfl, rfl, rfl, rfl, rfl, rfl, rfl, rfl, rfl, rfl, rfl, rfl, rfl, rfl, rfl, trivial⟩, M⟩ ?_
              rintro _ ρ30 w29 ⟨ib_, ⟨hi31, hi32, rfl⟩, hρ, M⟩
              obtain ⟨ρ30, rfl⟩ := hρ.know
              clear hρ
              refine W.seq' ?_
              refine W.seq' ?_
              refine W.region rfl ?_
              refine WL.step (v := (Value.int .i64 ↑ib_)) rfl (Step.move rfl) ?_
              refine WL.step (v := (Value.pointer (some ⟨b22, 1, none⟩))) rfl (Step.pure (by kernel_rfl)) ?_
              refine WL.step (v := kv14) rfl (Step.load1 Try.sc34 rfl ((M.cell 0 rfl 1).trans rfl)) ?_
              refine WL.step (v := (Value.int .i64 ↑p13.node.keys.length)) rfl (Step.lenSl Try.un34 rfl (M.rep 1 rfl)) ?_
              refine WL.step (v := (Value.bool (decide ((↑ib_ : Int) < (↑p13.node.keys.length : Int))))) rfl (Step.pure (by kernel_rfl)) ?_
              refine WL.nil ?_
              refine W.cond (t := decide ((↑ib_ : Int) < (↑p13.node.keys.length : Int))) rfl (fun h33 => ?_) (fun h33 => ?_)
              ·
                have h33p := of_decide_eq_true h33
                refine W.skip ?_
                refine W.seq' ?_
                refine W.block ?_
                refine W.seq' ?_
                refine W.region rfl ?_
                refine WL.step (v := (Value.pointer (some ⟨b22, 1, none⟩))) rfl (Step.pure (by kernel_rfl)) ?_
                refine WL.step (v := kv14) rfl (Step.load1 Try.sc34 rfl ((M.cell 0 rfl 1).trans rfl)) ?_
                refine WL.step (v := (Value.int .i64 ↑ib_)) rfl (Step.move rfl) ?_
                obtain ⟨cap35, hb34⟩ := SlAt.base (M.rep 1 rfl) (by omega)
                obtain ⟨x36, hx36⟩ := elem_of_lt (xs := p13.node.keys) (i := ib_) (by omega)
                refine WL.step (v := (Value.pointer (some ⟨(sBlk kv14), sOff kv14 + ib_ * 1, none⟩))) rfl (Step.indexAddr (i := ib_) (Try.un34).run Try.el9.sized rfl rfl (by omega) hb34 (by omega)) ?_
                refine WL.step (v := (Value.string x36)) rfl (Step.loadE (k := 0) Try.sc9 (flat_ec (M.rep 1 rfl) hx36 strE_len) (by decide) rfl rfl) ?_
                refine WL.step (v := (Value.int .i64 ↑x36.size)) rfl (Step.lenStr Try.un9 rfl) ?_
                refine WL.step (v := (Value.bool (decide ((↑x36.size : Int) > (40 : Int))))) rfl (Step.pure (by kernel_rfl)) ?_
                refine WL.nil ?_
                refine W.cond (t := decide ((↑x36.size : Int) > (40 : Int))) rfl (fun h37 => ?_) (fun h37 => ?_)
                ·
                  have h37p := of_decide_eq_true h37
                  refine W.seq' ?_
                  refine W.region rfl ?_
                  refine WL.step (v := (Value.bool false)) rfl (Step.assign rfl) ?_
                  refine WL.nil ?_
                  refine W.ret ?_
                  refine ⟨.inl rfl, (Value.bool false), ?_, ?_⟩
                  · exact (Res.r1 (show RV _ _ _ (.tmp 4) (Value.bool false) from by exact rfl))
                  refine ⟨?_, M.close [] rfl (by decide) trivial⟩
                  refine congrArg Value.bool (Eq.symm ?_)
                  exact few_bad hp13 (by omega) (okAct_key hx36 (by omega))
                ·
                  have h37p := of_decide_eq_false h37
                  refine W.skip ?_
                  refine W.region rfl ?_
                  refine WL.step (v := (Value.int .i64 ↑ib_)) rfl (Step.move rfl) ?_
                  refine WL.step (v := (Value.int .i64 (↑ib_ + 1))) rfl (Step.add rfl rfl (wrap_i64 (by omega))) ?_
                  refine WL.step (v := (Value.int .i64 (↑ib_ + 1))) rfl (Step.assign rfl) ?_
                  refine WL.nil ?_
                  have hs : ∀ (j : Nat) (s : ByteArray), j < ib_ + 1 → p13.node.keys[j]? = some s → s.size ≤ 40 := fun j s hj hs => (Nat.lt_succ_iff_lt_or_eq.1 hj).elim (fun h => hi32 j s h hs) fun e => by subst e; rw [hx36] at hs; cases hs; omega
                  exact ⟨_, (by omega), ib_ + 1, ⟨(by omega), hs, rfl⟩, ⟨rfl, rfl, rfl, rfl, rfl, rfl, rfl, rfl, rfl, rfl, rfl, rfl, rfl, rfl, rfl, rfl, rfl, rfl, rfl, rfl, rfl, rfl, rfl, rfl, rfl, rfl, rfl, rfl, rfl, rfl, rfl, rfl, rfl, rfl, rfl, rfl, rfl, rfl, rfl, rfl, rfl, rfl, rfl, trivial⟩, M⟩
              ·
                have h33p := of_decide_eq_false h33
                refine W.exit ?_
                refine thn_exit ?_
                refine thn_exit ?_
                refine inBlk_hit ?_
                refine W.region rfl ?_
                refine WL.step (v := (Value.int .i64 ↑ia_)) rfl (Step.move rfl) ?_
                refine WL.step (v := (Value.int .i64 (↑ia_ + 1))) rfl (Step.add rfl rfl (wrap_i64 (by omega))) ?_
                refine WL.step (v := (Value.int .i64 (↑ia_ + 1))) rfl (Step.assign rfl) ?_
                refine WL.nil ?_
                have hs := few_step hi8 hp13 (okAct_yes (by omega) (by omega) (by omega) (by omega) hi32 (by omega))
                replace M := M.sel (L' := []) [] rfl (by decide)
                replace M := M.sub (List.Sublist.refl _) (R' := [SlAt 6 v l.length cs3, RepL ActT cs3 l, RepS ActT v l]) (fun r h => (List.mem_cons_of_mem _ (List.mem_cons_of_mem _ (List.mem_cons_of_mem _ (List.mem_cons_of_mem _ (List.mem_cons_of_mem _ h))))))
                exact ⟨_, (by omega), ia_ + 1, ⟨(by omega), (by omega), hs, rfl⟩, ⟨rfl, rfl, rfl, trivial⟩, M⟩
    ·
      have h10p := of_decide_eq_false h10
      refine W.exit ?_
      refine thn_exit ?_
      refine thn_exit ?_
      refine inBlk_hit ?_
      refine W.seq' ?_
      refine W.region rfl ?_
      refine WL.step (v := v) rfl (Step.move rfl) ?_
      refine WL.step (v := (Value.int .i64 ↑l.length)) rfl (Step.lenSl Try.un43 rfl (M.rep 0 rfl)) ?_
      refine WL.step (v := (Value.int .i64 top)) rfl (Step.move rfl) ?_
      refine WL.step (v := (Value.bool (decide ((↑l.length : Int) ≤ (top : Int))))) rfl (Step.pure (by kernel_rfl)) ?_
      refine WL.step (v := (Value.bool (decide ((↑l.length : Int) ≤ (top : Int))))) rfl (Step.assign rfl) ?_
      refine WL.nil ?_
      refine W.ret ?_
      refine ⟨.inl rfl, (Value.bool (decide ((↑l.length : Int) ≤ (top : Int)))), ?_, ?_⟩
      · exact (Res.r1 (show RV _ _ _ (.tmp 4) (Value.bool (decide ((↑l.length : Int) ≤ (top : Int)))) from by exact rfl))
      refine ⟨?_, M.close [] rfl (by decide) trivial⟩
      refine congrArg Value.bool (Eq.symm ?_)
      exact few_end hi8 (by omega)
  ·
    have h9p := of_decide_eq_false h9
    rw [h9]
    refine WL.pass rfl ?_
    refine WL.pass rfl ?_
    refine WL.step (v := (Value.bool false)) rfl (Step.pick (t := false) rfl rfl) ?_
    refine WL.nil ?_
    refine W.cond (t := false) rfl (fun h => by cases h) (fun _ => ?_)
    refine W.exit ?_
    refine thn_exit ?_
    refine thn_exit ?_
    refine inBlk_hit ?_
    refine W.seq' ?_
    refine W.region rfl ?_
    refine WL.step (v := v) rfl (Step.move rfl) ?_
    refine WL.step (v := (Value.int .i64 ↑l.length)) rfl (Step.lenSl Try.un43 rfl (M.rep 0 rfl)) ?_
    refine WL.step (v := (Value.int .i64 top)) rfl (Step.move rfl) ?_
    refine WL.step (v := (Value.bool (decide ((↑l.length : Int) ≤ (top : Int))))) rfl (Step.pure (by kernel_rfl)) ?_
    refine WL.step (v := (Value.bool (decide ((↑l.length : Int) ≤ (top : Int))))) rfl (Step.assign rfl) ?_
    refine WL.nil ?_
    refine W.ret ?_
    refine ⟨.inl rfl, (Value.bool (decide ((↑l.length : Int) ≤ (top : Int)))), ?_, ?_⟩
    · exact (Res.r1 (show RV _ _ _ (.tmp 4) (Value.bool (decide ((↑l.length : Int) ≤ (top : Int)))) from by exact rfl))
    refine ⟨?_, M.close [] rfl (by decide) trivial⟩
    refine congrArg Value.bool (Eq.symm ?_)
    exact few_end hi8 (by omega)
end Go.Proofs
