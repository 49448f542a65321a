/- Walks. -/
import Derived.Test.YtdaafologmjeeaaTpW10
import Derived.Test.YtdaafologmjeeaaTpLaw11T
set_option maxRecDepth 100000
set_option linter.all false
namespace Go.Proofs
open Go Tp


theorem law_turns {G : Nat → Prop} {w : World} (v : Value) (xs : List Int)  (M : Mem G (fun _ => False) w [] [SlAt 1 v xs.length (xs.flatMap intE)] w) : Rets Try.prog 3 #[v] w fun r w' => r = (Value.bool true) ∧ Mem G (fun _ => False) w [] [] w' := by
  refine Rets.enter 150 _ Try.func3 rfl Try.ntmps3 Try.results3 (by simp) ?_
  have hle1 := SlAt.le' (M.rep 0 rfl)
  have sl2 : IsSl v := SlAt.isSl (Mem.rep M 0 rfl)
  refine W.seq' ?_
  refine W.region rfl ?_
  refine WL.step (v := (Value.bool false)) rfl (Step.assign rfl) ?_
  refine WL.nil ?_
  refine W.seq' ?_
  refine W.seq' ?_
  refine W.region rfl ?_
  refine WL.step (v := v) rfl (Step.move rfl) ?_
  refine WL.step (v := (Value.int .i64 ↑xs.length)) rfl (Step.lenSl Try.un22 rfl (M.rep 0 rfl)) ?_
  refine WL.step (v := (Value.bool (decide ((↑xs.length : Int) > (60 : Int))))) rfl (Step.pure (by kernel_rfl)) ?_
  refine WL.nil ?_
  refine W.cond (t := decide ((↑xs.length : Int) > (60 : Int))) rfl (fun h3 => ?_) (fun h3 => ?_)
  ·
    have h3p := of_decide_eq_true h3
    refine W.seq' ?_
    refine W.region rfl ?_
    refine WL.callX rfl (law_works  (M.enterW0 trivial)) (CallsF.func Try.en8 rfl) ?_
    rintro _ w4 ⟨rfl, m⟩
    replace M := M.leaveW0 m
    clear m
    replace M : Mem _ _ _ [] [SlAt 1 v xs.length (xs.flatMap intE)] _ := M
    refine WL.step (v := (Value.bool true)) rfl (Step.assign rfl) ?_
    refine WL.nil ?_
    refine W.ret ?_
    refine ⟨.inl rfl, (Value.bool true), ?_, ?_⟩
    · exact (Res.r1 (show RV _ _ _ (.tmp 2) (Value.bool true) from by exact rfl))
    refine ⟨?_, M.close [] rfl (by decide) trivial⟩
    rfl
  ·
    have h3p := of_decide_eq_false h3
    refine W.skip ?_
    refine W.seq' ?_
    refine W.region rfl ?_
    refine WL.callX rfl (ar_new  (M.enterW0 trivial)) (CallsF.func Try.en9 rfl) ?_
    rintro _ w7 ⟨ab5, S6, rfl, m⟩
    replace M := M.leaveW0 m
    clear m
    replace M : Mem _ _ _ [arenaC 71 73 S6 ab5 ([] : List RPlace)] [SlAt 1 v xs.length (xs.flatMap intE)] _ := M
    refine WL.step (v := (Value.pointer (some ⟨ab5, 0, none⟩))) rfl (Step.assign rfl) ?_
    refine WL.nil ?_
    refine W.seq' ?_
    refine W.region rfl ?_
    refine WL.step (v := (Value.slice none 0 0)) rfl (Step.assign rfl) ?_
    refine WL.nil ?_
    refine W.seq' ?_
    refine W.region rfl ?_
    refine WL.step (v := (Value.int .i64 0)) rfl (Step.assign rfl) ?_
    refine WL.nil ?_
    refine W.seq' ?_
    refine W.seq' ?_
    refine W.region rfl ?_
    refine WL.step (v := (Value.int .i64 0)) rfl (Step.assign rfl) ?_
    refine WL.nil ?_
    refine W.block ?_
    replace M := M.ownNil 29 2
    replace M : Mem _ _ _ [own 29 2 (Value.slice none 0 0) (([] : List Handle).length) (([] : List Handle).flatMap handleE), arenaC 71 73 S6 ab5 ([] : List RPlace)] [SlAt 1 v xs.length (xs.flatMap intE)] _ := M
    replace M := M.sel (L' := [arenaC 71 73 S6 ab5 ([] : List RPlace), own 29 2 (Value.slice none 0 0) (([] : List Handle).length) (([] : List Handle).flatMap handleE)]) [1, 0] rfl (by decide)
    refine W.loop (fun kk ρ w' => ∃ (ia_ : Nat) (S_ : Nat → Prop) (l_ : List RPlace) (g_ : Value) (gs_ : List Handle), ((ia_ ≤ xs.length) ∧ (TInv ia_ l_ gs_) ∧ kk = xs.length - ia_) ∧ ρ.has [(0, v), (3, (Value.pointer (some ⟨ab5, 0, none⟩))), (4, g_), (5, (Value.int .i64 ↑l_.length)), (6, (Value.int .i64 ↑ia_))] ∧ Mem G (fun _ => False) w [arenaC 71 73 S_ ab5 l_, own 29 2 g_ gs_.length (gs_.flatMap handleE)] [SlAt 1 v xs.length (xs.flatMap intE)]  w') _ ⟨0, _, ([] : List RPlace), _, ([] : List Handle), ⟨(Nat.zero_le _), TInv.nil, rfl⟩, ⟨rfl, rfl, rfl, rfl, rfl, trivial⟩, M⟩ ?_
    rintro _ ρ9 w8 ⟨ia_, S_, l_, g_, gs_, ⟨hi10, hi11, rfl⟩, hρ, M⟩
    obtain ⟨ρ9, rfl⟩ := hρ.know
    clear hρ
    have sl12 : IsSl g_ := SlAt.isSl (own_slAt (M.chunk 1 rfl).inv)
    have hT := hi11
    have hA := hT.1.small (by omega)
    have hgl := hT.2.1
    have hru : (rused l_).length ≤ 1000000 := Nat.le_trans usedTo_len hA.1
    refine W.seq' ?_
    refine W.seq' ?_
    refine W.region rfl ?_
    refine WL.step (v := (Value.int .i64 ↑ia_)) rfl (Step.move rfl) ?_
    refine WL.step (v := v) rfl (Step.move rfl) ?_
    refine WL.step (v := (Value.int .i64 ↑xs.length)) rfl (Step.lenSl Try.un22 rfl (M.rep 0 rfl)) ?_
    refine WL.step (v := (Value.bool (decide ((↑ia_ : Int) < (↑xs.length : Int))))) rfl (Step.pure (by kernel_rfl)) ?_
    refine WL.nil ?_
    refine W.cond (t := decide ((↑ia_ : Int) < (↑xs.length : Int))) rfl (fun h13 => ?_) (fun h13 => ?_)
    ·
      have h13p := of_decide_eq_true h13
      refine W.skip ?_
      refine W.seq' ?_
      refine W.block ?_
      refine W.seq' ?_
      refine W.region rfl ?_
      refine WL.step (v := (Value.pointer (some ⟨ab5, 0, none⟩))) rfl (Step.move rfl) ?_
      refine WL.callX rfl (ar_used ab5 l_ S_ (by first | assumption | exact smallA_of rfl) (M.enterW (C := [arenaC 71 73 S_ ab5 l_]) (D := [own 29 2 g_ gs_.length (gs_.flatMap handleE)]) [0, 1] rfl (by decide) trivial)) (CallsF.func Try.en10 rfl) ?_
      rintro v14 w15 ⟨_, rfl, m⟩
      replace M := M.leaveW (C := [arenaC 71 73 S_ ab5 l_]) (D := [own 29 2 g_ gs_.length (gs_.flatMap handleE)]) [0, 1] rfl (by decide) m
      replace M := M.sel (L' := [own 29 2 v14 ((rused l_).length) ((rused l_).flatMap handleE), arenaC 71 73 S_ ab5 l_, own 29 2 g_ gs_.length (gs_.flatMap handleE)]) [1, 0, 2] rfl (by decide)
      clear m
      replace M : Mem _ _ _ [own 29 2 v14 ((rused l_).length) ((rused l_).flatMap handleE), arenaC 71 73 S_ ab5 l_, own 29 2 g_ gs_.length (gs_.flatMap handleE)] [SlAt 1 v xs.length (xs.flatMap intE)] _ := M
      have sl16 : IsSl v14 := SlAt.isSl (own_slAt (Mem.chunk M 0 rfl).inv)
      have hle17 := SlAt.le' (own_slAt (Mem.chunk M 0 rfl).inv)
      refine WL.step (v := v14) rfl (Step.assign rfl) ?_
      refine WL.nil ?_
      refine W.seq' ?_
      refine W.seq' ?_
      refine W.region rfl ?_
      refine WL.step (v := v) rfl (Step.move rfl) ?_
      refine WL.step (v := (Value.int .i64 ↑ia_)) rfl (Step.move rfl) ?_
      obtain ⟨cap19, hb18⟩ := SlAt.base (M.rep 0 rfl) (by omega)
      obtain ⟨x20, hx20⟩ := elem_of_lt (xs := xs) (i := ia_) (by omega)
      refine WL.step (v := (Value.pointer (some ⟨(sBlk v), sOff v + ia_ * 1, none⟩))) rfl (Step.indexAddr (i := ia_) (Try.un22).run Try.el3.sized rfl rfl (by omega) hb18 (by omega)) ?_
      refine WL.step (v := (Value.int .i64 x20)) rfl (Step.loadE (k := 0) Try.sc3 (flat_ec (M.rep 0 rfl) hx20 intE_len) (by decide) rfl rfl) ?_
      refine WL.step (v := (Value.bool (decide ((x20 : Int) < (0 : Int))))) rfl (Step.pure (by kernel_rfl)) ?_
      refine WL.step (v := (Value.bool (decide ((x20 : Int) < (0 : Int))))) rfl (Step.move rfl) ?_
      rcases Bool.eq_false_or_eq_true (decide ((x20 : Int) < (0 : Int))) with h21 | h21
      ·
        have h21p := of_decide_eq_true h21
        rw [h21]
        refine WL.step (v := v14) rfl (Step.move rfl) ?_
        refine WL.step (v := (Value.int .i64 (↑((rused l_).length)))) rfl (Step.lenSl Try.un26 rfl (own_slAt (M.chunk 0 rfl).inv)) ?_
        refine WL.step (v := (Value.bool (decide ((↑((rused l_).length) : Int) > (0 : Int))))) rfl (Step.pure (by kernel_rfl)) ?_
        refine WL.step (v := (Value.bool (decide ((↑((rused l_).length) : Int) > (0 : Int))))) rfl (Step.pick (t := true) rfl rfl) ?_
        refine WL.nil ?_
        refine W.cond (t := decide ((↑((rused l_).length) : Int) > (0 : Int))) rfl (fun h22 => ?_) (fun h22 => ?_)
        ·
          have h22p := of_decide_eq_true h22
          refine W.seq' ?_
          refine W.region rfl ?_
          refine WL.step (v := v14) rfl (Step.move rfl) ?_
          refine WL.step (v := v) rfl (Step.move rfl) ?_
          refine WL.step (v := (Value.int .i64 ↑ia_)) rfl (Step.move rfl) ?_
          refine WL.step (v := (Value.pointer (some ⟨(sBlk v), sOff v + ia_ * 1, none⟩))) rfl (Step.indexAddr (i := ia_) (Try.un22).run Try.el3.sized rfl rfl (by omega) hb18 (by omega)) ?_
          refine WL.step (v := (Value.int .i64 x20)) rfl (Step.loadE (k := 0) Try.sc3 (flat_ec (M.rep 0 rfl) hx20 intE_len) (by decide) rfl rfl) ?_
          refine WL.step (v := v14) rfl (Step.move rfl) ?_
          refine WL.step (v := (Value.int .i64 (↑((rused l_).length)))) rfl (Step.lenSl Try.un26 rfl (own_slAt (M.chunk 0 rfl).inv)) ?_
          refine WL.callX rfl (kit_pick x20 (↑((rused l_).length)) (by omega) (M.enterW0 trivial)) (CallsF.func Try.en11 rfl) ?_
          rintro _ w23 ⟨rfl, m⟩
          replace M := M.leaveW0 m
          clear m
          replace M : Mem _ _ _ [own 29 2 v14 ((rused l_).length) ((rused l_).flatMap handleE), arenaC 71 73 S_ ab5 l_, own 29 2 g_ gs_.length (gs_.flatMap handleE)] [SlAt 1 v xs.length (xs.flatMap intE)] _ := M
          have hpk := pickI_bounds (i := x20) (n := ↑((rused l_).length)) (by omega)
          obtain ⟨cap25, hb24⟩ := SlAt.base (own_slAt (M.chunk 0 rfl).inv) (by omega)
          obtain ⟨x26, hx26⟩ := elem_of_lt (xs := rused l_) (i := (pickI x20 (↑((rused l_).length))).toNat) (by omega)
          have hhx26 := rused_has hx26
          refine WL.step (v := (Value.pointer (some ⟨(sBlk v14), sOff v14 + ((pickI x20 (↑((rused l_).length))).toNat) * 2, none⟩))) rfl (Step.indexAddr (i := (pickI x20 (↑((rused l_).length))).toNat) (Try.un26).run Try.el29.sized rfl rfl (by omega) hb24 (by omega)) ?_
          refine WL.step (v := (Value.agg #[(Value.int .i64 x26.at_), (Value.int .i64 x26.turn)])) rfl (Step.loadEN (k := 0) (cs' := [(Value.int .i64 x26.at_), (Value.int .i64 x26.turn)]) Try.ag29 (flat_ec (own_slAt (M.chunk 0 rfl).inv) hx26 handleE_len) (by decide) rfl rfl rfl) ?_
          refine WL.alloc (c := #[(Value.int .i64 0), (Value.int .i64 0)]) M rfl Try.el29.zero rfl (fun b27 w28 hb27 M => ?_)
          refine WL.store (v := (Value.agg #[(Value.int .i64 x26.at_), (Value.int .i64 x26.turn)])) (cs := [(Value.int .i64 x26.at_), (Value.int .i64 x26.turn)]) (c' := #[(Value.int .i64 x26.at_), (Value.int .i64 x26.turn)]) M 0 rfl rfl Try.el29.sized rfl rfl rfl rfl (Nat.le_of_ble_eq_true rfl) (cel_cons rfl (cel_cons rfl cel_nil)) rfl rfl (fun w29 M => ?_)
          refine WL.nil ?_
          refine W.seq' ?_
          refine W.seq' ?_
          refine W.region rfl ?_
          refine WL.step (v := (Value.pointer (some ⟨ab5, 0, none⟩))) rfl (Step.move rfl) ?_
          refine WL.step (v := (Value.agg #[(Value.int .i64 x26.at_), (Value.int .i64 x26.turn)])) rfl (Step.loadN Try.ag29 rfl (M.blk 0 rfl) (Nat.le_of_ble_eq_true rfl) rfl) ?_
          refine WL.new (obj := .cells #[(Value.int .i64 x26.at_), (Value.int .i64 x26.turn)] 29) (fun b => .slice (some ⟨b, 0, none⟩) 1 1) M rfl (fun w => Step.make (by kernel_rfl)) (fun b30 w31 hb30 M => ?_)
          refine WL.callX rfl (ar_free ab5 l_ S_ (Value.slice (some ⟨b30, 0, none⟩) 1 1) ([x26] : List Handle) (by first | assumption | exact smallA_of rfl) (M.enterW (C := [arenaC 71 73 S_ ab5 l_]) (D := [blk b30 (.cells #[(Value.int .i64 x26.at_), (Value.int .i64 x26.turn)] 29), blk b27 (.cells #[(Value.int .i64 x26.at_), (Value.int .i64 x26.turn)] 29), own 29 2 v14 ((rused l_).length) ((rused l_).flatMap handleE), own 29 2 g_ gs_.length (gs_.flatMap handleE)]) [3, 0, 1, 2, 4] rfl (by decide) ⟨((M.wideC (C := [arenaC 71 73 S_ ab5 l_]) (D := [blk b30 (.cells #[(Value.int .i64 x26.at_), (Value.int .i64 x26.turn)] 29), blk b27 (.cells #[(Value.int .i64 x26.at_), (Value.int .i64 x26.turn)] 29), own 29 2 v14 ((rused l_).length) ((rused l_).flatMap handleE), own 29 2 g_ gs_.length (gs_.flatMap handleE)]) [3, 0, 1, 2, 4] rfl (by decide) 0 rfl).imp fun _ h => SlAt.of_blk (n := 1) (size := 2) h rfl (by decide)), trivial⟩)) (CallsF.func Try.en12 rfl) ?_
          rintro _ w33 ⟨S32, rfl, m⟩
          replace M := M.leaveW (C := [arenaC 71 73 S_ ab5 l_]) (D := [blk b30 (.cells #[(Value.int .i64 x26.at_), (Value.int .i64 x26.turn)] 29), blk b27 (.cells #[(Value.int .i64 x26.at_), (Value.int .i64 x26.turn)] 29), own 29 2 v14 ((rused l_).length) ((rused l_).flatMap handleE), own 29 2 g_ gs_.length (gs_.flatMap handleE)]) [3, 0, 1, 2, 4] rfl (by decide) m
          clear m
          replace M : Mem _ _ _ [arenaC 71 73 S32 ab5 ((rfree l_ ([x26] : List Handle)).1), blk b30 (.cells #[(Value.int .i64 x26.at_), (Value.int .i64 x26.turn)] 29), blk b27 (.cells #[(Value.int .i64 x26.at_), (Value.int .i64 x26.turn)] 29), own 29 2 v14 ((rused l_).length) ((rused l_).flatMap handleE), own 29 2 g_ gs_.length (gs_.flatMap handleE)] [SlAt 1 v xs.length (xs.flatMap intE)] _ := M
          have hra := rfree_one (l := l_) (h := x26) hhx26
          rw [hra] at M ⊢
          have hT2 := hT.free hhx26
          have hgl2 := hT2.2.1
          have hA2 := hT2.1.small (by omega)
          replace M : Mem _ _ _ [arenaC 71 73 S32 ab5 (free1 l_ x26), blk b30 (.cells #[(Value.int .i64 x26.at_), (Value.int .i64 x26.turn)] 29), blk b27 (.cells #[(Value.int .i64 x26.at_), (Value.int .i64 x26.turn)] 29), own 29 2 v14 ((rused l_).length) ((rused l_).flatMap handleE), own 29 2 g_ gs_.length (gs_.flatMap handleE)] [SlAt 1 v xs.length (xs.flatMap intE)] _ := M
          change WL _ _ _ _ _ (Env.put _ _ (Value.int .i64 0)) _
          refine WL.step (v := (Value.bool false)) rfl (Step.pure (by kernel_rfl)) ?_
          refine WL.step (v := (Value.bool false)) rfl (Step.move rfl) ?_
          refine WL.step (v := (Value.pointer (some ⟨ab5, 0, none⟩))) rfl (Step.move rfl) ?_
          refine WL.step (v := (Value.agg #[(Value.int .i64 x26.at_), (Value.int .i64 x26.turn)])) rfl (Step.loadN Try.ag29 rfl (M.blk 2 rfl) (Nat.le_of_ble_eq_true rfl) rfl) ?_
          refine WL.new (obj := .cells #[(Value.int .i64 x26.at_), (Value.int .i64 x26.turn)] 29) (fun b => .slice (some ⟨b, 0, none⟩) 1 1) M rfl (fun w => Step.make (by kernel_rfl)) (fun b34 w35 hb34 M => ?_)
          refine WL.callX rfl (ar_free ab5 (free1 l_ x26) S32 (Value.slice (some ⟨b34, 0, none⟩) 1 1) ([x26] : List Handle) (by first | assumption | exact smallA_of rfl) (M.enterW (C := [arenaC 71 73 S32 ab5 (free1 l_ x26)]) (D := [blk b34 (.cells #[(Value.int .i64 x26.at_), (Value.int .i64 x26.turn)] 29), blk b30 (.cells #[(Value.int .i64 x26.at_), (Value.int .i64 x26.turn)] 29), blk b27 (.cells #[(Value.int .i64 x26.at_), (Value.int .i64 x26.turn)] 29), own 29 2 v14 ((rused l_).length) ((rused l_).flatMap handleE), own 29 2 g_ gs_.length (gs_.flatMap handleE)]) [1, 0, 2, 3, 4, 5] rfl (by decide) ⟨((M.wideC (C := [arenaC 71 73 S32 ab5 (free1 l_ x26)]) (D := [blk b34 (.cells #[(Value.int .i64 x26.at_), (Value.int .i64 x26.turn)] 29), blk b30 (.cells #[(Value.int .i64 x26.at_), (Value.int .i64 x26.turn)] 29), blk b27 (.cells #[(Value.int .i64 x26.at_), (Value.int .i64 x26.turn)] 29), own 29 2 v14 ((rused l_).length) ((rused l_).flatMap handleE), own 29 2 g_ gs_.length (gs_.flatMap handleE)]) [1, 0, 2, 3, 4, 5] rfl (by decide) 0 rfl).imp fun _ h => SlAt.of_blk (n := 1) (size := 2) h rfl (by decide)), trivial⟩)) (CallsF.func Try.en12 rfl) ?_
          rintro _ w37 ⟨S36, rfl, m⟩
          replace M := M.leaveW (C := [arenaC 71 73 S32 ab5 (free1 l_ x26)]) (D := [blk b34 (.cells #[(Value.int .i64 x26.at_), (Value.int .i64 x26.turn)] 29), blk b30 (.cells #[(Value.int .i64 x26.at_), (Value.int .i64 x26.turn)] 29), blk b27 (.cells #[(Value.int .i64 x26.at_), (Value.int .i64 x26.turn)] 29), own 29 2 v14 ((rused l_).length) ((rused l_).flatMap handleE), own 29 2 g_ gs_.length (gs_.flatMap handleE)]) [1, 0, 2, 3, 4, 5] rfl (by decide) m
          clear m
          replace M : Mem _ _ _ [arenaC 71 73 S36 ab5 ((rfree (free1 l_ x26) ([x26] : List Handle)).1), blk b34 (.cells #[(Value.int .i64 x26.at_), (Value.int .i64 x26.turn)] 29), blk b30 (.cells #[(Value.int .i64 x26.at_), (Value.int .i64 x26.turn)] 29), blk b27 (.cells #[(Value.int .i64 x26.at_), (Value.int .i64 x26.turn)] 29), own 29 2 v14 ((rused l_).length) ((rused l_).flatMap handleE), own 29 2 g_ gs_.length (gs_.flatMap handleE)] [SlAt 1 v xs.length (xs.flatMap intE)] _ := M
          have hrb := rfree_gone (l := l_) (h := x26) hhx26
          rw [hrb] at M ⊢
          replace M : Mem _ _ _ [arenaC 71 73 S36 ab5 (free1 l_ x26), blk b34 (.cells #[(Value.int .i64 x26.at_), (Value.int .i64 x26.turn)] 29), blk b30 (.cells #[(Value.int .i64 x26.at_), (Value.int .i64 x26.turn)] 29), blk b27 (.cells #[(Value.int .i64 x26.at_), (Value.int .i64 x26.turn)] 29), own 29 2 v14 ((rused l_).length) ((rused l_).flatMap handleE), own 29 2 g_ gs_.length (gs_.flatMap handleE)] [SlAt 1 v xs.length (xs.flatMap intE)] _ := M
          change WL _ _ _ _ _ (Env.put _ _ (Value.int .i64 110)) _
          refine WL.step (v := (Value.bool false)) rfl (Step.pure (by kernel_rfl)) ?_
          refine WL.step (v := (Value.bool false)) rfl (Step.pick (t := false) rfl rfl) ?_
          refine WL.nil ?_
          refine W.cond (t := false) rfl (fun h => by cases h) (fun _ => ?_)
          refine W.skip ?_
          refine W.region rfl ?_
          refine WL.step (v := g_) rfl (Step.move rfl) ?_
          refine WL.step (v := (Value.agg #[(Value.int .i64 x26.at_), (Value.int .i64 x26.turn)])) rfl (Step.loadN Try.ag29 rfl (M.blk 3 rfl) (Nat.le_of_ble_eq_true rfl) rfl) ?_
          refine WL.new (obj := .cells #[(Value.int .i64 x26.at_), (Value.int .i64 x26.turn)] 29) (fun b => .slice (some ⟨b, 0, none⟩) 1 1) M rfl (fun w => Step.make (by kernel_rfl)) (fun b38 w39 hb38 M => ?_)
          refine WL.does rfl (M.appendF gs_ ([x26] : List Handle) (sv := (Value.slice (some ⟨b38, 0, none⟩) 1 1)) 6 Try.un26 Try.el29 rfl (by decide) rfl rfl rfl (SlAt.of_blk (M.blk 0 rfl) rfl (by decide)) handleE_cel (by have := hgl; simp only [maxLen, List.length_nil, List.length_cons, List.length_append]; omega) (by have := hgl; (try simp only [List.length_nil, List.length_cons, List.length_append]); omega)) ?_
          rintro v40 w41 M
          replace M : Mem _ _ _ [blk b38 (.cells #[(Value.int .i64 x26.at_), (Value.int .i64 x26.turn)] 29), arenaC 71 73 S36 ab5 (free1 l_ x26), blk b34 (.cells #[(Value.int .i64 x26.at_), (Value.int .i64 x26.turn)] 29), blk b30 (.cells #[(Value.int .i64 x26.at_), (Value.int .i64 x26.turn)] 29), blk b27 (.cells #[(Value.int .i64 x26.at_), (Value.int .i64 x26.turn)] 29), own 29 2 v14 ((rused l_).length) ((rused l_).flatMap handleE), own 29 2 v40 ((gs_ ++ ([x26] : List Handle)).length) ((gs_ ++ ([x26] : List Handle)).flatMap handleE)] [SlAt 1 v xs.length (xs.flatMap intE)] _ := M
          have sl42 : IsSl v40 := SlAt.isSl (own_slAt (M.chunk 6 rfl).inv)
          refine WL.step (v := v40) rfl (Step.assign rfl) ?_
          refine WL.nil ?_
          refine W.seq' ?_
          refine W.region rfl ?_
          refine WL.step (v := (Value.pointer (some ⟨ab5, 0, none⟩))) rfl (Step.move rfl) ?_
          refine WL.callX rfl (ar_len ab5 (free1 l_ x26) S36 (M.enterW (C := [arenaC 71 73 S36 ab5 (free1 l_ x26)]) (D := [blk b38 (.cells #[(Value.int .i64 x26.at_), (Value.int .i64 x26.turn)] 29), blk b34 (.cells #[(Value.int .i64 x26.at_), (Value.int .i64 x26.turn)] 29), blk b30 (.cells #[(Value.int .i64 x26.at_), (Value.int .i64 x26.turn)] 29), blk b27 (.cells #[(Value.int .i64 x26.at_), (Value.int .i64 x26.turn)] 29), own 29 2 v14 ((rused l_).length) ((rused l_).flatMap handleE), own 29 2 v40 ((gs_ ++ ([x26] : List Handle)).length) ((gs_ ++ ([x26] : List Handle)).flatMap handleE)]) [1, 0, 2, 3, 4, 5, 6] rfl (by decide) trivial)) (CallsF.func Try.en15 rfl) ?_
          rintro _ w43 ⟨rfl, m⟩
          replace M := M.leaveW (C := [arenaC 71 73 S36 ab5 (free1 l_ x26)]) (D := [blk b38 (.cells #[(Value.int .i64 x26.at_), (Value.int .i64 x26.turn)] 29), blk b34 (.cells #[(Value.int .i64 x26.at_), (Value.int .i64 x26.turn)] 29), blk b30 (.cells #[(Value.int .i64 x26.at_), (Value.int .i64 x26.turn)] 29), blk b27 (.cells #[(Value.int .i64 x26.at_), (Value.int .i64 x26.turn)] 29), own 29 2 v14 ((rused l_).length) ((rused l_).flatMap handleE), own 29 2 v40 ((gs_ ++ ([x26] : List Handle)).length) ((gs_ ++ ([x26] : List Handle)).flatMap handleE)]) [1, 0, 2, 3, 4, 5, 6] rfl (by decide) m
          replace M := M.sel (L' := [blk b38 (.cells #[(Value.int .i64 x26.at_), (Value.int .i64 x26.turn)] 29), arenaC 71 73 S36 ab5 (free1 l_ x26), blk b34 (.cells #[(Value.int .i64 x26.at_), (Value.int .i64 x26.turn)] 29), blk b30 (.cells #[(Value.int .i64 x26.at_), (Value.int .i64 x26.turn)] 29), blk b27 (.cells #[(Value.int .i64 x26.at_), (Value.int .i64 x26.turn)] 29), own 29 2 v14 ((rused l_).length) ((rused l_).flatMap handleE), own 29 2 v40 ((gs_ ++ ([x26] : List Handle)).length) ((gs_ ++ ([x26] : List Handle)).flatMap handleE)]) [1, 0, 2, 3, 4, 5, 6] rfl (by decide)
          clear m
          replace M : Mem _ _ _ [blk b38 (.cells #[(Value.int .i64 x26.at_), (Value.int .i64 x26.turn)] 29), arenaC 71 73 S36 ab5 (free1 l_ x26), blk b34 (.cells #[(Value.int .i64 x26.at_), (Value.int .i64 x26.turn)] 29), blk b30 (.cells #[(Value.int .i64 x26.at_), (Value.int .i64 x26.turn)] 29), blk b27 (.cells #[(Value.int .i64 x26.at_), (Value.int .i64 x26.turn)] 29), own 29 2 v14 ((rused l_).length) ((rused l_).flatMap handleE), own 29 2 v40 ((gs_ ++ ([x26] : List Handle)).length) ((gs_ ++ ([x26] : List Handle)).flatMap handleE)] [SlAt 1 v xs.length (xs.flatMap intE)] _ := M
          refine WL.step (v := (Value.tuple #[(Value.int .i64 (↑(usedN (free1 l_ x26)))), (Value.int .i64 (↑(free1 l_ x26).length))])) rfl (Step.move rfl) ?_
          refine WL.step (v := (Value.int .i64 (↑(usedN (free1 l_ x26))))) rfl (Step.pure (by kernel_rfl)) ?_
          refine WL.step (v := (Value.int .i64 (↑(free1 l_ x26).length))) rfl (Step.pure (by kernel_rfl)) ?_
          refine WL.step (v := (Value.int .i64 (↑(usedN (free1 l_ x26))))) rfl (Step.assign rfl) ?_
          refine WL.step (v := (Value.int .i64 (↑(free1 l_ x26).length))) rfl (Step.assign rfl) ?_
          refine WL.nil ?_
          refine W.seq' ?_
          refine W.region rfl ?_
          refine WL.step (v := (Value.int .i64 ↑l_.length)) rfl (Step.move rfl) ?_
          refine WL.step (v := (Value.int .i64 (↑(usedN (free1 l_ x26))))) rfl (Step.move rfl) ?_
          refine WL.step (v := (Value.int .i64 (↑(free1 l_ x26).length))) rfl (Step.cast (congrArg (Value.int .i64) most_free) (Step.maxI rfl rfl)) ?_
          refine WL.step (v := (Value.int .i64 (↑(free1 l_ x26).length))) rfl (Step.assign rfl) ?_
          refine WL.nil ?_
          refine W.seq' ?_
          refine W.seq' ?_
          refine W.region rfl ?_
          refine WL.step (v := (Value.int .i64 (↑(free1 l_ x26).length))) rfl (Step.move rfl) ?_
          refine WL.step (v := (Value.int .i64 (↑(free1 l_ x26).length))) rfl (Step.move rfl) ?_
          refine WL.step (v := (Value.bool false)) rfl (Step.cast (congrArg Value.bool (show ((↑(free1 l_ x26).length : Int) != (↑(free1 l_ x26).length : Int)) = false by simp)) (Step.pure (by kernel_rfl))) ?_
          refine WL.step (v := (Value.bool false)) rfl (Step.move rfl) ?_
          refine WL.step (v := (Value.int .i64 (↑(usedN (free1 l_ x26))))) rfl (Step.move rfl) ?_
          refine WL.step (v := (Value.pointer (some ⟨ab5, 0, none⟩))) rfl (Step.move rfl) ?_
          refine WL.callX rfl (ar_used ab5 (free1 l_ x26) S36 (by first | assumption | exact smallA_of rfl) (M.enterW (C := [arenaC 71 73 S36 ab5 (free1 l_ x26)]) (D := [blk b38 (.cells #[(Value.int .i64 x26.at_), (Value.int .i64 x26.turn)] 29), blk b34 (.cells #[(Value.int .i64 x26.at_), (Value.int .i64 x26.turn)] 29), blk b30 (.cells #[(Value.int .i64 x26.at_), (Value.int .i64 x26.turn)] 29), blk b27 (.cells #[(Value.int .i64 x26.at_), (Value.int .i64 x26.turn)] 29), own 29 2 v14 ((rused l_).length) ((rused l_).flatMap handleE), own 29 2 v40 ((gs_ ++ ([x26] : List Handle)).length) ((gs_ ++ ([x26] : List Handle)).flatMap handleE)]) [1, 0, 2, 3, 4, 5, 6] rfl (by decide) trivial)) (CallsF.func Try.en10 rfl) ?_
          rintro v44 w45 ⟨_, rfl, m⟩
          replace M := M.leaveW (C := [arenaC 71 73 S36 ab5 (free1 l_ x26)]) (D := [blk b38 (.cells #[(Value.int .i64 x26.at_), (Value.int .i64 x26.turn)] 29), blk b34 (.cells #[(Value.int .i64 x26.at_), (Value.int .i64 x26.turn)] 29), blk b30 (.cells #[(Value.int .i64 x26.at_), (Value.int .i64 x26.turn)] 29), blk b27 (.cells #[(Value.int .i64 x26.at_), (Value.int .i64 x26.turn)] 29), own 29 2 v14 ((rused l_).length) ((rused l_).flatMap handleE), own 29 2 v40 ((gs_ ++ ([x26] : List Handle)).length) ((gs_ ++ ([x26] : List Handle)).flatMap handleE)]) [1, 0, 2, 3, 4, 5, 6] rfl (by decide) m
          replace M := M.sel (L' := [own 29 2 v44 ((rused (free1 l_ x26)).length) ((rused (free1 l_ x26)).flatMap handleE), blk b38 (.cells #[(Value.int .i64 x26.at_), (Value.int .i64 x26.turn)] 29), arenaC 71 73 S36 ab5 (free1 l_ x26), blk b34 (.cells #[(Value.int .i64 x26.at_), (Value.int .i64 x26.turn)] 29), blk b30 (.cells #[(Value.int .i64 x26.at_), (Value.int .i64 x26.turn)] 29), blk b27 (.cells #[(Value.int .i64 x26.at_), (Value.int .i64 x26.turn)] 29), own 29 2 v14 ((rused l_).length) ((rused l_).flatMap handleE), own 29 2 v40 ((gs_ ++ ([x26] : List Handle)).length) ((gs_ ++ ([x26] : List Handle)).flatMap handleE)]) [1, 2, 0, 3, 4, 5, 6, 7] rfl (by decide)
          clear m
          replace M : Mem _ _ _ [own 29 2 v44 ((rused (free1 l_ x26)).length) ((rused (free1 l_ x26)).flatMap handleE), blk b38 (.cells #[(Value.int .i64 x26.at_), (Value.int .i64 x26.turn)] 29), arenaC 71 73 S36 ab5 (free1 l_ x26), blk b34 (.cells #[(Value.int .i64 x26.at_), (Value.int .i64 x26.turn)] 29), blk b30 (.cells #[(Value.int .i64 x26.at_), (Value.int .i64 x26.turn)] 29), blk b27 (.cells #[(Value.int .i64 x26.at_), (Value.int .i64 x26.turn)] 29), own 29 2 v14 ((rused l_).length) ((rused l_).flatMap handleE), own 29 2 v40 ((gs_ ++ ([x26] : List Handle)).length) ((gs_ ++ ([x26] : List Handle)).flatMap handleE)] [SlAt 1 v xs.length (xs.flatMap intE)] _ := M
          have sl46 : IsSl v44 := SlAt.isSl (own_slAt (Mem.chunk M 0 rfl).inv)
          have hle47 := SlAt.le' (own_slAt (Mem.chunk M 0 rfl).inv)
          refine WL.step (v := (Value.int .i64 (↑((rused (free1 l_ x26)).length)))) rfl (Step.lenSl Try.un26 rfl (own_slAt (M.chunk 0 rfl).inv)) ?_
          refine WL.step (v := (Value.bool ((↑(usedN (free1 l_ x26)) : Int) != (↑((rused (free1 l_ x26)).length) : Int)))) rfl (Step.pure (by kernel_rfl)) ?_
          refine WL.step (v := (Value.bool ((↑(usedN (free1 l_ x26)) : Int) != (↑((rused (free1 l_ x26)).length) : Int)))) rfl (Step.pick (t := false) rfl rfl) ?_
          refine WL.nil ?_
          refine W.cond (t := (↑(usedN (free1 l_ x26)) : Int) != (↑((rused (free1 l_ x26)).length) : Int)) rfl (fun h48 => ?_) (fun h48 => ?_)
          ·
            have h48p : ¬ (↑(usedN (free1 l_ x26)) : Int) = (↑((rused (free1 l_ x26)).length) : Int) := by simpa using h48
            exact absurd (congrArg Int.ofNat (rused_len _)).symm h48p
          ·
            have h48p : (↑(usedN (free1 l_ x26)) : Int) = (↑((rused (free1 l_ x26)).length) : Int) := by simpa using h48
            refine W.skip ?_
            refine W.seq' ?_
            refine W.region rfl ?_
            refine WL.step (v := (Value.int .i64 0)) rfl (Step.assign rfl) ?_
            refine WL.nil ?_
            refine W.block ?_
            refine W.loop (fun kk ρ w' => ∃ (kc_ : Nat), ((kc_ ≤ (gs_ ++ ([x26] : List Handle)).length) ∧ kk = (gs_ ++ ([x26] : List Handle)).length - kc_) ∧ ρ.has [(0, v), (3, (Value.pointer (some ⟨ab5, 0, none⟩))), (4, v40), (5, (Value.int .i64 (↑(free1 l_ x26).length))), (6, (Value.int .i64 ↑ia_)), (7, v14), (8, (Value.pointer (some ⟨b27, 0, none⟩))), (14, (Value.int .i64 (↑(usedN (free1 l_ x26))))), (15, (Value.int .i64 (↑(free1 l_ x26).length))), (16, (Value.int .i64 ↑kc_)), (22, (Value.int .i64 ↑ia_)), (23, v), (24, (Value.int .i64 ↑xs.length)), (25, (Value.bool (decide ((↑ia_ : Int) < (↑xs.length : Int))))), (28, (Value.pointer (some ⟨ab5, 0, none⟩))), (29, v14), (30, v), (31, (Value.int .i64 ↑ia_)), (32, (Value.pointer (some ⟨(sBlk v), sOff v + ia_ * 1, none⟩))), (33, (Value.int .i64 x20)), (34, (Value.bool true)), (35, (Value.bool true)), (36, v14), (37, (Value.int .i64 (↑((rused l_).length)))), (38, (Value.bool (decide ((↑((rused l_).length) : Int) > (0 : Int))))), (39, (Value.bool (decide ((↑((rused l_).length) : Int) > (0 : Int))))), (40, v14), (41, v), (42, (Value.int .i64 ↑ia_)), (43, (Value.pointer (some ⟨(sBlk v), sOff v + ia_ * 1, none⟩))), (44, (Value.int .i64 x20)), (45, v14), (46, (Value.int .i64 (↑((rused l_).length)))), (47, (Value.int .i64 (pickI x20 (↑((rused l_).length))))), (48, (Value.pointer (some ⟨(sBlk v14), sOff v14 + ((pickI x20 (↑((rused l_).length))).toNat) * 2, none⟩))), (49, (Value.agg #[(Value.int .i64 x26.at_), (Value.int .i64 x26.turn)])), (50, (Value.pointer (some ⟨ab5, 0, none⟩))), (51, (Value.agg #[(Value.int .i64 x26.at_), (Value.int .i64 x26.turn)])), (52, (Value.slice (some ⟨b30, 0, none⟩) 1 1)), (53, (Value.int .i64 0)), (54, (Value.bool false)), (55, (Value.bool false)), (56, (Value.pointer (some ⟨ab5, 0, none⟩))), (57, (Value.agg #[(Value.int .i64 x26.at_), (Value.int .i64 x26.turn)])), (58, (Value.slice (some ⟨b34, 0, none⟩) 1 1)), (59, (Value.int .i64 110)), (60, (Value.bool false)), (61, (Value.bool false)), (62, g_), (63, (Value.agg #[(Value.int .i64 x26.at_), (Value.int .i64 x26.turn)])), (64, (Value.slice (some ⟨b38, 0, none⟩) 1 1)), (65, v40), (119, (Value.tuple #[(Value.int .i64 (↑(usedN (free1 l_ x26)))), (Value.int .i64 (↑(free1 l_ x26).length))])), (120, (Value.pointer (some ⟨ab5, 0, none⟩))), (121, (Value.tuple #[(Value.int .i64 (↑(usedN (free1 l_ x26)))), (Value.int .i64 (↑(free1 l_ x26).length))])), (122, (Value.int .i64 (↑(usedN (free1 l_ x26))))), (123, (Value.int .i64 (↑(free1 l_ x26).length))), (124, (Value.int .i64 ↑l_.length)), (125, (Value.int .i64 (↑(usedN (free1 l_ x26))))), (126, (Value.int .i64 (↑(free1 l_ x26).length))), (127, (Value.int .i64 (↑(free1 l_ x26).length))), (128, (Value.int .i64 (↑(free1 l_ x26).length))), (129, (Value.bool false)), (130, (Value.bool false)), (131, (Value.int .i64 (↑(usedN (free1 l_ x26))))), (132, (Value.pointer (some ⟨ab5, 0, none⟩))), (133, v44), (134, (Value.int .i64 (↑((rused (free1 l_ x26)).length)))), (135, (Value.bool ((↑(usedN (free1 l_ x26)) : Int) != (↑((rused (free1 l_ x26)).length) : Int)))), (136, (Value.bool ((↑(usedN (free1 l_ x26)) : Int) != (↑((rused (free1 l_ x26)).length) : Int))))] ∧ Mem G (fun _ => False) w [own 29 2 v44 ((rused (free1 l_ x26)).length) ((rused (free1 l_ x26)).flatMap handleE), blk b38 (.cells #[(Value.int .i64 x26.at_), (Value.int .i64 x26.turn)] 29), arenaC 71 73 S36 ab5 (free1 l_ x26), blk b34 (.cells #[(Value.int .i64 x26.at_), (Value.int .i64 x26.turn)] 29), blk b30 (.cells #[(Value.int .i64 x26.at_), (Value.int .i64 x26.turn)] 29), blk b27 (.cells #[(Value.int .i64 x26.at_), (Value.int .i64 x26.turn)] 29), own 29 2 v14 ((rused l_).length) ((rused l_).flatMap handleE), own 29 2 v40 ((gs_ ++ ([x26] : List Handle)).length) ((gs_ ++ ([x26] : List Handle)).flatMap handleE)] [SlAt 1 v xs.length (xs.flatMap intE)]  w') _ ⟨0, ⟨(Nat.zero_le _), rfl⟩, ⟨rfl, rfl, rfl, rfl, rfl, rfl, rfl, rfl, rfl, rfl, rfl, rfl, rfl, rfl, rfl, rfl, rfl, rfl, rfl, rfl, rfl, rfl, rfl, rfl, rfl, rfl, rfl, rfl, rfl, rfl, rfl, rfl, rfl, rfl, rfl, rfl, rfl, rfl, rfl, rfl, rfl, rfl, rfl, rfl, rfl, rfl, rfl, rfl, rfl, rfl, rfl, rfl, rfl, rfl, rfl, rfl, rfl, rfl, rfl, rfl, rfl, rfl, rfl, rfl, rfl, rfl, rfl, rfl, rfl, rfl, trivial⟩, M⟩ ?_
            rintro _ ρ50 w49 ⟨kc_, ⟨hi51, rfl⟩, hρ, M⟩
            obtain ⟨ρ50, rfl⟩ := hρ.know
            clear hρ
            refine W.seq' ?_
            refine W.seq' ?_
            refine W.region rfl ?_
            refine WL.step (v := (Value.int .i64 ↑kc_)) rfl (Step.move rfl) ?_
            refine WL.step (v := v40) rfl (Step.move rfl) ?_
            refine WL.step (v := (Value.int .i64 (↑((gs_ ++ ([x26] : List Handle)).length)))) rfl (Step.lenSl Try.un26 rfl (own_slAt (M.chunk 7 rfl).inv)) ?_
            refine WL.step (v := (Value.bool (decide ((↑kc_ : Int) < (↑((gs_ ++ ([x26] : List Handle)).length) : Int))))) rfl (Step.pure (by kernel_rfl)) ?_
            refine WL.nil ?_
            refine W.cond (t := decide ((↑kc_ : Int) < (↑((gs_ ++ ([x26] : List Handle)).length) : Int))) rfl (fun h52 => ?_) (fun h52 => ?_)
            ·
              have h52p := of_decide_eq_true h52
              refine W.skip ?_
              refine W.seq' ?_
              refine W.block ?_
              refine W.seq' ?_
              refine W.region rfl ?_
              refine WL.step (v := (Value.pointer (some ⟨ab5, 0, none⟩))) rfl (Step.move rfl) ?_
              refine WL.step (v := v40) rfl (Step.move rfl) ?_
              refine WL.step (v := (Value.int .i64 ↑kc_)) rfl (Step.move rfl) ?_
              obtain ⟨cap54, hb53⟩ := SlAt.base (own_slAt (M.chunk 7 rfl).inv) (by omega)
              obtain ⟨x55, hx55⟩ := elem_of_lt (xs := gs_ ++ ([x26] : List Handle)) (i := kc_) (by omega)
              refine WL.step (v := (Value.pointer (some ⟨(sBlk v40), sOff v40 + kc_ * 2, none⟩))) rfl (Step.indexAddr (i := kc_) (Try.un26).run Try.el29.sized rfl rfl (by omega) hb53 (by omega)) ?_
              refine WL.step (v := (Value.agg #[(Value.int .i64 x55.at_), (Value.int .i64 x55.turn)])) rfl (Step.loadEN (k := 0) (cs' := [(Value.int .i64 x55.at_), (Value.int .i64 x55.turn)]) Try.ag29 (flat_ec (own_slAt (M.chunk 7 rfl).inv) hx55 handleE_len) (by decide) rfl rfl rfl) ?_
              refine WL.callX rfl (ar_has_p ab5 (free1 l_ x26) S36 x55 (M.enterW (C := [arenaC 71 73 S36 ab5 (free1 l_ x26)]) (D := [own 29 2 v44 ((rused (free1 l_ x26)).length) ((rused (free1 l_ x26)).flatMap handleE), blk b38 (.cells #[(Value.int .i64 x26.at_), (Value.int .i64 x26.turn)] 29), blk b34 (.cells #[(Value.int .i64 x26.at_), (Value.int .i64 x26.turn)] 29), blk b30 (.cells #[(Value.int .i64 x26.at_), (Value.int .i64 x26.turn)] 29), blk b27 (.cells #[(Value.int .i64 x26.at_), (Value.int .i64 x26.turn)] 29), own 29 2 v14 ((rused l_).length) ((rused l_).flatMap handleE), own 29 2 v40 ((gs_ ++ ([x26] : List Handle)).length) ((gs_ ++ ([x26] : List Handle)).flatMap handleE)]) [2, 0, 1, 3, 4, 5, 6, 7] rfl (by decide) trivial)) (CallsF.func Try.en16 rfl) ?_
              rintro _ w56 ⟨rfl, m⟩
              replace M := M.leaveW (C := [arenaC 71 73 S36 ab5 (free1 l_ x26)]) (D := [own 29 2 v44 ((rused (free1 l_ x26)).length) ((rused (free1 l_ x26)).flatMap handleE), blk b38 (.cells #[(Value.int .i64 x26.at_), (Value.int .i64 x26.turn)] 29), blk b34 (.cells #[(Value.int .i64 x26.at_), (Value.int .i64 x26.turn)] 29), blk b30 (.cells #[(Value.int .i64 x26.at_), (Value.int .i64 x26.turn)] 29), blk b27 (.cells #[(Value.int .i64 x26.at_), (Value.int .i64 x26.turn)] 29), own 29 2 v14 ((rused l_).length) ((rused l_).flatMap handleE), own 29 2 v40 ((gs_ ++ ([x26] : List Handle)).length) ((gs_ ++ ([x26] : List Handle)).flatMap handleE)]) [2, 0, 1, 3, 4, 5, 6, 7] rfl (by decide) m
              replace M := M.sel (L' := [own 29 2 v44 ((rused (free1 l_ x26)).length) ((rused (free1 l_ x26)).flatMap handleE), blk b38 (.cells #[(Value.int .i64 x26.at_), (Value.int .i64 x26.turn)] 29), arenaC 71 73 S36 ab5 (free1 l_ x26), blk b34 (.cells #[(Value.int .i64 x26.at_), (Value.int .i64 x26.turn)] 29), blk b30 (.cells #[(Value.int .i64 x26.at_), (Value.int .i64 x26.turn)] 29), blk b27 (.cells #[(Value.int .i64 x26.at_), (Value.int .i64 x26.turn)] 29), own 29 2 v14 ((rused l_).length) ((rused l_).flatMap handleE), own 29 2 v40 ((gs_ ++ ([x26] : List Handle)).length) ((gs_ ++ ([x26] : List Handle)).flatMap handleE)]) [1, 2, 0, 3, 4, 5, 6, 7] rfl (by decide)
              clear m
              replace M : Mem _ _ _ [own 29 2 v44 ((rused (free1 l_ x26)).length) ((rused (free1 l_ x26)).flatMap handleE), blk b38 (.cells #[(Value.int .i64 x26.at_), (Value.int .i64 x26.turn)] 29), arenaC 71 73 S36 ab5 (free1 l_ x26), blk b34 (.cells #[(Value.int .i64 x26.at_), (Value.int .i64 x26.turn)] 29), blk b30 (.cells #[(Value.int .i64 x26.at_), (Value.int .i64 x26.turn)] 29), blk b27 (.cells #[(Value.int .i64 x26.at_), (Value.int .i64 x26.turn)] 29), own 29 2 v14 ((rused l_).length) ((rused l_).flatMap handleE), own 29 2 v40 ((gs_ ++ ([x26] : List Handle)).length) ((gs_ ++ ([x26] : List Handle)).flatMap handleE)] [SlAt 1 v xs.length (xs.flatMap intE)] _ := M
              refine WL.nil ?_
              refine W.cond (t := rhas (free1 l_ x26) x55) rfl (fun h57 => ?_) (fun h57 => ?_)
              ·
                exact absurd h57 (by rw [hT2.has (List.mem_of_getElem? hx55)]; simp)
              ·
                refine W.skip ?_
                refine W.region rfl ?_
                refine WL.step (v := (Value.int .i64 ↑kc_)) rfl (Step.move rfl) ?_
                refine WL.step (v := (Value.int .i64 (↑kc_ + 1))) rfl (Step.add rfl rfl (wrap_i64 (by omega))) ?_
                refine WL.step (v := (Value.int .i64 (↑kc_ + 1))) rfl (Step.assign rfl) ?_
                refine WL.nil ?_
                exact ⟨_, (by omega), kc_ + 1, ⟨(by omega), rfl⟩, ⟨rfl, rfl, rfl, rfl, rfl, rfl, rfl, rfl, rfl, rfl, rfl, rfl, rfl, rfl, rfl, rfl, rfl, rfl, rfl, rfl, rfl, rfl, rfl, rfl, rfl, rfl, rfl, rfl, rfl, rfl, rfl, rfl, rfl, rfl, rfl, rfl, rfl, rfl, rfl, rfl, rfl, rfl, rfl, rfl, rfl, rfl, rfl, rfl, rfl, rfl, rfl, rfl, rfl, rfl, rfl, rfl, rfl, rfl, rfl, rfl, rfl, rfl, rfl, rfl, rfl, rfl, rfl, rfl, rfl, rfl, trivial⟩, M⟩
            ·
              have h52p := of_decide_eq_false h52
              refine W.exit ?_
              refine thn_exit ?_
              refine thn_exit ?_
              refine inBlk_hit ?_
              refine W.region rfl ?_
              refine WL.step (v := (Value.int .i64 ↑ia_)) rfl (Step.move rfl) ?_
              refine WL.step (v := (Value.int .i64 (↑ia_ + 1))) rfl (Step.add rfl rfl (wrap_i64 (by omega))) ?_
              refine WL.step (v := (Value.int .i64 (↑ia_ + 1))) rfl (Step.assign rfl) ?_
              refine WL.nil ?_
              replace M := M.sel (L' := [arenaC 71 73 S36 ab5 (free1 l_ x26), own 29 2 v40 ((gs_ ++ ([x26] : List Handle)).length) ((gs_ ++ ([x26] : List Handle)).flatMap handleE)]) [2, 7] rfl (by decide)
              exact ⟨_, (by omega), ia_ + 1, _, free1 l_ x26, _, gs_ ++ ([x26] : List Handle), ⟨(by omega), hT2, rfl⟩, ⟨rfl, rfl, rfl, rfl, rfl, trivial⟩, M⟩
        ·
          have h22p := of_decide_eq_false h22
          refine W.seq' ?_
          refine W.region rfl ?_
          refine WL.step (v := (Value.pointer (some ⟨ab5, 0, none⟩))) rfl (Step.move rfl) ?_
          refine WL.step (v := (Value.int .i64 ↑ia_)) rfl (Step.move rfl) ?_
          refine WL.new (obj := .cells #[(Value.int .i64 ↑ia_)] 3) (fun b => .slice (some ⟨b, 0, none⟩) 1 1) M rfl (fun w => Step.make (by kernel_rfl)) (fun b58 w59 hb58 M => ?_)
          refine WL.step (v := (Value.agg #[(Value.bool false), (Value.slice none 0 0), (Value.slice none 0 0), (Value.slice (some ⟨b58, 0, none⟩) 1 1)])) rfl (Step.pure (by kernel_rfl)) ?_
          refine WL.callX rfl (ar_make ab5 l_ S_ (Value.slice none 0 0) (Value.slice none 0 0) (Value.slice (some ⟨b58, 0, none⟩) 1 1) (⟨false, ([] : List ByteArray), ([] : List Handle), ([↑ia_] : List Int)⟩ : Nd) (by first | assumption | exact smallA_of rfl) (by first | omega | (simp only [List.length_nil, List.length_cons]; omega) | decide) (by first | omega | (simp only [List.length_nil, List.length_cons]; omega) | decide) (by first | omega | (simp only [List.length_nil, List.length_cons]; omega) | decide) (M.enterW (C := [arenaC 71 73 S_ ab5 l_]) (D := [blk b58 (.cells #[(Value.int .i64 ↑ia_)] 3), own 29 2 v14 ((rused l_).length) ((rused l_).flatMap handleE), own 29 2 g_ gs_.length (gs_.flatMap handleE)]) [2, 0, 1, 3] rfl (by decide) ⟨(Sh.pure fun w => SlAt.nil 1 w), (Sh.pure fun w => SlAt.nil 2 w), ((M.wideC (C := [arenaC 71 73 S_ ab5 l_]) (D := [blk b58 (.cells #[(Value.int .i64 ↑ia_)] 3), own 29 2 v14 ((rused l_).length) ((rused l_).flatMap handleE), own 29 2 g_ gs_.length (gs_.flatMap handleE)]) [2, 0, 1, 3] rfl (by decide) 0 rfl).imp fun _ h => SlAt.of_blk (n := 1) (size := 1) h rfl (by decide)), trivial⟩)) (CallsF.func Try.en13 rfl) ?_
          rintro _ w61 ⟨S60, rfl, m⟩
          replace M := M.leaveW (C := [arenaC 71 73 S_ ab5 l_]) (D := [blk b58 (.cells #[(Value.int .i64 ↑ia_)] 3), own 29 2 v14 ((rused l_).length) ((rused l_).flatMap handleE), own 29 2 g_ gs_.length (gs_.flatMap handleE)]) [2, 0, 1, 3] rfl (by decide) m
          clear m
          replace M : Mem _ _ _ [arenaC 71 73 S60 ab5 ((rmake l_ (⟨false, ([] : List ByteArray), ([] : List Handle), ([↑ia_] : List Int)⟩ : Nd)).1), blk b58 (.cells #[(Value.int .i64 ↑ia_)] 3), own 29 2 v14 ((rused l_).length) ((rused l_).flatMap handleE), own 29 2 g_ gs_.length (gs_.flatMap handleE)] [SlAt 1 v xs.length (xs.flatMap intE)] _ := M
          have hT2 := hT.make (n := (⟨false, ([] : List ByteArray), ([] : List Handle), ([↑ia_] : List Int)⟩ : Nd)) ⟨by simp, by simp, by simp⟩
          have hA2 := hT2.1.small (by omega)
          refine WL.alloc (c := #[(Value.int .i64 0), (Value.int .i64 0)]) M rfl Try.el29.zero rfl (fun b62 w63 hb62 M => ?_)
          refine WL.store (v := (Value.agg #[(Value.int .i64 (((rmake l_ (⟨false, ([] : List ByteArray), ([] : List Handle), ([↑ia_] : List Int)⟩ : Nd)).2).at_)), (Value.int .i64 (((rmake l_ (⟨false, ([] : List ByteArray), ([] : List Handle), ([↑ia_] : List Int)⟩ : Nd)).2).turn))])) (cs := [(Value.int .i64 (((rmake l_ (⟨false, ([] : List ByteArray), ([] : List Handle), ([↑ia_] : List Int)⟩ : Nd)).2).at_)), (Value.int .i64 (((rmake l_ (⟨false, ([] : List ByteArray), ([] : List Handle), ([↑ia_] : List Int)⟩ : Nd)).2).turn))]) (c' := #[(Value.int .i64 (((rmake l_ (⟨false, ([] : List ByteArray), ([] : List Handle), ([↑ia_] : List Int)⟩ : Nd)).2).at_)), (Value.int .i64 (((rmake l_ (⟨false, ([] : List ByteArray), ([] : List Handle), ([↑ia_] : List Int)⟩ : Nd)).2).turn))]) M 0 rfl rfl Try.el29.sized rfl rfl rfl rfl (Nat.le_of_ble_eq_true rfl) (cel_cons rfl (cel_cons rfl cel_nil)) rfl rfl (fun w64 M => ?_)
          refine WL.nil ?_
          refine W.seq' ?_
          refine W.seq' ?_
          refine W.region rfl ?_
          refine WL.step (v := (Value.int .i64 0)) rfl (Step.assign rfl) ?_
          refine WL.nil ?_
          refine W.block ?_
          refine W.loop (fun kk ρ w' => ∃ (ka_ : Nat), ((ka_ ≤ gs_.length) ∧ kk = gs_.length - ka_) ∧ ρ.has [(0, v), (3, (Value.pointer (some ⟨ab5, 0, none⟩))), (4, g_), (5, (Value.int .i64 ↑l_.length)), (6, (Value.int .i64 ↑ia_)), (7, v14), (9, (Value.pointer (some ⟨b62, 0, none⟩))), (10, (Value.int .i64 ↑ka_)), (22, (Value.int .i64 ↑ia_)), (23, v), (24, (Value.int .i64 ↑xs.length)), (25, (Value.bool (decide ((↑ia_ : Int) < (↑xs.length : Int))))), (28, (Value.pointer (some ⟨ab5, 0, none⟩))), (29, v14), (30, v), (31, (Value.int .i64 ↑ia_)), (32, (Value.pointer (some ⟨(sBlk v), sOff v + ia_ * 1, none⟩))), (33, (Value.int .i64 x20)), (34, (Value.bool true)), (35, (Value.bool true)), (36, v14), (37, (Value.int .i64 (↑((rused l_).length)))), (38, (Value.bool (decide ((↑((rused l_).length) : Int) > (0 : Int))))), (39, (Value.bool (decide ((↑((rused l_).length) : Int) > (0 : Int))))), (66, (Value.pointer (some ⟨ab5, 0, none⟩))), (67, (Value.int .i64 ↑ia_)), (68, (Value.slice (some ⟨b58, 0, none⟩) 1 1)), (69, (Value.agg #[(Value.bool false), (Value.slice none 0 0), (Value.slice none 0 0), (Value.slice (some ⟨b58, 0, none⟩) 1 1)])), (70, (Value.agg #[(Value.int .i64 (((rmake l_ (⟨false, ([] : List ByteArray), ([] : List Handle), ([↑ia_] : List Int)⟩ : Nd)).2).at_)), (Value.int .i64 (((rmake l_ (⟨false, ([] : List ByteArray), ([] : List Handle), ([↑ia_] : List Int)⟩ : Nd)).2).turn))]))] ∧ Mem G (fun _ => False) w [blk b62 (.cells #[(Value.int .i64 (((rmake l_ (⟨false, ([] : List ByteArray), ([] : List Handle), ([↑ia_] : List Int)⟩ : Nd)).2).at_)), (Value.int .i64 (((rmake l_ (⟨false, ([] : List ByteArray), ([] : List Handle), ([↑ia_] : List Int)⟩ : Nd)).2).turn))] 29), arenaC 71 73 S60 ab5 ((rmake l_ (⟨false, ([] : List ByteArray), ([] : List Handle), ([↑ia_] : List Int)⟩ : Nd)).1), blk b58 (.cells #[(Value.int .i64 ↑ia_)] 3), own 29 2 v14 ((rused l_).length) ((rused l_).flatMap handleE), own 29 2 g_ gs_.length (gs_.flatMap handleE)] [SlAt 1 v xs.length (xs.flatMap intE)]  w') _ ⟨0, ⟨(Nat.zero_le _), rfl⟩, ⟨rfl, rfl, rfl, rfl, rfl, rfl, rfl, rfl, rfl, rfl, rfl, rfl, rfl, rfl, rfl, rfl, rfl, rfl, rfl, rfl, rfl, rfl, rfl, rfl, rfl, rfl, rfl, rfl, rfl, trivial⟩, M⟩ ?_
          rintro _ ρ66 w65 ⟨ka_, ⟨hi67, rfl⟩, hρ, M⟩
          obtain ⟨ρ66, rfl⟩ := hρ.know
          clear hρ
          refine W.seq' ?_
          refine W.seq' ?_
          refine W.region rfl ?_
          refine WL.step (v := (Value.int .i64 ↑ka_)) rfl (Step.move rfl) ?_
          refine WL.step (v := g_) rfl (Step.move rfl) ?_
          refine WL.step (v := (Value.int .i64 ↑gs_.length)) rfl (Step.lenSl Try.un26 rfl (own_slAt (M.chunk 4 rfl).inv)) ?_
          refine WL.step (v := (Value.bool (decide ((↑ka_ : Int) < (↑gs_.length : Int))))) rfl (Step.pure (by kernel_rfl)) ?_
          refine WL.nil ?_
          refine W.cond (t := decide ((↑ka_ : Int) < (↑gs_.length : Int))) rfl (fun h68 => ?_) (fun h68 => ?_)
          ·
            have h68p := of_decide_eq_true h68
            refine W.skip ?_
            refine W.seq' ?_
            refine W.block ?_
            refine W.seq' ?_
            obtain ⟨cap70, hb69⟩ := SlAt.base (own_slAt (M.chunk 4 rfl).inv) (by omega)
            obtain ⟨x71, hx71⟩ := elem_of_lt (xs := gs_) (i := ka_) (by omega)
            refine W.drawn M [0, 1, 2, 3, 4, 5] [] [] [blk b62 (.cells #[(Value.int .i64 (((rmake l_ (⟨false, ([] : List ByteArray), ([] : List Handle), ([↑ia_] : List Int)⟩ : Nd)).2).at_)), (Value.int .i64 (((rmake l_ (⟨false, ([] : List ByteArray), ([] : List Handle), ([↑ia_] : List Int)⟩ : Nd)).2).turn))] 29), arenaC 71 73 S60 ab5 ((rmake l_ (⟨false, ([] : List ByteArray), ([] : List Handle), ([↑ia_] : List Int)⟩ : Nd)).1), blk b58 (.cells #[(Value.int .i64 ↑ia_)] 3), own 29 2 v14 ((rused l_).length) ((rused l_).flatMap handleE), own 29 2 g_ gs_.length (gs_.flatMap handleE)] [SlAt 1 v xs.length (xs.flatMap intE)] (List.Sublist.cons_cons _ (List.Sublist.cons_cons _ (List.Sublist.cons_cons _ (List.Sublist.cons_cons _ (List.Sublist.cons_cons _ List.Sublist.slnil))))) (fun _ h => h) Try.mixed (by kernel_rfl) ?_
            refine TW.pure (v := g_) rfl (by decide) (by decide) rfl (fun w => (Step.move rfl)) ?_
            refine TW.pure (v := (Value.int .i64 ↑ka_)) rfl (by decide) (by decide) rfl (fun w => (Step.move rfl)) ?_
            refine TW.pure (v := (Value.pointer (some ⟨(sBlk g_), sOff g_ + ka_ * 2, none⟩))) rfl (by decide) (by decide) rfl (fun w => (Step.indexAddr (i := ka_) (Try.un26).run Try.el29.sized rfl rfl (by omega) hb69 (by omega))) ?_
            refine TW.read (v := (Value.agg #[(Value.int .i64 x71.at_), (Value.int .i64 x71.turn)])) rfl (by decide) (by decide) rfl (fun A w M => (Step.loadEN (k := 0) (cs' := [(Value.int .i64 x71.at_), (Value.int .i64 x71.turn)]) Try.ag29 (flat_ec (own_slAt (M.chunk 5 rfl).inv) hx71 handleE_len) (by decide) rfl rfl rfl)) ?_
            refine TW.read (v := (Value.agg #[(Value.int .i64 (((rmake l_ (⟨false, ([] : List ByteArray), ([] : List Handle), ([↑ia_] : List Int)⟩ : Nd)).2).at_)), (Value.int .i64 (((rmake l_ (⟨false, ([] : List ByteArray), ([] : List Handle), ([↑ia_] : List Int)⟩ : Nd)).2).turn))])) rfl (by decide) (by decide) rfl (fun A w M => (Step.loadN Try.ag29 rfl (M.blk 1 rfl) (Nat.le_of_ble_eq_true rfl) rfl)) ?_
            refine TW.pure (v := (Value.bool (((x71.at_ : Int) == (((rmake l_ (⟨false, ([] : List ByteArray), ([] : List Handle), ([↑ia_] : List Int)⟩ : Nd)).2).at_ : Int)) && (((x71.turn : Int) == (((rmake l_ (⟨false, ([] : List ByteArray), ([] : List Handle), ([↑ia_] : List Int)⟩ : Nd)).2).turn : Int)) && true)))) rfl (by decide) (by decide) rfl (fun w => (Step.eqAgg Try.eg29 rfl rfl rfl (Try.eq29 9998 (x71.at_ : Int) (x71.turn : Int) (((rmake l_ (⟨false, ([] : List ByteArray), ([] : List Handle), ([↑ia_] : List Int)⟩ : Nd)).2).at_ : Int) (((rmake l_ (⟨false, ([] : List ByteArray), ([] : List Handle), ([↑ia_] : List Int)⟩ : Nd)).2).turn : Int)))) ?_
            refine TW.done (fun w72 M => ?_)
            refine W.cond (t := ((x71.at_ : Int) == (((rmake l_ (⟨false, ([] : List ByteArray), ([] : List Handle), ([↑ia_] : List Int)⟩ : Nd)).2).at_ : Int)) && (((x71.turn : Int) == (((rmake l_ (⟨false, ([] : List ByteArray), ([] : List Handle), ([↑ia_] : List Int)⟩ : Nd)).2).turn : Int)) && true)) rfl (fun h73 => ?_) (fun h73 => ?_)
            ·
              exact absurd (handle_eq2 h73) (hT.fresh (List.mem_of_getElem? hx71))
            ·
              refine W.skip ?_
              refine W.region rfl ?_
              refine WL.step (v := (Value.int .i64 ↑ka_)) rfl (Step.move rfl) ?_
              refine WL.step (v := (Value.int .i64 (↑ka_ + 1))) rfl (Step.add rfl rfl (wrap_i64 (by omega))) ?_
              refine WL.step (v := (Value.int .i64 (↑ka_ + 1))) rfl (Step.assign rfl) ?_
              refine WL.nil ?_
              exact ⟨_, (by omega), ka_ + 1, ⟨(by omega), rfl⟩, ⟨rfl, rfl, rfl, rfl, rfl, rfl, rfl, rfl, rfl, rfl, rfl, rfl, rfl, rfl, rfl, rfl, rfl, rfl, rfl, rfl, rfl, rfl, rfl, rfl, rfl, rfl, rfl, rfl, rfl, trivial⟩, M⟩
          ·
            have h68p := of_decide_eq_false h68
            refine W.exit ?_
            refine thn_exit ?_
            refine thn_exit ?_
            refine inBlk_hit ?_
            refine W.seq' ?_
            refine W.seq' ?_
            refine W.region rfl ?_
            refine WL.step (v := (Value.int .i64 0)) rfl (Step.assign rfl) ?_
            refine WL.nil ?_
            refine W.block ?_
            refine W.loop (fun kk ρ w' => ∃ (kb_ : Nat), ((kb_ ≤ (rused l_).length) ∧ kk = (rused l_).length - kb_) ∧ ρ.has [(0, v), (3, (Value.pointer (some ⟨ab5, 0, none⟩))), (4, g_), (5, (Value.int .i64 ↑l_.length)), (6, (Value.int .i64 ↑ia_)), (7, v14), (9, (Value.pointer (some ⟨b62, 0, none⟩))), (10, (Value.int .i64 ↑ka_)), (11, (Value.int .i64 ↑kb_)), (22, (Value.int .i64 ↑ia_)), (23, v), (24, (Value.int .i64 ↑xs.length)), (25, (Value.bool (decide ((↑ia_ : Int) < (↑xs.length : Int))))), (28, (Value.pointer (some ⟨ab5, 0, none⟩))), (29, v14), (30, v), (31, (Value.int .i64 ↑ia_)), (32, (Value.pointer (some ⟨(sBlk v), sOff v + ia_ * 1, none⟩))), (33, (Value.int .i64 x20)), (34, (Value.bool true)), (35, (Value.bool true)), (36, v14), (37, (Value.int .i64 (↑((rused l_).length)))), (38, (Value.bool (decide ((↑((rused l_).length) : Int) > (0 : Int))))), (39, (Value.bool (decide ((↑((rused l_).length) : Int) > (0 : Int))))), (66, (Value.pointer (some ⟨ab5, 0, none⟩))), (67, (Value.int .i64 ↑ia_)), (68, (Value.slice (some ⟨b58, 0, none⟩) 1 1)), (69, (Value.agg #[(Value.bool false), (Value.slice none 0 0), (Value.slice none 0 0), (Value.slice (some ⟨b58, 0, none⟩) 1 1)])), (70, (Value.agg #[(Value.int .i64 (((rmake l_ (⟨false, ([] : List ByteArray), ([] : List Handle), ([↑ia_] : List Int)⟩ : Nd)).2).at_)), (Value.int .i64 (((rmake l_ (⟨false, ([] : List ByteArray), ([] : List Handle), ([↑ia_] : List Int)⟩ : Nd)).2).turn))])), (71, (Value.int .i64 ↑ka_)), (72, g_), (73, (Value.int .i64 ↑gs_.length)), (74, (Value.bool (decide ((↑ka_ : Int) < (↑gs_.length : Int)))))] ∧ Mem G (fun _ => False) w [blk b62 (.cells #[(Value.int .i64 (((rmake l_ (⟨false, ([] : List ByteArray), ([] : List Handle), ([↑ia_] : List Int)⟩ : Nd)).2).at_)), (Value.int .i64 (((rmake l_ (⟨false, ([] : List ByteArray), ([] : List Handle), ([↑ia_] : List Int)⟩ : Nd)).2).turn))] 29), arenaC 71 73 S60 ab5 ((rmake l_ (⟨false, ([] : List ByteArray), ([] : List Handle), ([↑ia_] : List Int)⟩ : Nd)).1), blk b58 (.cells #[(Value.int .i64 ↑ia_)] 3), own 29 2 v14 ((rused l_).length) ((rused l_).flatMap handleE), own 29 2 g_ gs_.length (gs_.flatMap handleE)] [SlAt 1 v xs.length (xs.flatMap intE)]  w') _ ⟨0, ⟨(Nat.zero_le _), rfl⟩, ⟨rfl, rfl, rfl, rfl, rfl, rfl, rfl, rfl, rfl, rfl, rfl, rfl, rfl, rfl, rfl, rfl, rfl, rfl, rfl, rfl, rfl, rfl, rfl, rfl, rfl, rfl, rfl, rfl, rfl, rfl, rfl, rfl, rfl, rfl, trivial⟩, M⟩ ?_
            rintro _ ρ75 w74 ⟨kb_, ⟨hi76, rfl⟩, hρ, M⟩
            obtain ⟨ρ75, rfl⟩ := hρ.know
            clear hρ
            refine W.seq' ?_
            refine W.seq' ?_
            refine W.region rfl ?_
            refine WL.step (v := (Value.int .i64 ↑kb_)) rfl (Step.move rfl) ?_
            refine WL.step (v := v14) rfl (Step.move rfl) ?_
            refine WL.step (v := (Value.int .i64 (↑((rused l_).length)))) rfl (Step.lenSl Try.un26 rfl (own_slAt (M.chunk 3 rfl).inv)) ?_
            refine WL.step (v := (Value.bool (decide ((↑kb_ : Int) < (↑((rused l_).length) : Int))))) rfl (Step.pure (by kernel_rfl)) ?_
            refine WL.nil ?_
            refine W.cond (t := decide ((↑kb_ : Int) < (↑((rused l_).length) : Int))) rfl (fun h77 => ?_) (fun h77 => ?_)
            ·
              have h77p := of_decide_eq_true h77
              refine W.skip ?_
              refine W.seq' ?_
              refine W.block ?_
              refine W.seq' ?_
              obtain ⟨cap79, hb78⟩ := SlAt.base (own_slAt (M.chunk 3 rfl).inv) (by omega)
              obtain ⟨x80, hx80⟩ := elem_of_lt (xs := rused l_) (i := kb_) (by omega)
              refine W.drawn M [0, 1, 2, 3, 4, 5, 6, 7] [] [] [blk b62 (.cells #[(Value.int .i64 (((rmake l_ (⟨false, ([] : List ByteArray), ([] : List Handle), ([↑ia_] : List Int)⟩ : Nd)).2).at_)), (Value.int .i64 (((rmake l_ (⟨false, ([] : List ByteArray), ([] : List Handle), ([↑ia_] : List Int)⟩ : Nd)).2).turn))] 29), arenaC 71 73 S60 ab5 ((rmake l_ (⟨false, ([] : List ByteArray), ([] : List Handle), ([↑ia_] : List Int)⟩ : Nd)).1), blk b58 (.cells #[(Value.int .i64 ↑ia_)] 3), own 29 2 v14 ((rused l_).length) ((rused l_).flatMap handleE), own 29 2 g_ gs_.length (gs_.flatMap handleE)] [SlAt 1 v xs.length (xs.flatMap intE)] (List.Sublist.cons_cons _ (List.Sublist.cons_cons _ (List.Sublist.cons_cons _ (List.Sublist.cons_cons _ (List.Sublist.cons_cons _ List.Sublist.slnil))))) (fun _ h => h) Try.mixed (by kernel_rfl) ?_
              refine TW.pure (v := v14) rfl (by decide) (by decide) rfl (fun w => (Step.move rfl)) ?_
              refine TW.pure (v := (Value.int .i64 ↑kb_)) rfl (by decide) (by decide) rfl (fun w => (Step.move rfl)) ?_
              refine TW.pure (v := (Value.pointer (some ⟨(sBlk v14), sOff v14 + kb_ * 2, none⟩))) rfl (by decide) (by decide) rfl (fun w => (Step.indexAddr (i := kb_) (Try.un26).run Try.el29.sized rfl rfl (by omega) hb78 (by omega))) ?_
              refine TW.pure (v := (Value.pointer (some ⟨(sBlk v14), sOff v14 + kb_ * 2, none⟩))) rfl (by decide) (by decide) rfl (fun w => (Step.pure (by kernel_rfl))) ?_
              refine TW.read (v := (Value.int .i64 x80.at_)) rfl (by decide) (by decide) rfl (fun A w M => (Step.loadE (k := 0) Try.sc3 (flat_ec (own_slAt (M.chunk 4 rfl).inv) hx80 handleE_len) (by decide) rfl rfl)) ?_
              refine TW.pure (v := (Value.pointer (some ⟨b62, 0, none⟩))) rfl (by decide) (by decide) rfl (fun w => (Step.pure (by kernel_rfl))) ?_
              refine TW.read (v := (Value.int .i64 (((rmake l_ (⟨false, ([] : List ByteArray), ([] : List Handle), ([↑ia_] : List Int)⟩ : Nd)).2).at_))) rfl (by decide) (by decide) rfl (fun A w M => (Step.load1 Try.sc3 rfl ((M.cell 1 rfl 0).trans rfl))) ?_
              refine TW.pure (v := (Value.bool ((x80.at_ : Int) == (((rmake l_ (⟨false, ([] : List ByteArray), ([] : List Handle), ([↑ia_] : List Int)⟩ : Nd)).2).at_ : Int)))) rfl (by decide) (by decide) rfl (fun w => (Step.pure (by kernel_rfl))) ?_
              refine TW.done (fun w81 M => ?_)
              refine W.cond (t := (x80.at_ : Int) == (((rmake l_ (⟨false, ([] : List ByteArray), ([] : List Handle), ([↑ia_] : List Int)⟩ : Nd)).2).at_ : Int)) rfl (fun h82 => ?_) (fun h82 => ?_)
              ·
                have h82p : (x80.at_ : Int) = (((rmake l_ (⟨false, ([] : List ByteArray), ([] : List Handle), ([↑ia_] : List Int)⟩ : Nd)).2).at_ : Int) := by simpa using h82
                exact absurd h82p (rused_at hx80)
              ·
                have h82p : ¬ (x80.at_ : Int) = (((rmake l_ (⟨false, ([] : List ByteArray), ([] : List Handle), ([↑ia_] : List Int)⟩ : Nd)).2).at_ : Int) := by simpa using h82
                refine W.skip ?_
                refine W.region rfl ?_
                refine WL.step (v := (Value.int .i64 ↑kb_)) rfl (Step.move rfl) ?_
                refine WL.step (v := (Value.int .i64 (↑kb_ + 1))) rfl (Step.add rfl rfl (wrap_i64 (by omega))) ?_
                refine WL.step (v := (Value.int .i64 (↑kb_ + 1))) rfl (Step.assign rfl) ?_
                refine WL.nil ?_
                exact ⟨_, (by omega), kb_ + 1, ⟨(by omega), rfl⟩, ⟨rfl, rfl, rfl, rfl, rfl, rfl, rfl, rfl, rfl, rfl, rfl, rfl, rfl, rfl, rfl, rfl, rfl, rfl, rfl, rfl, rfl, rfl, rfl, rfl, rfl, rfl, rfl, rfl, rfl, rfl, rfl, rfl, rfl, rfl, trivial⟩, M⟩
            ·
              have h77p := of_decide_eq_false h77
              refine W.exit ?_
              refine thn_exit ?_
              refine thn_exit ?_
              refine inBlk_hit ?_
              refine W.seq' ?_
              refine W.region rfl ?_
              refine WL.step (v := (Value.pointer (some ⟨ab5, 0, none⟩))) rfl (Step.move rfl) ?_
              refine WL.step (v := (Value.agg #[(Value.int .i64 (((rmake l_ (⟨false, ([] : List ByteArray), ([] : List Handle), ([↑ia_] : List Int)⟩ : Nd)).2).at_)), (Value.int .i64 (((rmake l_ (⟨false, ([] : List ByteArray), ([] : List Handle), ([↑ia_] : List Int)⟩ : Nd)).2).turn))])) rfl (Step.loadN Try.ag29 rfl (M.blk 0 rfl) (Nat.le_of_ble_eq_true rfl) rfl) ?_
              refine WL.callX rfl (ar_get ab5 ((rmake l_ (⟨false, ([] : List ByteArray), ([] : List Handle), ([↑ia_] : List Int)⟩ : Nd)).1) S60 ((rmake l_ (⟨false, ([] : List ByteArray), ([] : List Handle), ([↑ia_] : List Int)⟩ : Nd)).2) (by first | assumption | exact smallA_of rfl) (M.enterW (C := [arenaC 71 73 S60 ab5 ((rmake l_ (⟨false, ([] : List ByteArray), ([] : List Handle), ([↑ia_] : List Int)⟩ : Nd)).1)]) (D := [blk b62 (.cells #[(Value.int .i64 (((rmake l_ (⟨false, ([] : List ByteArray), ([] : List Handle), ([↑ia_] : List Int)⟩ : Nd)).2).at_)), (Value.int .i64 (((rmake l_ (⟨false, ([] : List ByteArray), ([] : List Handle), ([↑ia_] : List Int)⟩ : Nd)).2).turn))] 29), blk b58 (.cells #[(Value.int .i64 ↑ia_)] 3), own 29 2 v14 ((rused l_).length) ((rused l_).flatMap handleE), own 29 2 g_ gs_.length (gs_.flatMap handleE)]) [1, 0, 2, 3, 4] rfl (by decide) trivial)) (CallsF.func Try.en14 rfl) ?_
              rintro _ w86 ⟨kv83, dv84, vv85, rfl, m⟩
              replace M := M.leaveW (C := [arenaC 71 73 S60 ab5 ((rmake l_ (⟨false, ([] : List ByteArray), ([] : List Handle), ([↑ia_] : List Int)⟩ : Nd)).1)]) (D := [blk b62 (.cells #[(Value.int .i64 (((rmake l_ (⟨false, ([] : List ByteArray), ([] : List Handle), ([↑ia_] : List Int)⟩ : Nd)).2).at_)), (Value.int .i64 (((rmake l_ (⟨false, ([] : List ByteArray), ([] : List Handle), ([↑ia_] : List Int)⟩ : Nd)).2).turn))] 29), blk b58 (.cells #[(Value.int .i64 ↑ia_)] 3), own 29 2 v14 ((rused l_).length) ((rused l_).flatMap handleE), own 29 2 g_ gs_.length (gs_.flatMap handleE)]) [1, 0, 2, 3, 4] rfl (by decide) m
              replace M := M.sel (L' := [own 9 1 kv83 ((((rget ((rmake l_ (⟨false, ([] : List ByteArray), ([] : List Handle), ([↑ia_] : List Int)⟩ : Nd)).1) ((rmake l_ (⟨false, ([] : List ByteArray), ([] : List Handle), ([↑ia_] : List Int)⟩ : Nd)).2)).1).keys).length) ((((rget ((rmake l_ (⟨false, ([] : List ByteArray), ([] : List Handle), ([↑ia_] : List Int)⟩ : Nd)).1) ((rmake l_ (⟨false, ([] : List ByteArray), ([] : List Handle), ([↑ia_] : List Int)⟩ : Nd)).2)).1).keys).flatMap strE), own 29 2 dv84 ((((rget ((rmake l_ (⟨false, ([] : List ByteArray), ([] : List Handle), ([↑ia_] : List Int)⟩ : Nd)).1) ((rmake l_ (⟨false, ([] : List ByteArray), ([] : List Handle), ([↑ia_] : List Int)⟩ : Nd)).2)).1).kids).length) ((((rget ((rmake l_ (⟨false, ([] : List ByteArray), ([] : List Handle), ([↑ia_] : List Int)⟩ : Nd)).1) ((rmake l_ (⟨false, ([] : List ByteArray), ([] : List Handle), ([↑ia_] : List Int)⟩ : Nd)).2)).1).kids).flatMap handleE), own 3 1 vv85 ((((rget ((rmake l_ (⟨false, ([] : List ByteArray), ([] : List Handle), ([↑ia_] : List Int)⟩ : Nd)).1) ((rmake l_ (⟨false, ([] : List ByteArray), ([] : List Handle), ([↑ia_] : List Int)⟩ : Nd)).2)).1).vals).length) ((((rget ((rmake l_ (⟨false, ([] : List ByteArray), ([] : List Handle), ([↑ia_] : List Int)⟩ : Nd)).1) ((rmake l_ (⟨false, ([] : List ByteArray), ([] : List Handle), ([↑ia_] : List Int)⟩ : Nd)).2)).1).vals).flatMap intE), blk b62 (.cells #[(Value.int .i64 (((rmake l_ (⟨false, ([] : List ByteArray), ([] : List Handle), ([↑ia_] : List Int)⟩ : Nd)).2).at_)), (Value.int .i64 (((rmake l_ (⟨false, ([] : List ByteArray), ([] : List Handle), ([↑ia_] : List Int)⟩ : Nd)).2).turn))] 29), arenaC 71 73 S60 ab5 ((rmake l_ (⟨false, ([] : List ByteArray), ([] : List Handle), ([↑ia_] : List Int)⟩ : Nd)).1), blk b58 (.cells #[(Value.int .i64 ↑ia_)] 3), own 29 2 v14 ((rused l_).length) ((rused l_).flatMap handleE), own 29 2 g_ gs_.length (gs_.flatMap handleE)]) [1, 2, 3, 4, 0, 5, 6, 7] rfl (by decide)
              clear m
              replace M : Mem _ _ _ [own 9 1 kv83 ((((rget ((rmake l_ (⟨false, ([] : List ByteArray), ([] : List Handle), ([↑ia_] : List Int)⟩ : Nd)).1) ((rmake l_ (⟨false, ([] : List ByteArray), ([] : List Handle), ([↑ia_] : List Int)⟩ : Nd)).2)).1).keys).length) ((((rget ((rmake l_ (⟨false, ([] : List ByteArray), ([] : List Handle), ([↑ia_] : List Int)⟩ : Nd)).1) ((rmake l_ (⟨false, ([] : List ByteArray), ([] : List Handle), ([↑ia_] : List Int)⟩ : Nd)).2)).1).keys).flatMap strE), own 29 2 dv84 ((((rget ((rmake l_ (⟨false, ([] : List ByteArray), ([] : List Handle), ([↑ia_] : List Int)⟩ : Nd)).1) ((rmake l_ (⟨false, ([] : List ByteArray), ([] : List Handle), ([↑ia_] : List Int)⟩ : Nd)).2)).1).kids).length) ((((rget ((rmake l_ (⟨false, ([] : List ByteArray), ([] : List Handle), ([↑ia_] : List Int)⟩ : Nd)).1) ((rmake l_ (⟨false, ([] : List ByteArray), ([] : List Handle), ([↑ia_] : List Int)⟩ : Nd)).2)).1).kids).flatMap handleE), own 3 1 vv85 ((((rget ((rmake l_ (⟨false, ([] : List ByteArray), ([] : List Handle), ([↑ia_] : List Int)⟩ : Nd)).1) ((rmake l_ (⟨false, ([] : List ByteArray), ([] : List Handle), ([↑ia_] : List Int)⟩ : Nd)).2)).1).vals).length) ((((rget ((rmake l_ (⟨false, ([] : List ByteArray), ([] : List Handle), ([↑ia_] : List Int)⟩ : Nd)).1) ((rmake l_ (⟨false, ([] : List ByteArray), ([] : List Handle), ([↑ia_] : List Int)⟩ : Nd)).2)).1).vals).flatMap intE), blk b62 (.cells #[(Value.int .i64 (((rmake l_ (⟨false, ([] : List ByteArray), ([] : List Handle), ([↑ia_] : List Int)⟩ : Nd)).2).at_)), (Value.int .i64 (((rmake l_ (⟨false, ([] : List ByteArray), ([] : List Handle), ([↑ia_] : List Int)⟩ : Nd)).2).turn))] 29), arenaC 71 73 S60 ab5 ((rmake l_ (⟨false, ([] : List ByteArray), ([] : List Handle), ([↑ia_] : List Int)⟩ : Nd)).1), blk b58 (.cells #[(Value.int .i64 ↑ia_)] 3), own 29 2 v14 ((rused l_).length) ((rused l_).flatMap handleE), own 29 2 g_ gs_.length (gs_.flatMap handleE)] [SlAt 1 v xs.length (xs.flatMap intE)] _ := M
              have sl87 : IsSl kv83 := SlAt.isSl (own_slAt (Mem.chunk M 0 rfl).inv)
              have hle88 := SlAt.le' (own_slAt (Mem.chunk M 0 rfl).inv)
              have sl89 : IsSl dv84 := SlAt.isSl (own_slAt (Mem.chunk M 1 rfl).inv)
              have hle90 := SlAt.le' (own_slAt (Mem.chunk M 1 rfl).inv)
              have sl91 : IsSl vv85 := SlAt.isSl (own_slAt (Mem.chunk M 2 rfl).inv)
              have hle92 := SlAt.le' (own_slAt (Mem.chunk M 2 rfl).inv)
              have hrg := rmake_get (l := l_) (n := (⟨false, ([] : List ByteArray), ([] : List Handle), ([↑ia_] : List Int)⟩ : Nd))
              rw [hrg] at M ⊢
              replace M : Mem _ _ _ [own 9 1 kv83 (([] : List ByteArray).length) (([] : List ByteArray).flatMap strE), own 29 2 dv84 (([] : List Handle).length) (([] : List Handle).flatMap handleE), own 3 1 vv85 (([↑ia_] : List Int).length) (([↑ia_] : List Int).flatMap intE), blk b62 (.cells #[(Value.int .i64 (((rmake l_ (⟨false, ([] : List ByteArray), ([] : List Handle), ([↑ia_] : List Int)⟩ : Nd)).2).at_)), (Value.int .i64 (((rmake l_ (⟨false, ([] : List ByteArray), ([] : List Handle), ([↑ia_] : List Int)⟩ : Nd)).2).turn))] 29), arenaC 71 73 S60 ab5 ((rmake l_ (⟨false, ([] : List ByteArray), ([] : List Handle), ([↑ia_] : List Int)⟩ : Nd)).1), blk b58 (.cells #[(Value.int .i64 ↑ia_)] 3), own 29 2 v14 ((rused l_).length) ((rused l_).flatMap handleE), own 29 2 g_ gs_.length (gs_.flatMap handleE)] [SlAt 1 v xs.length (xs.flatMap intE)] _ := M
              change WL _ _ _ _ _ (Env.put _ _ (Value.tuple #[(Value.agg #[(Value.bool false), kv83, dv84, vv85]), (Value.int .i64 0)])) _
              refine WL.step (v := (Value.tuple #[(Value.agg #[(Value.bool false), kv83, dv84, vv85]), (Value.int .i64 0)])) rfl (Step.move rfl) ?_
              refine WL.step (v := (Value.agg #[(Value.bool false), kv83, dv84, vv85])) rfl (Step.pure (by kernel_rfl)) ?_
              refine WL.step (v := (Value.int .i64 0)) rfl (Step.pure (by kernel_rfl)) ?_
              refine WL.alloc (c := #[(Value.bool false), (Value.slice none 0 0), (Value.slice none 0 0), (Value.slice none 0 0)]) M rfl Try.el36.zero rfl (fun b93 w94 hb93 M => ?_)
              refine WL.store (v := (Value.agg #[(Value.bool false), kv83, dv84, vv85])) (cs := [(Value.bool false), kv83, dv84, vv85]) (c' := #[(Value.bool false), kv83, dv84, vv85]) M 0 rfl rfl Try.el36.sized rfl rfl rfl rfl (Nat.le_of_ble_eq_true rfl) (cel_cons rfl (cel_cons (IsSl.cel sl87) (cel_cons (IsSl.cel sl89) (cel_cons (IsSl.cel sl91) cel_nil)))) rfl rfl (fun w95 M => ?_)
              refine WL.step (v := (Value.int .i64 0)) rfl (Step.assign rfl) ?_
              refine WL.nil ?_
              refine W.seq' ?_
              refine W.region rfl ?_
              refine WL.step (v := (Value.int .i64 0)) rfl (Step.move rfl) ?_
              refine WL.step (v := (Value.bool false)) rfl (Step.pure (by kernel_rfl)) ?_
              refine WL.step (v := (Value.bool false)) rfl (Step.move rfl) ?_
              refine WL.step (v := (Value.pointer (some ⟨b93, 3, none⟩))) rfl (Step.pure (by kernel_rfl)) ?_
              refine WL.step (v := vv85) rfl (Step.load1 Try.sc22 rfl ((M.cell 0 rfl 3).trans rfl)) ?_
              refine WL.step (v := (Value.int .i64 (↑(([↑ia_] : List Int).length)))) rfl (Step.lenSl Try.un22 rfl (own_slAt (M.chunk 3 rfl).inv)) ?_
              refine WL.step (v := (Value.bool ((↑(([↑ia_] : List Int).length) : Int) != (1 : Int)))) rfl (Step.pure (by kernel_rfl)) ?_
              refine WL.step (v := (Value.bool ((↑(([↑ia_] : List Int).length) : Int) != (1 : Int)))) rfl (Step.pick (t := false) rfl rfl) ?_
              refine WL.step (v := (Value.bool ((↑(([↑ia_] : List Int).length) : Int) != (1 : Int)))) rfl (Step.move rfl) ?_
              rcases Bool.eq_false_or_eq_true ((↑(([↑ia_] : List Int).length) : Int) != (1 : Int)) with h96 | h96
              ·
                have h96p : ¬ (↑(([↑ia_] : List Int).length) : Int) = (1 : Int) := by simpa using h96
                exact absurd (by simp) h96p
              ·
                have h96p : (↑(([↑ia_] : List Int).length) : Int) = (1 : Int) := by simpa using h96
                rw [h96]
                refine WL.step (v := (Value.pointer (some ⟨b93, 3, none⟩))) rfl (Step.pure (by kernel_rfl)) ?_
                refine WL.step (v := vv85) rfl (Step.load1 Try.sc22 rfl ((M.cell 0 rfl 3).trans rfl)) ?_
                obtain ⟨cap98, hb97⟩ := SlAt.base (own_slAt (M.chunk 3 rfl).inv) (by omega)
                obtain ⟨x99, hx99⟩ := elem_of_lt (xs := ([↑ia_] : List Int)) (i := 0) (by omega)
                refine WL.step (v := (Value.pointer (some ⟨(sBlk vv85), sOff vv85 + 0 * 1, none⟩))) rfl (Step.indexAddr (i := 0) (Try.un22).run Try.el3.sized rfl rfl rfl hb97 (by omega)) ?_
                refine WL.step (v := (Value.int .i64 x99)) rfl (Step.loadE (k := 0) Try.sc3 (flat_ec (own_slAt (M.chunk 3 rfl).inv) hx99 intE_len) (by decide) rfl rfl) ?_
                refine WL.step (v := (Value.int .i64 ↑ia_)) rfl (Step.move rfl) ?_
                refine WL.step (v := (Value.bool ((x99 : Int) != (↑ia_ : Int)))) rfl (Step.pure (by kernel_rfl)) ?_
                refine WL.step (v := (Value.bool ((x99 : Int) != (↑ia_ : Int)))) rfl (Step.pick (t := false) rfl rfl) ?_
                refine WL.nil ?_
                refine W.cond (t := (x99 : Int) != (↑ia_ : Int)) rfl (fun h100 => ?_) (fun h100 => ?_)
                ·
                  have h100p : ¬ (x99 : Int) = (↑ia_ : Int) := by simpa using h100
                  have hvv := hx99
                  simp at hvv
                  omega
                ·
                  have h100p : (x99 : Int) = (↑ia_ : Int) := by simpa using h100
                  refine W.skip ?_
                  refine W.seq' ?_
                  refine W.region rfl ?_
                  refine WL.step (v := (Value.pointer (some ⟨ab5, 0, none⟩))) rfl (Step.move rfl) ?_
                  refine WL.callX rfl (ar_len ab5 ((rmake l_ (⟨false, ([] : List ByteArray), ([] : List Handle), ([↑ia_] : List Int)⟩ : Nd)).1) S60 (M.enterW (C := [arenaC 71 73 S60 ab5 ((rmake l_ (⟨false, ([] : List ByteArray), ([] : List Handle), ([↑ia_] : List Int)⟩ : Nd)).1)]) (D := [blk b93 (.cells #[(Value.bool false), kv83, dv84, vv85] 36), own 9 1 kv83 (([] : List ByteArray).length) (([] : List ByteArray).flatMap strE), own 29 2 dv84 (([] : List Handle).length) (([] : List Handle).flatMap handleE), own 3 1 vv85 (([↑ia_] : List Int).length) (([↑ia_] : List Int).flatMap intE), blk b62 (.cells #[(Value.int .i64 (((rmake l_ (⟨false, ([] : List ByteArray), ([] : List Handle), ([↑ia_] : List Int)⟩ : Nd)).2).at_)), (Value.int .i64 (((rmake l_ (⟨false, ([] : List ByteArray), ([] : List Handle), ([↑ia_] : List Int)⟩ : Nd)).2).turn))] 29), blk b58 (.cells #[(Value.int .i64 ↑ia_)] 3), own 29 2 v14 ((rused l_).length) ((rused l_).flatMap handleE), own 29 2 g_ gs_.length (gs_.flatMap handleE)]) [5, 0, 1, 2, 3, 4, 6, 7, 8] rfl (by decide) trivial)) (CallsF.func Try.en15 rfl) ?_
                  rintro _ w101 ⟨rfl, m⟩
                  replace M := M.leaveW (C := [arenaC 71 73 S60 ab5 ((rmake l_ (⟨false, ([] : List ByteArray), ([] : List Handle), ([↑ia_] : List Int)⟩ : Nd)).1)]) (D := [blk b93 (.cells #[(Value.bool false), kv83, dv84, vv85] 36), own 9 1 kv83 (([] : List ByteArray).length) (([] : List ByteArray).flatMap strE), own 29 2 dv84 (([] : List Handle).length) (([] : List Handle).flatMap handleE), own 3 1 vv85 (([↑ia_] : List Int).length) (([↑ia_] : List Int).flatMap intE), blk b62 (.cells #[(Value.int .i64 (((rmake l_ (⟨false, ([] : List ByteArray), ([] : List Handle), ([↑ia_] : List Int)⟩ : Nd)).2).at_)), (Value.int .i64 (((rmake l_ (⟨false, ([] : List ByteArray), ([] : List Handle), ([↑ia_] : List Int)⟩ : Nd)).2).turn))] 29), blk b58 (.cells #[(Value.int .i64 ↑ia_)] 3), own 29 2 v14 ((rused l_).length) ((rused l_).flatMap handleE), own 29 2 g_ gs_.length (gs_.flatMap handleE)]) [5, 0, 1, 2, 3, 4, 6, 7, 8] rfl (by decide) m
                  replace M := M.sel (L' := [blk b93 (.cells #[(Value.bool false), kv83, dv84, vv85] 36), own 9 1 kv83 (([] : List ByteArray).length) (([] : List ByteArray).flatMap strE), own 29 2 dv84 (([] : List Handle).length) (([] : List Handle).flatMap handleE), own 3 1 vv85 (([↑ia_] : List Int).length) (([↑ia_] : List Int).flatMap intE), blk b62 (.cells #[(Value.int .i64 (((rmake l_ (⟨false, ([] : List ByteArray), ([] : List Handle), ([↑ia_] : List Int)⟩ : Nd)).2).at_)), (Value.int .i64 (((rmake l_ (⟨false, ([] : List ByteArray), ([] : List Handle), ([↑ia_] : List Int)⟩ : Nd)).2).turn))] 29), arenaC 71 73 S60 ab5 ((rmake l_ (⟨false, ([] : List ByteArray), ([] : List Handle), ([↑ia_] : List Int)⟩ : Nd)).1), blk b58 (.cells #[(Value.int .i64 ↑ia_)] 3), own 29 2 v14 ((rused l_).length) ((rused l_).flatMap handleE), own 29 2 g_ gs_.length (gs_.flatMap handleE)]) [1, 2, 3, 4, 5, 0, 6, 7, 8] rfl (by decide)
                  clear m
                  replace M : Mem _ _ _ [blk b93 (.cells #[(Value.bool false), kv83, dv84, vv85] 36), own 9 1 kv83 (([] : List ByteArray).length) (([] : List ByteArray).flatMap strE), own 29 2 dv84 (([] : List Handle).length) (([] : List Handle).flatMap handleE), own 3 1 vv85 (([↑ia_] : List Int).length) (([↑ia_] : List Int).flatMap intE), blk b62 (.cells #[(Value.int .i64 (((rmake l_ (⟨false, ([] : List ByteArray), ([] : List Handle), ([↑ia_] : List Int)⟩ : Nd)).2).at_)), (Value.int .i64 (((rmake l_ (⟨false, ([] : List ByteArray), ([] : List Handle), ([↑ia_] : List Int)⟩ : Nd)).2).turn))] 29), arenaC 71 73 S60 ab5 ((rmake l_ (⟨false, ([] : List ByteArray), ([] : List Handle), ([↑ia_] : List Int)⟩ : Nd)).1), blk b58 (.cells #[(Value.int .i64 ↑ia_)] 3), own 29 2 v14 ((rused l_).length) ((rused l_).flatMap handleE), own 29 2 g_ gs_.length (gs_.flatMap handleE)] [SlAt 1 v xs.length (xs.flatMap intE)] _ := M
                  refine WL.step (v := (Value.tuple #[(Value.int .i64 (↑(usedN ((rmake l_ (⟨false, ([] : List ByteArray), ([] : List Handle), ([↑ia_] : List Int)⟩ : Nd)).1)))), (Value.int .i64 (↑((rmake l_ (⟨false, ([] : List ByteArray), ([] : List Handle), ([↑ia_] : List Int)⟩ : Nd)).1).length))])) rfl (Step.move rfl) ?_
                  refine WL.step (v := (Value.int .i64 (↑(usedN ((rmake l_ (⟨false, ([] : List ByteArray), ([] : List Handle), ([↑ia_] : List Int)⟩ : Nd)).1))))) rfl (Step.pure (by kernel_rfl)) ?_
                  refine WL.step (v := (Value.int .i64 (↑((rmake l_ (⟨false, ([] : List ByteArray), ([] : List Handle), ([↑ia_] : List Int)⟩ : Nd)).1).length))) rfl (Step.pure (by kernel_rfl)) ?_
                  refine WL.step (v := (Value.int .i64 (↑(usedN ((rmake l_ (⟨false, ([] : List ByteArray), ([] : List Handle), ([↑ia_] : List Int)⟩ : Nd)).1))))) rfl (Step.assign rfl) ?_
                  refine WL.step (v := (Value.int .i64 (↑((rmake l_ (⟨false, ([] : List ByteArray), ([] : List Handle), ([↑ia_] : List Int)⟩ : Nd)).1).length))) rfl (Step.assign rfl) ?_
                  refine WL.nil ?_
                  refine W.seq' ?_
                  refine W.region rfl ?_
                  refine WL.step (v := (Value.int .i64 ↑l_.length)) rfl (Step.move rfl) ?_
                  refine WL.step (v := (Value.int .i64 (↑(usedN ((rmake l_ (⟨false, ([] : List ByteArray), ([] : List Handle), ([↑ia_] : List Int)⟩ : Nd)).1))))) rfl (Step.move rfl) ?_
                  refine WL.step (v := (Value.int .i64 (↑((rmake l_ (⟨false, ([] : List ByteArray), ([] : List Handle), ([↑ia_] : List Int)⟩ : Nd)).1).length))) rfl (Step.cast (congrArg (Value.int .i64) most_make) (Step.maxI rfl rfl)) ?_
                  refine WL.step (v := (Value.int .i64 (↑((rmake l_ (⟨false, ([] : List ByteArray), ([] : List Handle), ([↑ia_] : List Int)⟩ : Nd)).1).length))) rfl (Step.assign rfl) ?_
                  refine WL.nil ?_
                  refine W.seq' ?_
                  refine W.seq' ?_
                  refine W.region rfl ?_
                  refine WL.step (v := (Value.int .i64 (↑((rmake l_ (⟨false, ([] : List ByteArray), ([] : List Handle), ([↑ia_] : List Int)⟩ : Nd)).1).length))) rfl (Step.move rfl) ?_
                  refine WL.step (v := (Value.int .i64 (↑((rmake l_ (⟨false, ([] : List ByteArray), ([] : List Handle), ([↑ia_] : List Int)⟩ : Nd)).1).length))) rfl (Step.move rfl) ?_
                  refine WL.step (v := (Value.bool false)) rfl (Step.cast (congrArg Value.bool (show ((↑((rmake l_ (⟨false, ([] : List ByteArray), ([] : List Handle), ([↑ia_] : List Int)⟩ : Nd)).1).length : Int) != (↑((rmake l_ (⟨false, ([] : List ByteArray), ([] : List Handle), ([↑ia_] : List Int)⟩ : Nd)).1).length : Int)) = false by simp)) (Step.pure (by kernel_rfl))) ?_
                  refine WL.step (v := (Value.bool false)) rfl (Step.move rfl) ?_
                  refine WL.step (v := (Value.int .i64 (↑(usedN ((rmake l_ (⟨false, ([] : List ByteArray), ([] : List Handle), ([↑ia_] : List Int)⟩ : Nd)).1))))) rfl (Step.move rfl) ?_
                  refine WL.step (v := (Value.pointer (some ⟨ab5, 0, none⟩))) rfl (Step.move rfl) ?_
                  refine WL.callX rfl (ar_used ab5 ((rmake l_ (⟨false, ([] : List ByteArray), ([] : List Handle), ([↑ia_] : List Int)⟩ : Nd)).1) S60 (by first | assumption | exact smallA_of rfl) (M.enterW (C := [arenaC 71 73 S60 ab5 ((rmake l_ (⟨false, ([] : List ByteArray), ([] : List Handle), ([↑ia_] : List Int)⟩ : Nd)).1)]) (D := [blk b93 (.cells #[(Value.bool false), kv83, dv84, vv85] 36), own 9 1 kv83 (([] : List ByteArray).length) (([] : List ByteArray).flatMap strE), own 29 2 dv84 (([] : List Handle).length) (([] : List Handle).flatMap handleE), own 3 1 vv85 (([↑ia_] : List Int).length) (([↑ia_] : List Int).flatMap intE), blk b62 (.cells #[(Value.int .i64 (((rmake l_ (⟨false, ([] : List ByteArray), ([] : List Handle), ([↑ia_] : List Int)⟩ : Nd)).2).at_)), (Value.int .i64 (((rmake l_ (⟨false, ([] : List ByteArray), ([] : List Handle), ([↑ia_] : List Int)⟩ : Nd)).2).turn))] 29), blk b58 (.cells #[(Value.int .i64 ↑ia_)] 3), own 29 2 v14 ((rused l_).length) ((rused l_).flatMap handleE), own 29 2 g_ gs_.length (gs_.flatMap handleE)]) [5, 0, 1, 2, 3, 4, 6, 7, 8] rfl (by decide) trivial)) (CallsF.func Try.en10 rfl) ?_
                  rintro v102 w103 ⟨_, rfl, m⟩
                  replace M := M.leaveW (C := [arenaC 71 73 S60 ab5 ((rmake l_ (⟨false, ([] : List ByteArray), ([] : List Handle), ([↑ia_] : List Int)⟩ : Nd)).1)]) (D := [blk b93 (.cells #[(Value.bool false), kv83, dv84, vv85] 36), own 9 1 kv83 (([] : List ByteArray).length) (([] : List ByteArray).flatMap strE), own 29 2 dv84 (([] : List Handle).length) (([] : List Handle).flatMap handleE), own 3 1 vv85 (([↑ia_] : List Int).length) (([↑ia_] : List Int).flatMap intE), blk b62 (.cells #[(Value.int .i64 (((rmake l_ (⟨false, ([] : List ByteArray), ([] : List Handle), ([↑ia_] : List Int)⟩ : Nd)).2).at_)), (Value.int .i64 (((rmake l_ (⟨false, ([] : List ByteArray), ([] : List Handle), ([↑ia_] : List Int)⟩ : Nd)).2).turn))] 29), blk b58 (.cells #[(Value.int .i64 ↑ia_)] 3), own 29 2 v14 ((rused l_).length) ((rused l_).flatMap handleE), own 29 2 g_ gs_.length (gs_.flatMap handleE)]) [5, 0, 1, 2, 3, 4, 6, 7, 8] rfl (by decide) m
                  replace M := M.sel (L' := [own 29 2 v102 ((rused ((rmake l_ (⟨false, ([] : List ByteArray), ([] : List Handle), ([↑ia_] : List Int)⟩ : Nd)).1)).length) ((rused ((rmake l_ (⟨false, ([] : List ByteArray), ([] : List Handle), ([↑ia_] : List Int)⟩ : Nd)).1)).flatMap handleE), blk b93 (.cells #[(Value.bool false), kv83, dv84, vv85] 36), own 9 1 kv83 (([] : List ByteArray).length) (([] : List ByteArray).flatMap strE), own 29 2 dv84 (([] : List Handle).length) (([] : List Handle).flatMap handleE), own 3 1 vv85 (([↑ia_] : List Int).length) (([↑ia_] : List Int).flatMap intE), blk b62 (.cells #[(Value.int .i64 (((rmake l_ (⟨false, ([] : List ByteArray), ([] : List Handle), ([↑ia_] : List Int)⟩ : Nd)).2).at_)), (Value.int .i64 (((rmake l_ (⟨false, ([] : List ByteArray), ([] : List Handle), ([↑ia_] : List Int)⟩ : Nd)).2).turn))] 29), arenaC 71 73 S60 ab5 ((rmake l_ (⟨false, ([] : List ByteArray), ([] : List Handle), ([↑ia_] : List Int)⟩ : Nd)).1), blk b58 (.cells #[(Value.int .i64 ↑ia_)] 3), own 29 2 v14 ((rused l_).length) ((rused l_).flatMap handleE), own 29 2 g_ gs_.length (gs_.flatMap handleE)]) [1, 2, 3, 4, 5, 6, 0, 7, 8, 9] rfl (by decide)
                  clear m
                  replace M : Mem _ _ _ [own 29 2 v102 ((rused ((rmake l_ (⟨false, ([] : List ByteArray), ([] : List Handle), ([↑ia_] : List Int)⟩ : Nd)).1)).length) ((rused ((rmake l_ (⟨false, ([] : List ByteArray), ([] : List Handle), ([↑ia_] : List Int)⟩ : Nd)).1)).flatMap handleE), blk b93 (.cells #[(Value.bool false), kv83, dv84, vv85] 36), own 9 1 kv83 (([] : List ByteArray).length) (([] : List ByteArray).flatMap strE), own 29 2 dv84 (([] : List Handle).length) (([] : List Handle).flatMap handleE), own 3 1 vv85 (([↑ia_] : List Int).length) (([↑ia_] : List Int).flatMap intE), blk b62 (.cells #[(Value.int .i64 (((rmake l_ (⟨false, ([] : List ByteArray), ([] : List Handle), ([↑ia_] : List Int)⟩ : Nd)).2).at_)), (Value.int .i64 (((rmake l_ (⟨false, ([] : List ByteArray), ([] : List Handle), ([↑ia_] : List Int)⟩ : Nd)).2).turn))] 29), arenaC 71 73 S60 ab5 ((rmake l_ (⟨false, ([] : List ByteArray), ([] : List Handle), ([↑ia_] : List Int)⟩ : Nd)).1), blk b58 (.cells #[(Value.int .i64 ↑ia_)] 3), own 29 2 v14 ((rused l_).length) ((rused l_).flatMap handleE), own 29 2 g_ gs_.length (gs_.flatMap handleE)] [SlAt 1 v xs.length (xs.flatMap intE)] _ := M
                  have sl104 : IsSl v102 := SlAt.isSl (own_slAt (Mem.chunk M 0 rfl).inv)
                  have hle105 := SlAt.le' (own_slAt (Mem.chunk M 0 rfl).inv)
                  refine WL.step (v := (Value.int .i64 (↑((rused ((rmake l_ (⟨false, ([] : List ByteArray), ([] : List Handle), ([↑ia_] : List Int)⟩ : Nd)).1)).length)))) rfl (Step.lenSl Try.un26 rfl (own_slAt (M.chunk 0 rfl).inv)) ?_
                  refine WL.step (v := (Value.bool ((↑(usedN ((rmake l_ (⟨false, ([] : List ByteArray), ([] : List Handle), ([↑ia_] : List Int)⟩ : Nd)).1)) : Int) != (↑((rused ((rmake l_ (⟨false, ([] : List ByteArray), ([] : List Handle), ([↑ia_] : List Int)⟩ : Nd)).1)).length) : Int)))) rfl (Step.pure (by kernel_rfl)) ?_
                  refine WL.step (v := (Value.bool ((↑(usedN ((rmake l_ (⟨false, ([] : List ByteArray), ([] : List Handle), ([↑ia_] : List Int)⟩ : Nd)).1)) : Int) != (↑((rused ((rmake l_ (⟨false, ([] : List ByteArray), ([] : List Handle), ([↑ia_] : List Int)⟩ : Nd)).1)).length) : Int)))) rfl (Step.pick (t := false) rfl rfl) ?_
                  refine WL.nil ?_
                  refine W.cond (t := (↑(usedN ((rmake l_ (⟨false, ([] : List ByteArray), ([] : List Handle), ([↑ia_] : List Int)⟩ : Nd)).1)) : Int) != (↑((rused ((rmake l_ (⟨false, ([] : List ByteArray), ([] : List Handle), ([↑ia_] : List Int)⟩ : Nd)).1)).length) : Int)) rfl (fun h106 => ?_) (fun h106 => ?_)
                  ·
                    have h106p : ¬ (↑(usedN ((rmake l_ (⟨false, ([] : List ByteArray), ([] : List Handle), ([↑ia_] : List Int)⟩ : Nd)).1)) : Int) = (↑((rused ((rmake l_ (⟨false, ([] : List ByteArray), ([] : List Handle), ([↑ia_] : List Int)⟩ : Nd)).1)).length) : Int) := by simpa using h106
                    exact absurd (congrArg Int.ofNat (rused_len _)).symm h106p
                  ·
                    have h106p : (↑(usedN ((rmake l_ (⟨false, ([] : List ByteArray), ([] : List Handle), ([↑ia_] : List Int)⟩ : Nd)).1)) : Int) = (↑((rused ((rmake l_ (⟨false, ([] : List ByteArray), ([] : List Handle), ([↑ia_] : List Int)⟩ : Nd)).1)).length) : Int) := by simpa using h106
                    refine W.skip ?_
                    refine W.seq' ?_
                    refine W.region rfl ?_
                    refine WL.step (v := (Value.int .i64 0)) rfl (Step.assign rfl) ?_
                    refine WL.nil ?_
                    refine W.block ?_
                    refine W.loop (fun kk ρ w' => ∃ (kc_ : Nat), ((kc_ ≤ gs_.length) ∧ kk = gs_.length - kc_) ∧ ρ.has [(0, v), (3, (Value.pointer (some ⟨ab5, 0, none⟩))), (4, g_), (5, (Value.int .i64 (↑((rmake l_ (⟨false, ([] : List ByteArray), ([] : List Handle), ([↑ia_] : List Int)⟩ : Nd)).1).length))), (6, (Value.int .i64 ↑ia_)), (7, v14), (9, (Value.pointer (some ⟨b62, 0, none⟩))), (10, (Value.int .i64 ↑ka_)), (11, (Value.int .i64 ↑kb_)), (12, (Value.pointer (some ⟨b93, 0, none⟩))), (13, (Value.int .i64 0)), (14, (Value.int .i64 (↑(usedN ((rmake l_ (⟨false, ([] : List ByteArray), ([] : List Handle), ([↑ia_] : List Int)⟩ : Nd)).1))))), (15, (Value.int .i64 (↑((rmake l_ (⟨false, ([] : List ByteArray), ([] : List Handle), ([↑ia_] : List Int)⟩ : Nd)).1).length))), (16, (Value.int .i64 ↑kc_)), (22, (Value.int .i64 ↑ia_)), (23, v), (24, (Value.int .i64 ↑xs.length)), (25, (Value.bool (decide ((↑ia_ : Int) < (↑xs.length : Int))))), (28, (Value.pointer (some ⟨ab5, 0, none⟩))), (29, v14), (30, v), (31, (Value.int .i64 ↑ia_)), (32, (Value.pointer (some ⟨(sBlk v), sOff v + ia_ * 1, none⟩))), (33, (Value.int .i64 x20)), (34, (Value.bool true)), (35, (Value.bool true)), (36, v14), (37, (Value.int .i64 (↑((rused l_).length)))), (38, (Value.bool (decide ((↑((rused l_).length) : Int) > (0 : Int))))), (39, (Value.bool (decide ((↑((rused l_).length) : Int) > (0 : Int))))), (66, (Value.pointer (some ⟨ab5, 0, none⟩))), (67, (Value.int .i64 ↑ia_)), (68, (Value.slice (some ⟨b58, 0, none⟩) 1 1)), (69, (Value.agg #[(Value.bool false), (Value.slice none 0 0), (Value.slice none 0 0), (Value.slice (some ⟨b58, 0, none⟩) 1 1)])), (70, (Value.agg #[(Value.int .i64 (((rmake l_ (⟨false, ([] : List ByteArray), ([] : List Handle), ([↑ia_] : List Int)⟩ : Nd)).2).at_)), (Value.int .i64 (((rmake l_ (⟨false, ([] : List ByteArray), ([] : List Handle), ([↑ia_] : List Int)⟩ : Nd)).2).turn))])), (71, (Value.int .i64 ↑ka_)), (72, g_), (73, (Value.int .i64 ↑gs_.length)), (74, (Value.bool (decide ((↑ka_ : Int) < (↑gs_.length : Int))))), (83, (Value.int .i64 ↑kb_)), (84, v14), (85, (Value.int .i64 (↑((rused l_).length)))), (86, (Value.bool (decide ((↑kb_ : Int) < (↑((rused l_).length) : Int))))), (97, (Value.tuple #[(Value.agg #[(Value.bool false), kv83, dv84, vv85]), (Value.int .i64 0)])), (98, (Value.pointer (some ⟨ab5, 0, none⟩))), (99, (Value.agg #[(Value.int .i64 (((rmake l_ (⟨false, ([] : List ByteArray), ([] : List Handle), ([↑ia_] : List Int)⟩ : Nd)).2).at_)), (Value.int .i64 (((rmake l_ (⟨false, ([] : List ByteArray), ([] : List Handle), ([↑ia_] : List Int)⟩ : Nd)).2).turn))])), (100, (Value.tuple #[(Value.agg #[(Value.bool false), kv83, dv84, vv85]), (Value.int .i64 0)])), (101, (Value.agg #[(Value.bool false), kv83, dv84, vv85])), (102, (Value.int .i64 0)), (103, (Value.int .i64 0)), (104, (Value.bool false)), (105, (Value.bool false)), (106, (Value.pointer (some ⟨b93, 3, none⟩))), (107, vv85), (108, (Value.int .i64 (↑(([↑ia_] : List Int).length)))), (109, (Value.bool false)), (110, (Value.bool false)), (111, (Value.bool false)), (112, (Value.pointer (some ⟨b93, 3, none⟩))), (113, vv85), (114, (Value.pointer (some ⟨(sBlk vv85), sOff vv85 + 0 * 1, none⟩))), (115, (Value.int .i64 x99)), (116, (Value.int .i64 ↑ia_)), (117, (Value.bool ((x99 : Int) != (↑ia_ : Int)))), (118, (Value.bool ((x99 : Int) != (↑ia_ : Int)))), (119, (Value.tuple #[(Value.int .i64 (↑(usedN ((rmake l_ (⟨false, ([] : List ByteArray), ([] : List Handle), ([↑ia_] : List Int)⟩ : Nd)).1)))), (Value.int .i64 (↑((rmake l_ (⟨false, ([] : List ByteArray), ([] : List Handle), ([↑ia_] : List Int)⟩ : Nd)).1).length))])), (120, (Value.pointer (some ⟨ab5, 0, none⟩))), (121, (Value.tuple #[(Value.int .i64 (↑(usedN ((rmake l_ (⟨false, ([] : List ByteArray), ([] : List Handle), ([↑ia_] : List Int)⟩ : Nd)).1)))), (Value.int .i64 (↑((rmake l_ (⟨false, ([] : List ByteArray), ([] : List Handle), ([↑ia_] : List Int)⟩ : Nd)).1).length))])), (122, (Value.int .i64 (↑(usedN ((rmake l_ (⟨false, ([] : List ByteArray), ([] : List Handle), ([↑ia_] : List Int)⟩ : Nd)).1))))), (123, (Value.int .i64 (↑((rmake l_ (⟨false, ([] : List ByteArray), ([] : List Handle), ([↑ia_] : List Int)⟩ : Nd)).1).length))), (124, (Value.int .i64 ↑l_.length)), (125, (Value.int .i64 (↑(usedN ((rmake l_ (⟨false, ([] : List ByteArray), ([] : List Handle), ([↑ia_] : List Int)⟩ : Nd)).1))))), (126, (Value.int .i64 (↑((rmake l_ (⟨false, ([] : List ByteArray), ([] : List Handle), ([↑ia_] : List Int)⟩ : Nd)).1).length))), (127, (Value.int .i64 (↑((rmake l_ (⟨false, ([] : List ByteArray), ([] : List Handle), ([↑ia_] : List Int)⟩ : Nd)).1).length))), (128, (Value.int .i64 (↑((rmake l_ (⟨false, ([] : List ByteArray), ([] : List Handle), ([↑ia_] : List Int)⟩ : Nd)).1).length))), (129, (Value.bool false)), (130, (Value.bool false)), (131, (Value.int .i64 (↑(usedN ((rmake l_ (⟨false, ([] : List ByteArray), ([] : List Handle), ([↑ia_] : List Int)⟩ : Nd)).1))))), (132, (Value.pointer (some ⟨ab5, 0, none⟩))), (133, v102), (134, (Value.int .i64 (↑((rused ((rmake l_ (⟨false, ([] : List ByteArray), ([] : List Handle), ([↑ia_] : List Int)⟩ : Nd)).1)).length)))), (135, (Value.bool ((↑(usedN ((rmake l_ (⟨false, ([] : List ByteArray), ([] : List Handle), ([↑ia_] : List Int)⟩ : Nd)).1)) : Int) != (↑((rused ((rmake l_ (⟨false, ([] : List ByteArray), ([] : List Handle), ([↑ia_] : List Int)⟩ : Nd)).1)).length) : Int)))), (136, (Value.bool ((↑(usedN ((rmake l_ (⟨false, ([] : List ByteArray), ([] : List Handle), ([↑ia_] : List Int)⟩ : Nd)).1)) : Int) != (↑((rused ((rmake l_ (⟨false, ([] : List ByteArray), ([] : List Handle), ([↑ia_] : List Int)⟩ : Nd)).1)).length) : Int))))] ∧ Mem G (fun _ => False) w [own 29 2 v102 ((rused ((rmake l_ (⟨false, ([] : List ByteArray), ([] : List Handle), ([↑ia_] : List Int)⟩ : Nd)).1)).length) ((rused ((rmake l_ (⟨false, ([] : List ByteArray), ([] : List Handle), ([↑ia_] : List Int)⟩ : Nd)).1)).flatMap handleE), blk b93 (.cells #[(Value.bool false), kv83, dv84, vv85] 36), own 9 1 kv83 (([] : List ByteArray).length) (([] : List ByteArray).flatMap strE), own 29 2 dv84 (([] : List Handle).length) (([] : List Handle).flatMap handleE), own 3 1 vv85 (([↑ia_] : List Int).length) (([↑ia_] : List Int).flatMap intE), blk b62 (.cells #[(Value.int .i64 (((rmake l_ (⟨false, ([] : List ByteArray), ([] : List Handle), ([↑ia_] : List Int)⟩ : Nd)).2).at_)), (Value.int .i64 (((rmake l_ (⟨false, ([] : List ByteArray), ([] : List Handle), ([↑ia_] : List Int)⟩ : Nd)).2).turn))] 29), arenaC 71 73 S60 ab5 ((rmake l_ (⟨false, ([] : List ByteArray), ([] : List Handle), ([↑ia_] : List Int)⟩ : Nd)).1), blk b58 (.cells #[(Value.int .i64 ↑ia_)] 3), own 29 2 v14 ((rused l_).length) ((rused l_).flatMap handleE), own 29 2 g_ gs_.length (gs_.flatMap handleE)] [SlAt 1 v xs.length (xs.flatMap intE)]  w') _ ⟨0, ⟨(Nat.zero_le _), rfl⟩, ⟨rfl, rfl, rfl, rfl, rfl, rfl, rfl, rfl, rfl, rfl, rfl, rfl, rfl, rfl, rfl, rfl, rfl, rfl, rfl, rfl, rfl, rfl, rfl, rfl, rfl, rfl, rfl, rfl, rfl, rfl, rfl, rfl, rfl, rfl, rfl, rfl, rfl, rfl, rfl, rfl, rfl, rfl, rfl, rfl, rfl, rfl, rfl, rfl, rfl, rfl, rfl, rfl, rfl, rfl, rfl, rfl, rfl, rfl, rfl, rfl, rfl, rfl, rfl, rfl, rfl, rfl, rfl, rfl, rfl, rfl, rfl, rfl, rfl, rfl, rfl, rfl, rfl, rfl, rfl, rfl, rfl, rfl, rfl, trivial⟩, M⟩ ?_
                    rintro _ ρ108 w107 ⟨kc_, ⟨hi109, rfl⟩, hρ, M⟩
                    obtain ⟨ρ108, rfl⟩ := hρ.know
                    clear hρ
                    refine W.seq' ?_
                    refine W.seq' ?_
                    refine W.region rfl ?_
                    refine WL.step (v := (Value.int .i64 ↑kc_)) rfl (Step.move rfl) ?_
                    refine WL.step (v := g_) rfl (Step.move rfl) ?_
                    refine WL.step (v := (Value.int .i64 ↑gs_.length)) rfl (Step.lenSl Try.un26 rfl (own_slAt (M.chunk 9 rfl).inv)) ?_
                    refine WL.step (v := (Value.bool (decide ((↑kc_ : Int) < (↑gs_.length : Int))))) rfl (Step.pure (by kernel_rfl)) ?_
                    refine WL.nil ?_
                    refine W.cond (t := decide ((↑kc_ : Int) < (↑gs_.length : Int))) rfl (fun h110 => ?_) (fun h110 => ?_)
                    ·
                      have h110p := of_decide_eq_true h110
                      refine W.skip ?_
                      refine W.seq' ?_
                      refine W.block ?_
                      refine W.seq' ?_
                      refine W.region rfl ?_
                      refine WL.step (v := (Value.pointer (some ⟨ab5, 0, none⟩))) rfl (Step.move rfl) ?_
                      refine WL.step (v := g_) rfl (Step.move rfl) ?_
                      refine WL.step (v := (Value.int .i64 ↑kc_)) rfl (Step.move rfl) ?_
                      obtain ⟨cap112, hb111⟩ := SlAt.base (own_slAt (M.chunk 9 rfl).inv) (by omega)
                      obtain ⟨x113, hx113⟩ := elem_of_lt (xs := gs_) (i := kc_) (by omega)
                      refine WL.step (v := (Value.pointer (some ⟨(sBlk g_), sOff g_ + kc_ * 2, none⟩))) rfl (Step.indexAddr (i := kc_) (Try.un26).run Try.el29.sized rfl rfl (by omega) hb111 (by omega)) ?_
                      refine WL.step (v := (Value.agg #[(Value.int .i64 x113.at_), (Value.int .i64 x113.turn)])) rfl (Step.loadEN (k := 0) (cs' := [(Value.int .i64 x113.at_), (Value.int .i64 x113.turn)]) Try.ag29 (flat_ec (own_slAt (M.chunk 9 rfl).inv) hx113 handleE_len) (by decide) rfl rfl rfl) ?_
                      refine WL.callX rfl (ar_has_p ab5 ((rmake l_ (⟨false, ([] : List ByteArray), ([] : List Handle), ([↑ia_] : List Int)⟩ : Nd)).1) S60 x113 (M.enterW (C := [arenaC 71 73 S60 ab5 ((rmake l_ (⟨false, ([] : List ByteArray), ([] : List Handle), ([↑ia_] : List Int)⟩ : Nd)).1)]) (D := [own 29 2 v102 ((rused ((rmake l_ (⟨false, ([] : List ByteArray), ([] : List Handle), ([↑ia_] : List Int)⟩ : Nd)).1)).length) ((rused ((rmake l_ (⟨false, ([] : List ByteArray), ([] : List Handle), ([↑ia_] : List Int)⟩ : Nd)).1)).flatMap handleE), blk b93 (.cells #[(Value.bool false), kv83, dv84, vv85] 36), own 9 1 kv83 (([] : List ByteArray).length) (([] : List ByteArray).flatMap strE), own 29 2 dv84 (([] : List Handle).length) (([] : List Handle).flatMap handleE), own 3 1 vv85 (([↑ia_] : List Int).length) (([↑ia_] : List Int).flatMap intE), blk b62 (.cells #[(Value.int .i64 (((rmake l_ (⟨false, ([] : List ByteArray), ([] : List Handle), ([↑ia_] : List Int)⟩ : Nd)).2).at_)), (Value.int .i64 (((rmake l_ (⟨false, ([] : List ByteArray), ([] : List Handle), ([↑ia_] : List Int)⟩ : Nd)).2).turn))] 29), blk b58 (.cells #[(Value.int .i64 ↑ia_)] 3), own 29 2 v14 ((rused l_).length) ((rused l_).flatMap handleE), own 29 2 g_ gs_.length (gs_.flatMap handleE)]) [6, 0, 1, 2, 3, 4, 5, 7, 8, 9] rfl (by decide) trivial)) (CallsF.func Try.en16 rfl) ?_
                      rintro _ w114 ⟨rfl, m⟩
                      replace M := M.leaveW (C := [arenaC 71 73 S60 ab5 ((rmake l_ (⟨false, ([] : List ByteArray), ([] : List Handle), ([↑ia_] : List Int)⟩ : Nd)).1)]) (D := [own 29 2 v102 ((rused ((rmake l_ (⟨false, ([] : List ByteArray), ([] : List Handle), ([↑ia_] : List Int)⟩ : Nd)).1)).length) ((rused ((rmake l_ (⟨false, ([] : List ByteArray), ([] : List Handle), ([↑ia_] : List Int)⟩ : Nd)).1)).flatMap handleE), blk b93 (.cells #[(Value.bool false), kv83, dv84, vv85] 36), own 9 1 kv83 (([] : List ByteArray).length) (([] : List ByteArray).flatMap strE), own 29 2 dv84 (([] : List Handle).length) (([] : List Handle).flatMap handleE), own 3 1 vv85 (([↑ia_] : List Int).length) (([↑ia_] : List Int).flatMap intE), blk b62 (.cells #[(Value.int .i64 (((rmake l_ (⟨false, ([] : List ByteArray), ([] : List Handle), ([↑ia_] : List Int)⟩ : Nd)).2).at_)), (Value.int .i64 (((rmake l_ (⟨false, ([] : List ByteArray), ([] : List Handle), ([↑ia_] : List Int)⟩ : Nd)).2).turn))] 29), blk b58 (.cells #[(Value.int .i64 ↑ia_)] 3), own 29 2 v14 ((rused l_).length) ((rused l_).flatMap handleE), own 29 2 g_ gs_.length (gs_.flatMap handleE)]) [6, 0, 1, 2, 3, 4, 5, 7, 8, 9] rfl (by decide) m
                      replace M := M.sel (L' := [own 29 2 v102 ((rused ((rmake l_ (⟨false, ([] : List ByteArray), ([] : List Handle), ([↑ia_] : List Int)⟩ : Nd)).1)).length) ((rused ((rmake l_ (⟨false, ([] : List ByteArray), ([] : List Handle), ([↑ia_] : List Int)⟩ : Nd)).1)).flatMap handleE), blk b93 (.cells #[(Value.bool false), kv83, dv84, vv85] 36), own 9 1 kv83 (([] : List ByteArray).length) (([] : List ByteArray).flatMap strE), own 29 2 dv84 (([] : List Handle).length) (([] : List Handle).flatMap handleE), own 3 1 vv85 (([↑ia_] : List Int).length) (([↑ia_] : List Int).flatMap intE), blk b62 (.cells #[(Value.int .i64 (((rmake l_ (⟨false, ([] : List ByteArray), ([] : List Handle), ([↑ia_] : List Int)⟩ : Nd)).2).at_)), (Value.int .i64 (((rmake l_ (⟨false, ([] : List ByteArray), ([] : List Handle), ([↑ia_] : List Int)⟩ : Nd)).2).turn))] 29), arenaC 71 73 S60 ab5 ((rmake l_ (⟨false, ([] : List ByteArray), ([] : List Handle), ([↑ia_] : List Int)⟩ : Nd)).1), blk b58 (.cells #[(Value.int .i64 ↑ia_)] 3), own 29 2 v14 ((rused l_).length) ((rused l_).flatMap handleE), own 29 2 g_ gs_.length (gs_.flatMap handleE)]) [1, 2, 3, 4, 5, 6, 0, 7, 8, 9] rfl (by decide)
                      clear m
                      replace M : Mem _ _ _ [own 29 2 v102 ((rused ((rmake l_ (⟨false, ([] : List ByteArray), ([] : List Handle), ([↑ia_] : List Int)⟩ : Nd)).1)).length) ((rused ((rmake l_ (⟨false, ([] : List ByteArray), ([] : List Handle), ([↑ia_] : List Int)⟩ : Nd)).1)).flatMap handleE), blk b93 (.cells #[(Value.bool false), kv83, dv84, vv85] 36), own 9 1 kv83 (([] : List ByteArray).length) (([] : List ByteArray).flatMap strE), own 29 2 dv84 (([] : List Handle).length) (([] : List Handle).flatMap handleE), own 3 1 vv85 (([↑ia_] : List Int).length) (([↑ia_] : List Int).flatMap intE), blk b62 (.cells #[(Value.int .i64 (((rmake l_ (⟨false, ([] : List ByteArray), ([] : List Handle), ([↑ia_] : List Int)⟩ : Nd)).2).at_)), (Value.int .i64 (((rmake l_ (⟨false, ([] : List ByteArray), ([] : List Handle), ([↑ia_] : List Int)⟩ : Nd)).2).turn))] 29), arenaC 71 73 S60 ab5 ((rmake l_ (⟨false, ([] : List ByteArray), ([] : List Handle), ([↑ia_] : List Int)⟩ : Nd)).1), blk b58 (.cells #[(Value.int .i64 ↑ia_)] 3), own 29 2 v14 ((rused l_).length) ((rused l_).flatMap handleE), own 29 2 g_ gs_.length (gs_.flatMap handleE)] [SlAt 1 v xs.length (xs.flatMap intE)] _ := M
                      refine WL.nil ?_
                      refine W.cond (t := rhas ((rmake l_ (⟨false, ([] : List ByteArray), ([] : List Handle), ([↑ia_] : List Int)⟩ : Nd)).1) x113) rfl (fun h115 => ?_) (fun h115 => ?_)
                      ·
                        exact absurd h115 (by rw [hT2.has (List.mem_of_getElem? hx113)]; simp)
                      ·
                        refine W.skip ?_
                        refine W.region rfl ?_
                        refine WL.step (v := (Value.int .i64 ↑kc_)) rfl (Step.move rfl) ?_
                        refine WL.step (v := (Value.int .i64 (↑kc_ + 1))) rfl (Step.add rfl rfl (wrap_i64 (by omega))) ?_
                        refine WL.step (v := (Value.int .i64 (↑kc_ + 1))) rfl (Step.assign rfl) ?_
                        refine WL.nil ?_
                        exact ⟨_, (by omega), kc_ + 1, ⟨(by omega), rfl⟩, ⟨rfl, rfl, rfl, rfl, rfl, rfl, rfl, rfl, rfl, rfl, rfl, rfl, rfl, rfl, rfl, rfl, rfl, rfl, rfl, rfl, rfl, rfl, rfl, rfl, rfl, rfl, rfl, rfl, rfl, rfl, rfl, rfl, rfl, rfl, rfl, rfl, rfl, rfl, rfl, rfl, rfl, rfl, rfl, rfl, rfl, rfl, rfl, rfl, rfl, rfl, rfl, rfl, rfl, rfl, rfl, rfl, rfl, rfl, rfl, rfl, rfl, rfl, rfl, rfl, rfl, rfl, rfl, rfl, rfl, rfl, rfl, rfl, rfl, rfl, rfl, rfl, rfl, rfl, rfl, rfl, rfl, rfl, rfl, trivial⟩, M⟩
                    ·
                      have h110p := of_decide_eq_false h110
                      refine W.exit ?_
                      refine thn_exit ?_
                      refine thn_exit ?_
                      refine inBlk_hit ?_
                      refine W.region rfl ?_
                      refine WL.step (v := (Value.int .i64 ↑ia_)) rfl (Step.move rfl) ?_
                      refine WL.step (v := (Value.int .i64 (↑ia_ + 1))) rfl (Step.add rfl rfl (wrap_i64 (by omega))) ?_
                      refine WL.step (v := (Value.int .i64 (↑ia_ + 1))) rfl (Step.assign rfl) ?_
                      refine WL.nil ?_
                      replace M := M.sel (L' := [arenaC 71 73 S60 ab5 ((rmake l_ (⟨false, ([] : List ByteArray), ([] : List Handle), ([↑ia_] : List Int)⟩ : Nd)).1), own 29 2 g_ gs_.length (gs_.flatMap handleE)]) [6, 9] rfl (by decide)
                      exact ⟨_, (by omega), ia_ + 1, _, (rmake l_ (⟨false, ([] : List ByteArray), ([] : List Handle), ([↑ia_] : List Int)⟩ : Nd)).1, _, gs_, ⟨(by omega), hT2, rfl⟩, ⟨rfl, rfl, rfl, rfl, rfl, trivial⟩, M⟩
      ·
        have h21p := of_decide_eq_false h21
        rw [h21]
        refine WL.pass rfl ?_
        refine WL.pass rfl ?_
        refine WL.pass rfl ?_
        refine WL.step (v := (Value.bool false)) rfl (Step.pick (t := false) rfl rfl) ?_
        refine WL.nil ?_
        refine W.cond (t := false) rfl (fun h => by cases h) (fun _ => ?_)
        refine W.seq' ?_
        refine W.region rfl ?_
        refine WL.step (v := (Value.pointer (some ⟨ab5, 0, none⟩))) rfl (Step.move rfl) ?_
        refine WL.step (v := (Value.int .i64 ↑ia_)) rfl (Step.move rfl) ?_
        refine WL.new (obj := .cells #[(Value.int .i64 ↑ia_)] 3) (fun b => .slice (some ⟨b, 0, none⟩) 1 1) M rfl (fun w => Step.make (by kernel_rfl)) (fun b116 w117 hb116 M => ?_)
        refine WL.step (v := (Value.agg #[(Value.bool false), (Value.slice none 0 0), (Value.slice none 0 0), (Value.slice (some ⟨b116, 0, none⟩) 1 1)])) rfl (Step.pure (by kernel_rfl)) ?_
        refine WL.callX rfl (ar_make ab5 l_ S_ (Value.slice none 0 0) (Value.slice none 0 0) (Value.slice (some ⟨b116, 0, none⟩) 1 1) (⟨false, ([] : List ByteArray), ([] : List Handle), ([↑ia_] : List Int)⟩ : Nd) (by first | assumption | exact smallA_of rfl) (by first | omega | (simp only [List.length_nil, List.length_cons]; omega) | decide) (by first | omega | (simp only [List.length_nil, List.length_cons]; omega) | decide) (by first | omega | (simp only [List.length_nil, List.length_cons]; omega) | decide) (M.enterW (C := [arenaC 71 73 S_ ab5 l_]) (D := [blk b116 (.cells #[(Value.int .i64 ↑ia_)] 3), own 29 2 v14 ((rused l_).length) ((rused l_).flatMap handleE), own 29 2 g_ gs_.length (gs_.flatMap handleE)]) [2, 0, 1, 3] rfl (by decide) ⟨(Sh.pure fun w => SlAt.nil 1 w), (Sh.pure fun w => SlAt.nil 2 w), ((M.wideC (C := [arenaC 71 73 S_ ab5 l_]) (D := [blk b116 (.cells #[(Value.int .i64 ↑ia_)] 3), own 29 2 v14 ((rused l_).length) ((rused l_).flatMap handleE), own 29 2 g_ gs_.length (gs_.flatMap handleE)]) [2, 0, 1, 3] rfl (by decide) 0 rfl).imp fun _ h => SlAt.of_blk (n := 1) (size := 1) h rfl (by decide)), trivial⟩)) (CallsF.func Try.en13 rfl) ?_
        rintro _ w119 ⟨S118, rfl, m⟩
        replace M := M.leaveW (C := [arenaC 71 73 S_ ab5 l_]) (D := [blk b116 (.cells #[(Value.int .i64 ↑ia_)] 3), own 29 2 v14 ((rused l_).length) ((rused l_).flatMap handleE), own 29 2 g_ gs_.length (gs_.flatMap handleE)]) [2, 0, 1, 3] rfl (by decide) m
        clear m
        replace M : Mem _ _ _ [arenaC 71 73 S118 ab5 ((rmake l_ (⟨false, ([] : List ByteArray), ([] : List Handle), ([↑ia_] : List Int)⟩ : Nd)).1), blk b116 (.cells #[(Value.int .i64 ↑ia_)] 3), own 29 2 v14 ((rused l_).length) ((rused l_).flatMap handleE), own 29 2 g_ gs_.length (gs_.flatMap handleE)] [SlAt 1 v xs.length (xs.flatMap intE)] _ := M
        have hT2 := hT.make (n := (⟨false, ([] : List ByteArray), ([] : List Handle), ([↑ia_] : List Int)⟩ : Nd)) ⟨by simp, by simp, by simp⟩
        have hA2 := hT2.1.small (by omega)
        refine WL.alloc (c := #[(Value.int .i64 0), (Value.int .i64 0)]) M rfl Try.el29.zero rfl (fun b120 w121 hb120 M => ?_)
        refine WL.store (v := (Value.agg #[(Value.int .i64 (((rmake l_ (⟨false, ([] : List ByteArray), ([] : List Handle), ([↑ia_] : List Int)⟩ : Nd)).2).at_)), (Value.int .i64 (((rmake l_ (⟨false, ([] : List ByteArray), ([] : List Handle), ([↑ia_] : List Int)⟩ : Nd)).2).turn))])) (cs := [(Value.int .i64 (((rmake l_ (⟨false, ([] : List ByteArray), ([] : List Handle), ([↑ia_] : List Int)⟩ : Nd)).2).at_)), (Value.int .i64 (((rmake l_ (⟨false, ([] : List ByteArray), ([] : List Handle), ([↑ia_] : List Int)⟩ : Nd)).2).turn))]) (c' := #[(Value.int .i64 (((rmake l_ (⟨false, ([] : List ByteArray), ([] : List Handle), ([↑ia_] : List Int)⟩ : Nd)).2).at_)), (Value.int .i64 (((rmake l_ (⟨false, ([] : List ByteArray), ([] : List Handle), ([↑ia_] : List Int)⟩ : Nd)).2).turn))]) M 0 rfl rfl Try.el29.sized rfl rfl rfl rfl (Nat.le_of_ble_eq_true rfl) (cel_cons rfl (cel_cons rfl cel_nil)) rfl rfl (fun w122 M => ?_)
        refine WL.nil ?_
        refine W.seq' ?_
        refine W.seq' ?_
        refine W.region rfl ?_
        refine WL.step (v := (Value.int .i64 0)) rfl (Step.assign rfl) ?_
        refine WL.nil ?_
        refine W.block ?_
        refine W.loop (fun kk ρ w' => ∃ (ka_ : Nat), ((ka_ ≤ gs_.length) ∧ kk = gs_.length - ka_) ∧ ρ.has [(0, v), (3, (Value.pointer (some ⟨ab5, 0, none⟩))), (4, g_), (5, (Value.int .i64 ↑l_.length)), (6, (Value.int .i64 ↑ia_)), (7, v14), (9, (Value.pointer (some ⟨b120, 0, none⟩))), (10, (Value.int .i64 ↑ka_)), (22, (Value.int .i64 ↑ia_)), (23, v), (24, (Value.int .i64 ↑xs.length)), (25, (Value.bool (decide ((↑ia_ : Int) < (↑xs.length : Int))))), (28, (Value.pointer (some ⟨ab5, 0, none⟩))), (29, v14), (30, v), (31, (Value.int .i64 ↑ia_)), (32, (Value.pointer (some ⟨(sBlk v), sOff v + ia_ * 1, none⟩))), (33, (Value.int .i64 x20)), (34, (Value.bool false)), (35, (Value.bool false)), (39, (Value.bool false)), (66, (Value.pointer (some ⟨ab5, 0, none⟩))), (67, (Value.int .i64 ↑ia_)), (68, (Value.slice (some ⟨b116, 0, none⟩) 1 1)), (69, (Value.agg #[(Value.bool false), (Value.slice none 0 0), (Value.slice none 0 0), (Value.slice (some ⟨b116, 0, none⟩) 1 1)])), (70, (Value.agg #[(Value.int .i64 (((rmake l_ (⟨false, ([] : List ByteArray), ([] : List Handle), ([↑ia_] : List Int)⟩ : Nd)).2).at_)), (Value.int .i64 (((rmake l_ (⟨false, ([] : List ByteArray), ([] : List Handle), ([↑ia_] : List Int)⟩ : Nd)).2).turn))]))] ∧ Mem G (fun _ => False) w [blk b120 (.cells #[(Value.int .i64 (((rmake l_ (⟨false, ([] : List ByteArray), ([] : List Handle), ([↑ia_] : List Int)⟩ : Nd)).2).at_)), (Value.int .i64 (((rmake l_ (⟨false, ([] : List ByteArray), ([] : List Handle), ([↑ia_] : List Int)⟩ : Nd)).2).turn))] 29), arenaC 71 73 S118 ab5 ((rmake l_ (⟨false, ([] : List ByteArray), ([] : List Handle), ([↑ia_] : List Int)⟩ : Nd)).1), blk b116 (.cells #[(Value.int .i64 ↑ia_)] 3), own 29 2 v14 ((rused l_).length) ((rused l_).flatMap handleE), own 29 2 g_ gs_.length (gs_.flatMap handleE)] [SlAt 1 v xs.length (xs.flatMap intE)]  w') _ ⟨0, ⟨(Nat.zero_le _), rfl⟩, ⟨rfl, rfl, rfl, rfl, rfl, rfl, rfl, rfl, rfl, rfl, rfl, rfl, rfl, rfl, rfl, rfl, rfl, rfl, rfl, rfl, rfl, rfl, rfl, rfl, rfl, rfl, trivial⟩, M⟩ ?_
        rintro _ ρ124 w123 ⟨ka_, ⟨hi125, rfl⟩, hρ, M⟩
        obtain ⟨ρ124, rfl⟩ := hρ.know
        clear hρ
        refine W.seq' ?_
        refine W.seq' ?_
        refine W.region rfl ?_
        refine WL.step (v := (Value.int .i64 ↑ka_)) rfl (Step.move rfl) ?_
        refine WL.step (v := g_) rfl (Step.move rfl) ?_
        refine WL.step (v := (Value.int .i64 ↑gs_.length)) rfl (Step.lenSl Try.un26 rfl (own_slAt (M.chunk 4 rfl).inv)) ?_
        refine WL.step (v := (Value.bool (decide ((↑ka_ : Int) < (↑gs_.length : Int))))) rfl (Step.pure (by kernel_rfl)) ?_
        refine WL.nil ?_
        refine W.cond (t := decide ((↑ka_ : Int) < (↑gs_.length : Int))) rfl (fun h126 => ?_) (fun h126 => ?_)
        ·
          have h126p := of_decide_eq_true h126
          refine W.skip ?_
          refine W.seq' ?_
          refine W.block ?_
          refine W.seq' ?_
          obtain ⟨cap128, hb127⟩ := SlAt.base (own_slAt (M.chunk 4 rfl).inv) (by omega)
          obtain ⟨x129, hx129⟩ := elem_of_lt (xs := gs_) (i := ka_) (by omega)
          refine W.drawn M [0, 1, 2, 3, 4, 5] [] [] [blk b120 (.cells #[(Value.int .i64 (((rmake l_ (⟨false, ([] : List ByteArray), ([] : List Handle), ([↑ia_] : List Int)⟩ : Nd)).2).at_)), (Value.int .i64 (((rmake l_ (⟨false, ([] : List ByteArray), ([] : List Handle), ([↑ia_] : List Int)⟩ : Nd)).2).turn))] 29), arenaC 71 73 S118 ab5 ((rmake l_ (⟨false, ([] : List ByteArray), ([] : List Handle), ([↑ia_] : List Int)⟩ : Nd)).1), blk b116 (.cells #[(Value.int .i64 ↑ia_)] 3), own 29 2 v14 ((rused l_).length) ((rused l_).flatMap handleE), own 29 2 g_ gs_.length (gs_.flatMap handleE)] [SlAt 1 v xs.length (xs.flatMap intE)] (List.Sublist.cons_cons _ (List.Sublist.cons_cons _ (List.Sublist.cons_cons _ (List.Sublist.cons_cons _ (List.Sublist.cons_cons _ List.Sublist.slnil))))) (fun _ h => h) Try.mixed (by kernel_rfl) ?_
          refine TW.pure (v := g_) rfl (by decide) (by decide) rfl (fun w => (Step.move rfl)) ?_
          refine TW.pure (v := (Value.int .i64 ↑ka_)) rfl (by decide) (by decide) rfl (fun w => (Step.move rfl)) ?_
          refine TW.pure (v := (Value.pointer (some ⟨(sBlk g_), sOff g_ + ka_ * 2, none⟩))) rfl (by decide) (by decide) rfl (fun w => (Step.indexAddr (i := ka_) (Try.un26).run Try.el29.sized rfl rfl (by omega) hb127 (by omega))) ?_
          refine TW.read (v := (Value.agg #[(Value.int .i64 x129.at_), (Value.int .i64 x129.turn)])) rfl (by decide) (by decide) rfl (fun A w M => (Step.loadEN (k := 0) (cs' := [(Value.int .i64 x129.at_), (Value.int .i64 x129.turn)]) Try.ag29 (flat_ec (own_slAt (M.chunk 5 rfl).inv) hx129 handleE_len) (by decide) rfl rfl rfl)) ?_
          refine TW.read (v := (Value.agg #[(Value.int .i64 (((rmake l_ (⟨false, ([] : List ByteArray), ([] : List Handle), ([↑ia_] : List Int)⟩ : Nd)).2).at_)), (Value.int .i64 (((rmake l_ (⟨false, ([] : List ByteArray), ([] : List Handle), ([↑ia_] : List Int)⟩ : Nd)).2).turn))])) rfl (by decide) (by decide) rfl (fun A w M => (Step.loadN Try.ag29 rfl (M.blk 1 rfl) (Nat.le_of_ble_eq_true rfl) rfl)) ?_
          refine TW.pure (v := (Value.bool (((x129.at_ : Int) == (((rmake l_ (⟨false, ([] : List ByteArray), ([] : List Handle), ([↑ia_] : List Int)⟩ : Nd)).2).at_ : Int)) && (((x129.turn : Int) == (((rmake l_ (⟨false, ([] : List ByteArray), ([] : List Handle), ([↑ia_] : List Int)⟩ : Nd)).2).turn : Int)) && true)))) rfl (by decide) (by decide) rfl (fun w => (Step.eqAgg Try.eg29 rfl rfl rfl (Try.eq29 9998 (x129.at_ : Int) (x129.turn : Int) (((rmake l_ (⟨false, ([] : List ByteArray), ([] : List Handle), ([↑ia_] : List Int)⟩ : Nd)).2).at_ : Int) (((rmake l_ (⟨false, ([] : List ByteArray), ([] : List Handle), ([↑ia_] : List Int)⟩ : Nd)).2).turn : Int)))) ?_
          refine TW.done (fun w130 M => ?_)
          refine W.cond (t := ((x129.at_ : Int) == (((rmake l_ (⟨false, ([] : List ByteArray), ([] : List Handle), ([↑ia_] : List Int)⟩ : Nd)).2).at_ : Int)) && (((x129.turn : Int) == (((rmake l_ (⟨false, ([] : List ByteArray), ([] : List Handle), ([↑ia_] : List Int)⟩ : Nd)).2).turn : Int)) && true)) rfl (fun h131 => ?_) (fun h131 => ?_)
          ·
            exact absurd (handle_eq2 h131) (hT.fresh (List.mem_of_getElem? hx129))
          ·
            refine W.skip ?_
            refine W.region rfl ?_
            refine WL.step (v := (Value.int .i64 ↑ka_)) rfl (Step.move rfl) ?_
            refine WL.step (v := (Value.int .i64 (↑ka_ + 1))) rfl (Step.add rfl rfl (wrap_i64 (by omega))) ?_
            refine WL.step (v := (Value.int .i64 (↑ka_ + 1))) rfl (Step.assign rfl) ?_
            refine WL.nil ?_
            exact ⟨_, (by omega), ka_ + 1, ⟨(by omega), rfl⟩, ⟨rfl, rfl, rfl, rfl, rfl, rfl, rfl, rfl, rfl, rfl, rfl, rfl, rfl, rfl, rfl, rfl, rfl, rfl, rfl, rfl, rfl, rfl, rfl, rfl, rfl, rfl, trivial⟩, M⟩
        ·
          have h126p := of_decide_eq_false h126
          refine W.exit ?_
          refine thn_exit ?_
          refine thn_exit ?_
          refine inBlk_hit ?_
          refine W.seq' ?_
          refine W.seq' ?_
          refine W.region rfl ?_
          refine WL.step (v := (Value.int .i64 0)) rfl (Step.assign rfl) ?_
          refine WL.nil ?_
          refine W.block ?_
          refine W.loop (fun kk ρ w' => ∃ (kb_ : Nat), ((kb_ ≤ (rused l_).length) ∧ kk = (rused l_).length - kb_) ∧ ρ.has [(0, v), (3, (Value.pointer (some ⟨ab5, 0, none⟩))), (4, g_), (5, (Value.int .i64 ↑l_.length)), (6, (Value.int .i64 ↑ia_)), (7, v14), (9, (Value.pointer (some ⟨b120, 0, none⟩))), (10, (Value.int .i64 ↑ka_)), (11, (Value.int .i64 ↑kb_)), (22, (Value.int .i64 ↑ia_)), (23, v), (24, (Value.int .i64 ↑xs.length)), (25, (Value.bool (decide ((↑ia_ : Int) < (↑xs.length : Int))))), (28, (Value.pointer (some ⟨ab5, 0, none⟩))), (29, v14), (30, v), (31, (Value.int .i64 ↑ia_)), (32, (Value.pointer (some ⟨(sBlk v), sOff v + ia_ * 1, none⟩))), (33, (Value.int .i64 x20)), (34, (Value.bool false)), (35, (Value.bool false)), (39, (Value.bool false)), (66, (Value.pointer (some ⟨ab5, 0, none⟩))), (67, (Value.int .i64 ↑ia_)), (68, (Value.slice (some ⟨b116, 0, none⟩) 1 1)), (69, (Value.agg #[(Value.bool false), (Value.slice none 0 0), (Value.slice none 0 0), (Value.slice (some ⟨b116, 0, none⟩) 1 1)])), (70, (Value.agg #[(Value.int .i64 (((rmake l_ (⟨false, ([] : List ByteArray), ([] : List Handle), ([↑ia_] : List Int)⟩ : Nd)).2).at_)), (Value.int .i64 (((rmake l_ (⟨false, ([] : List ByteArray), ([] : List Handle), ([↑ia_] : List Int)⟩ : Nd)).2).turn))])), (71, (Value.int .i64 ↑ka_)), (72, g_), (73, (Value.int .i64 ↑gs_.length)), (74, (Value.bool (decide ((↑ka_ : Int) < (↑gs_.length : Int)))))] ∧ Mem G (fun _ => False) w [blk b120 (.cells #[(Value.int .i64 (((rmake l_ (⟨false, ([] : List ByteArray), ([] : List Handle), ([↑ia_] : List Int)⟩ : Nd)).2).at_)), (Value.int .i64 (((rmake l_ (⟨false, ([] : List ByteArray), ([] : List Handle), ([↑ia_] : List Int)⟩ : Nd)).2).turn))] 29), arenaC 71 73 S118 ab5 ((rmake l_ (⟨false, ([] : List ByteArray), ([] : List Handle), ([↑ia_] : List Int)⟩ : Nd)).1), blk b116 (.cells #[(Value.int .i64 ↑ia_)] 3), own 29 2 v14 ((rused l_).length) ((rused l_).flatMap handleE), own 29 2 g_ gs_.length (gs_.flatMap handleE)] [SlAt 1 v xs.length (xs.flatMap intE)]  w') _ ⟨0, ⟨(Nat.zero_le _), rfl⟩, ⟨rfl, rfl, rfl, rfl, rfl, rfl, rfl, rfl, rfl, rfl, rfl, rfl, rfl, rfl, rfl, rfl, rfl, rfl, rfl, rfl, rfl, rfl, rfl, rfl, rfl, rfl, rfl, rfl, rfl, rfl, rfl, trivial⟩, M⟩ ?_
          rintro _ ρ133 w132 ⟨kb_, ⟨hi134, rfl⟩, hρ, M⟩
          obtain ⟨ρ133, rfl⟩ := hρ.know
          clear hρ
          refine W.seq' ?_
          refine W.seq' ?_
          refine W.region rfl ?_
          refine WL.step (v := (Value.int .i64 ↑kb_)) rfl (Step.move rfl) ?_
          refine WL.step (v := v14) rfl (Step.move rfl) ?_
          refine WL.step (v := (Value.int .i64 (↑((rused l_).length)))) rfl (Step.lenSl Try.un26 rfl (own_slAt (M.chunk 3 rfl).inv)) ?_
          refine WL.step (v := (Value.bool (decide ((↑kb_ : Int) < (↑((rused l_).length) : Int))))) rfl (Step.pure (by kernel_rfl)) ?_
          refine WL.nil ?_
          refine W.cond (t := decide ((↑kb_ : Int) < (↑((rused l_).length) : Int))) rfl (fun h135 => ?_) (fun h135 => ?_)
          ·
            have h135p := of_decide_eq_true h135
            refine W.skip ?_
            refine W.seq' ?_
            refine W.block ?_
            refine W.seq' ?_
            obtain ⟨cap137, hb136⟩ := SlAt.base (own_slAt (M.chunk 3 rfl).inv) (by omega)
            obtain ⟨x138, hx138⟩ := elem_of_lt (xs := rused l_) (i := kb_) (by omega)
            refine W.drawn M [0, 1, 2, 3, 4, 5, 6, 7] [] [] [blk b120 (.cells #[(Value.int .i64 (((rmake l_ (⟨false, ([] : List ByteArray), ([] : List Handle), ([↑ia_] : List Int)⟩ : Nd)).2).at_)), (Value.int .i64 (((rmake l_ (⟨false, ([] : List ByteArray), ([] : List Handle), ([↑ia_] : List Int)⟩ : Nd)).2).turn))] 29), arenaC 71 73 S118 ab5 ((rmake l_ (⟨false, ([] : List ByteArray), ([] : List Handle), ([↑ia_] : List Int)⟩ : Nd)).1), blk b116 (.cells #[(Value.int .i64 ↑ia_)] 3), own 29 2 v14 ((rused l_).length) ((rused l_).flatMap handleE), own 29 2 g_ gs_.length (gs_.flatMap handleE)] [SlAt 1 v xs.length (xs.flatMap intE)] (List.Sublist.cons_cons _ (List.Sublist.cons_cons _ (List.Sublist.cons_cons _ (List.Sublist.cons_cons _ (List.Sublist.cons_cons _ List.Sublist.slnil))))) (fun _ h => h) Try.mixed (by kernel_rfl) ?_
            refine TW.pure (v := v14) rfl (by decide) (by decide) rfl (fun w => (Step.move rfl)) ?_
            refine TW.pure (v := (Value.int .i64 ↑kb_)) rfl (by decide) (by decide) rfl (fun w => (Step.move rfl)) ?_
            refine TW.pure (v := (Value.pointer (some ⟨(sBlk v14), sOff v14 + kb_ * 2, none⟩))) rfl (by decide) (by decide) rfl (fun w => (Step.indexAddr (i := kb_) (Try.un26).run Try.el29.sized rfl rfl (by omega) hb136 (by omega))) ?_
            refine TW.pure (v := (Value.pointer (some ⟨(sBlk v14), sOff v14 + kb_ * 2, none⟩))) rfl (by decide) (by decide) rfl (fun w => (Step.pure (by kernel_rfl))) ?_
            refine TW.read (v := (Value.int .i64 x138.at_)) rfl (by decide) (by decide) rfl (fun A w M => (Step.loadE (k := 0) Try.sc3 (flat_ec (own_slAt (M.chunk 4 rfl).inv) hx138 handleE_len) (by decide) rfl rfl)) ?_
            refine TW.pure (v := (Value.pointer (some ⟨b120, 0, none⟩))) rfl (by decide) (by decide) rfl (fun w => (Step.pure (by kernel_rfl))) ?_
            refine TW.read (v := (Value.int .i64 (((rmake l_ (⟨false, ([] : List ByteArray), ([] : List Handle), ([↑ia_] : List Int)⟩ : Nd)).2).at_))) rfl (by decide) (by decide) rfl (fun A w M => (Step.load1 Try.sc3 rfl ((M.cell 1 rfl 0).trans rfl))) ?_
            refine TW.pure (v := (Value.bool ((x138.at_ : Int) == (((rmake l_ (⟨false, ([] : List ByteArray), ([] : List Handle), ([↑ia_] : List Int)⟩ : Nd)).2).at_ : Int)))) rfl (by decide) (by decide) rfl (fun w => (Step.pure (by kernel_rfl))) ?_
            refine TW.done (fun w139 M => ?_)
            refine W.cond (t := (x138.at_ : Int) == (((rmake l_ (⟨false, ([] : List ByteArray), ([] : List Handle), ([↑ia_] : List Int)⟩ : Nd)).2).at_ : Int)) rfl (fun h140 => ?_) (fun h140 => ?_)
            ·
              have h140p : (x138.at_ : Int) = (((rmake l_ (⟨false, ([] : List ByteArray), ([] : List Handle), ([↑ia_] : List Int)⟩ : Nd)).2).at_ : Int) := by simpa using h140
              exact absurd h140p (rused_at hx138)
            ·
              have h140p : ¬ (x138.at_ : Int) = (((rmake l_ (⟨false, ([] : List ByteArray), ([] : List Handle), ([↑ia_] : List Int)⟩ : Nd)).2).at_ : Int) := by simpa using h140
              refine W.skip ?_
              refine W.region rfl ?_
              refine WL.step (v := (Value.int .i64 ↑kb_)) rfl (Step.move rfl) ?_
              refine WL.step (v := (Value.int .i64 (↑kb_ + 1))) rfl (Step.add rfl rfl (wrap_i64 (by omega))) ?_
              refine WL.step (v := (Value.int .i64 (↑kb_ + 1))) rfl (Step.assign rfl) ?_
              refine WL.nil ?_
              exact ⟨_, (by omega), kb_ + 1, ⟨(by omega), rfl⟩, ⟨rfl, rfl, rfl, rfl, rfl, rfl, rfl, rfl, rfl, rfl, rfl, rfl, rfl, rfl, rfl, rfl, rfl, rfl, rfl, rfl, rfl, rfl, rfl, rfl, rfl, rfl, rfl, rfl, rfl, rfl, rfl, trivial⟩, M⟩
          ·
            have h135p := of_decide_eq_false h135
            refine W.exit ?_
            refine thn_exit ?_
            refine thn_exit ?_
            refine inBlk_hit ?_
            refine W.seq' ?_
            refine W.region rfl ?_
            refine WL.step (v := (Value.pointer (some ⟨ab5, 0, none⟩))) rfl (Step.move rfl) ?_
            refine WL.step (v := (Value.agg #[(Value.int .i64 (((rmake l_ (⟨false, ([] : List ByteArray), ([] : List Handle), ([↑ia_] : List Int)⟩ : Nd)).2).at_)), (Value.int .i64 (((rmake l_ (⟨false, ([] : List ByteArray), ([] : List Handle), ([↑ia_] : List Int)⟩ : Nd)).2).turn))])) rfl (Step.loadN Try.ag29 rfl (M.blk 0 rfl) (Nat.le_of_ble_eq_true rfl) rfl) ?_
            refine WL.callX rfl (ar_get ab5 ((rmake l_ (⟨false, ([] : List ByteArray), ([] : List Handle), ([↑ia_] : List Int)⟩ : Nd)).1) S118 ((rmake l_ (⟨false, ([] : List ByteArray), ([] : List Handle), ([↑ia_] : List Int)⟩ : Nd)).2) (by first | assumption | exact smallA_of rfl) (M.enterW (C := [arenaC 71 73 S118 ab5 ((rmake l_ (⟨false, ([] : List ByteArray), ([] : List Handle), ([↑ia_] : List Int)⟩ : Nd)).1)]) (D := [blk b120 (.cells #[(Value.int .i64 (((rmake l_ (⟨false, ([] : List ByteArray), ([] : List Handle), ([↑ia_] : List Int)⟩ : Nd)).2).at_)), (Value.int .i64 (((rmake l_ (⟨false, ([] : List ByteArray), ([] : List Handle), ([↑ia_] : List Int)⟩ : Nd)).2).turn))] 29), blk b116 (.cells #[(Value.int .i64 ↑ia_)] 3), own 29 2 v14 ((rused l_).length) ((rused l_).flatMap handleE), own 29 2 g_ gs_.length (gs_.flatMap handleE)]) [1, 0, 2, 3, 4] rfl (by decide) trivial)) (CallsF.func Try.en14 rfl) ?_
            rintro _ w144 ⟨kv141, dv142, vv143, rfl, m⟩
            replace M := M.leaveW (C := [arenaC 71 73 S118 ab5 ((rmake l_ (⟨false, ([] : List ByteArray), ([] : List Handle), ([↑ia_] : List Int)⟩ : Nd)).1)]) (D := [blk b120 (.cells #[(Value.int .i64 (((rmake l_ (⟨false, ([] : List ByteArray), ([] : List Handle), ([↑ia_] : List Int)⟩ : Nd)).2).at_)), (Value.int .i64 (((rmake l_ (⟨false, ([] : List ByteArray), ([] : List Handle), ([↑ia_] : List Int)⟩ : Nd)).2).turn))] 29), blk b116 (.cells #[(Value.int .i64 ↑ia_)] 3), own 29 2 v14 ((rused l_).length) ((rused l_).flatMap handleE), own 29 2 g_ gs_.length (gs_.flatMap handleE)]) [1, 0, 2, 3, 4] rfl (by decide) m
            replace M := M.sel (L' := [own 9 1 kv141 ((((rget ((rmake l_ (⟨false, ([] : List ByteArray), ([] : List Handle), ([↑ia_] : List Int)⟩ : Nd)).1) ((rmake l_ (⟨false, ([] : List ByteArray), ([] : List Handle), ([↑ia_] : List Int)⟩ : Nd)).2)).1).keys).length) ((((rget ((rmake l_ (⟨false, ([] : List ByteArray), ([] : List Handle), ([↑ia_] : List Int)⟩ : Nd)).1) ((rmake l_ (⟨false, ([] : List ByteArray), ([] : List Handle), ([↑ia_] : List Int)⟩ : Nd)).2)).1).keys).flatMap strE), own 29 2 dv142 ((((rget ((rmake l_ (⟨false, ([] : List ByteArray), ([] : List Handle), ([↑ia_] : List Int)⟩ : Nd)).1) ((rmake l_ (⟨false, ([] : List ByteArray), ([] : List Handle), ([↑ia_] : List Int)⟩ : Nd)).2)).1).kids).length) ((((rget ((rmake l_ (⟨false, ([] : List ByteArray), ([] : List Handle), ([↑ia_] : List Int)⟩ : Nd)).1) ((rmake l_ (⟨false, ([] : List ByteArray), ([] : List Handle), ([↑ia_] : List Int)⟩ : Nd)).2)).1).kids).flatMap handleE), own 3 1 vv143 ((((rget ((rmake l_ (⟨false, ([] : List ByteArray), ([] : List Handle), ([↑ia_] : List Int)⟩ : Nd)).1) ((rmake l_ (⟨false, ([] : List ByteArray), ([] : List Handle), ([↑ia_] : List Int)⟩ : Nd)).2)).1).vals).length) ((((rget ((rmake l_ (⟨false, ([] : List ByteArray), ([] : List Handle), ([↑ia_] : List Int)⟩ : Nd)).1) ((rmake l_ (⟨false, ([] : List ByteArray), ([] : List Handle), ([↑ia_] : List Int)⟩ : Nd)).2)).1).vals).flatMap intE), blk b120 (.cells #[(Value.int .i64 (((rmake l_ (⟨false, ([] : List ByteArray), ([] : List Handle), ([↑ia_] : List Int)⟩ : Nd)).2).at_)), (Value.int .i64 (((rmake l_ (⟨false, ([] : List ByteArray), ([] : List Handle), ([↑ia_] : List Int)⟩ : Nd)).2).turn))] 29), arenaC 71 73 S118 ab5 ((rmake l_ (⟨false, ([] : List ByteArray), ([] : List Handle), ([↑ia_] : List Int)⟩ : Nd)).1), blk b116 (.cells #[(Value.int .i64 ↑ia_)] 3), own 29 2 v14 ((rused l_).length) ((rused l_).flatMap handleE), own 29 2 g_ gs_.length (gs_.flatMap handleE)]) [1, 2, 3, 4, 0, 5, 6, 7] rfl (by decide)
            clear m
            replace M : Mem _ _ _ [own 9 1 kv141 ((((rget ((rmake l_ (⟨false, ([] : List ByteArray), ([] : List Handle), ([↑ia_] : List Int)⟩ : Nd)).1) ((rmake l_ (⟨false, ([] : List ByteArray), ([] : List Handle), ([↑ia_] : List Int)⟩ : Nd)).2)).1).keys).length) ((((rget ((rmake l_ (⟨false, ([] : List ByteArray), ([] : List Handle), ([↑ia_] : List Int)⟩ : Nd)).1) ((rmake l_ (⟨false, ([] : List ByteArray), ([] : List Handle), ([↑ia_] : List Int)⟩ : Nd)).2)).1).keys).flatMap strE), own 29 2 dv142 ((((rget ((rmake l_ (⟨false, ([] : List ByteArray), ([] : List Handle), ([↑ia_] : List Int)⟩ : Nd)).1) ((rmake l_ (⟨false, ([] : List ByteArray), ([] : List Handle), ([↑ia_] : List Int)⟩ : Nd)).2)).1).kids).length) ((((rget ((rmake l_ (⟨false, ([] : List ByteArray), ([] : List Handle), ([↑ia_] : List Int)⟩ : Nd)).1) ((rmake l_ (⟨false, ([] : List ByteArray), ([] : List Handle), ([↑ia_] : List Int)⟩ : Nd)).2)).1).kids).flatMap handleE), own 3 1 vv143 ((((rget ((rmake l_ (⟨false, ([] : List ByteArray), ([] : List Handle), ([↑ia_] : List Int)⟩ : Nd)).1) ((rmake l_ (⟨false, ([] : List ByteArray), ([] : List Handle), ([↑ia_] : List Int)⟩ : Nd)).2)).1).vals).length) ((((rget ((rmake l_ (⟨false, ([] : List ByteArray), ([] : List Handle), ([↑ia_] : List Int)⟩ : Nd)).1) ((rmake l_ (⟨false, ([] : List ByteArray), ([] : List Handle), ([↑ia_] : List Int)⟩ : Nd)).2)).1).vals).flatMap intE), blk b120 (.cells #[(Value.int .i64 (((rmake l_ (⟨false, ([] : List ByteArray), ([] : List Handle), ([↑ia_] : List Int)⟩ : Nd)).2).at_)), (Value.int .i64 (((rmake l_ (⟨false, ([] : List ByteArray), ([] : List Handle), ([↑ia_] : List Int)⟩ : Nd)).2).turn))] 29), arenaC 71 73 S118 ab5 ((rmake l_ (⟨false, ([] : List ByteArray), ([] : List Handle), ([↑ia_] : List Int)⟩ : Nd)).1), blk b116 (.cells #[(Value.int .i64 ↑ia_)] 3), own 29 2 v14 ((rused l_).length) ((rused l_).flatMap handleE), own 29 2 g_ gs_.length (gs_.flatMap handleE)] [SlAt 1 v xs.length (xs.flatMap intE)] _ := M
            have sl145 : IsSl kv141 := SlAt.isSl (own_slAt (Mem.chunk M 0 rfl).inv)
            have hle146 := SlAt.le' (own_slAt (Mem.chunk M 0 rfl).inv)
            have sl147 : IsSl dv142 := SlAt.isSl (own_slAt (Mem.chunk M 1 rfl).inv)
            have hle148 := SlAt.le' (own_slAt (Mem.chunk M 1 rfl).inv)
            have sl149 : IsSl vv143 := SlAt.isSl (own_slAt (Mem.chunk M 2 rfl).inv)
            have hle150 := SlAt.le' (own_slAt (Mem.chunk M 2 rfl).inv)
            have hrg := rmake_get (l := l_) (n := (⟨false, ([] : List ByteArray), ([] : List Handle), ([↑ia_] : List Int)⟩ : Nd))
            rw [hrg] at M ⊢
            replace M : Mem _ _ _ [own 9 1 kv141 (([] : List ByteArray).length) (([] : List ByteArray).flatMap strE), own 29 2 dv142 (([] : List Handle).length) (([] : List Handle).flatMap handleE), own 3 1 vv143 (([↑ia_] : List Int).length) (([↑ia_] : List Int).flatMap intE), blk b120 (.cells #[(Value.int .i64 (((rmake l_ (⟨false, ([] : List ByteArray), ([] : List Handle), ([↑ia_] : List Int)⟩ : Nd)).2).at_)), (Value.int .i64 (((rmake l_ (⟨false, ([] : List ByteArray), ([] : List Handle), ([↑ia_] : List Int)⟩ : Nd)).2).turn))] 29), arenaC 71 73 S118 ab5 ((rmake l_ (⟨false, ([] : List ByteArray), ([] : List Handle), ([↑ia_] : List Int)⟩ : Nd)).1), blk b116 (.cells #[(Value.int .i64 ↑ia_)] 3), own 29 2 v14 ((rused l_).length) ((rused l_).flatMap handleE), own 29 2 g_ gs_.length (gs_.flatMap handleE)] [SlAt 1 v xs.length (xs.flatMap intE)] _ := M
            change WL _ _ _ _ _ (Env.put _ _ (Value.tuple #[(Value.agg #[(Value.bool false), kv141, dv142, vv143]), (Value.int .i64 0)])) _
            refine WL.step (v := (Value.tuple #[(Value.agg #[(Value.bool false), kv141, dv142, vv143]), (Value.int .i64 0)])) rfl (Step.move rfl) ?_
            refine WL.step (v := (Value.agg #[(Value.bool false), kv141, dv142, vv143])) rfl (Step.pure (by kernel_rfl)) ?_
            refine WL.step (v := (Value.int .i64 0)) rfl (Step.pure (by kernel_rfl)) ?_
            refine WL.alloc (c := #[(Value.bool false), (Value.slice none 0 0), (Value.slice none 0 0), (Value.slice none 0 0)]) M rfl Try.el36.zero rfl (fun b151 w152 hb151 M => ?_)
            refine WL.store (v := (Value.agg #[(Value.bool false), kv141, dv142, vv143])) (cs := [(Value.bool false), kv141, dv142, vv143]) (c' := #[(Value.bool false), kv141, dv142, vv143]) M 0 rfl rfl Try.el36.sized rfl rfl rfl rfl (Nat.le_of_ble_eq_true rfl) (cel_cons rfl (cel_cons (IsSl.cel sl145) (cel_cons (IsSl.cel sl147) (cel_cons (IsSl.cel sl149) cel_nil)))) rfl rfl (fun w153 M => ?_)
            refine WL.step (v := (Value.int .i64 0)) rfl (Step.assign rfl) ?_
            refine WL.nil ?_
            refine W.seq' ?_
            refine W.region rfl ?_
            refine WL.step (v := (Value.int .i64 0)) rfl (Step.move rfl) ?_
            refine WL.step (v := (Value.bool false)) rfl (Step.pure (by kernel_rfl)) ?_
            refine WL.step (v := (Value.bool false)) rfl (Step.move rfl) ?_
            refine WL.step (v := (Value.pointer (some ⟨b151, 3, none⟩))) rfl (Step.pure (by kernel_rfl)) ?_
            refine WL.step (v := vv143) rfl (Step.load1 Try.sc22 rfl ((M.cell 0 rfl 3).trans rfl)) ?_
            refine WL.step (v := (Value.int .i64 (↑(([↑ia_] : List Int).length)))) rfl (Step.lenSl Try.un22 rfl (own_slAt (M.chunk 3 rfl).inv)) ?_
            refine WL.step (v := (Value.bool ((↑(([↑ia_] : List Int).length) : Int) != (1 : Int)))) rfl (Step.pure (by kernel_rfl)) ?_
            refine WL.step (v := (Value.bool ((↑(([↑ia_] : List Int).length) : Int) != (1 : Int)))) rfl (Step.pick (t := false) rfl rfl) ?_
            refine WL.step (v := (Value.bool ((↑(([↑ia_] : List Int).length) : Int) != (1 : Int)))) rfl (Step.move rfl) ?_
            rcases Bool.eq_false_or_eq_true ((↑(([↑ia_] : List Int).length) : Int) != (1 : Int)) with h154 | h154
            ·
              have h154p : ¬ (↑(([↑ia_] : List Int).length) : Int) = (1 : Int) := by simpa using h154
              exact absurd (by simp) h154p
            ·
              have h154p : (↑(([↑ia_] : List Int).length) : Int) = (1 : Int) := by simpa using h154
              rw [h154]
              refine WL.step (v := (Value.pointer (some ⟨b151, 3, none⟩))) rfl (Step.pure (by kernel_rfl)) ?_
              refine WL.step (v := vv143) rfl (Step.load1 Try.sc22 rfl ((M.cell 0 rfl 3).trans rfl)) ?_
              obtain ⟨cap156, hb155⟩ := SlAt.base (own_slAt (M.chunk 3 rfl).inv) (by omega)
              obtain ⟨x157, hx157⟩ := elem_of_lt (xs := ([↑ia_] : List Int)) (i := 0) (by omega)
              refine WL.step (v := (Value.pointer (some ⟨(sBlk vv143), sOff vv143 + 0 * 1, none⟩))) rfl (Step.indexAddr (i := 0) (Try.un22).run Try.el3.sized rfl rfl rfl hb155 (by omega)) ?_
              refine WL.step (v := (Value.int .i64 x157)) rfl (Step.loadE (k := 0) Try.sc3 (flat_ec (own_slAt (M.chunk 3 rfl).inv) hx157 intE_len) (by decide) rfl rfl) ?_
              refine WL.step (v := (Value.int .i64 ↑ia_)) rfl (Step.move rfl) ?_
              refine WL.step (v := (Value.bool ((x157 : Int) != (↑ia_ : Int)))) rfl (Step.pure (by kernel_rfl)) ?_
              refine WL.step (v := (Value.bool ((x157 : Int) != (↑ia_ : Int)))) rfl (Step.pick (t := false) rfl rfl) ?_
              refine WL.nil ?_
              refine W.cond (t := (x157 : Int) != (↑ia_ : Int)) rfl (fun h158 => ?_) (fun h158 => ?_)
              ·
                have h158p : ¬ (x157 : Int) = (↑ia_ : Int) := by simpa using h158
                have hvv := hx157
                simp at hvv
                omega
              ·
                have h158p : (x157 : Int) = (↑ia_ : Int) := by simpa using h158
                refine W.skip ?_
                refine W.seq' ?_
                refine W.region rfl ?_
                refine WL.step (v := (Value.pointer (some ⟨ab5, 0, none⟩))) rfl (Step.move rfl) ?_
                refine WL.callX rfl (ar_len ab5 ((rmake l_ (⟨false, ([] : List ByteArray), ([] : List Handle), ([↑ia_] : List Int)⟩ : Nd)).1) S118 (M.enterW (C := [arenaC 71 73 S118 ab5 ((rmake l_ (⟨false, ([] : List ByteArray), ([] : List Handle), ([↑ia_] : List Int)⟩ : Nd)).1)]) (D := [blk b151 (.cells #[(Value.bool false), kv141, dv142, vv143] 36), own 9 1 kv141 (([] : List ByteArray).length) (([] : List ByteArray).flatMap strE), own 29 2 dv142 (([] : List Handle).length) (([] : List Handle).flatMap handleE), own 3 1 vv143 (([↑ia_] : List Int).length) (([↑ia_] : List Int).flatMap intE), blk b120 (.cells #[(Value.int .i64 (((rmake l_ (⟨false, ([] : List ByteArray), ([] : List Handle), ([↑ia_] : List Int)⟩ : Nd)).2).at_)), (Value.int .i64 (((rmake l_ (⟨false, ([] : List ByteArray), ([] : List Handle), ([↑ia_] : List Int)⟩ : Nd)).2).turn))] 29), blk b116 (.cells #[(Value.int .i64 ↑ia_)] 3), own 29 2 v14 ((rused l_).length) ((rused l_).flatMap handleE), own 29 2 g_ gs_.length (gs_.flatMap handleE)]) [5, 0, 1, 2, 3, 4, 6, 7, 8] rfl (by decide) trivial)) (CallsF.func Try.en15 rfl) ?_
                rintro _ w159 ⟨rfl, m⟩
                replace M := M.leaveW (C := [arenaC 71 73 S118 ab5 ((rmake l_ (⟨false, ([] : List ByteArray), ([] : List Handle), ([↑ia_] : List Int)⟩ : Nd)).1)]) (D := [blk b151 (.cells #[(Value.bool false), kv141, dv142, vv143] 36), own 9 1 kv141 (([] : List ByteArray).length) (([] : List ByteArray).flatMap strE), own 29 2 dv142 (([] : List Handle).length) (([] : List Handle).flatMap handleE), own 3 1 vv143 (([↑ia_] : List Int).length) (([↑ia_] : List Int).flatMap intE), blk b120 (.cells #[(Value.int .i64 (((rmake l_ (⟨false, ([] : List ByteArray), ([] : List Handle), ([↑ia_] : List Int)⟩ : Nd)).2).at_)), (Value.int .i64 (((rmake l_ (⟨false, ([] : List ByteArray), ([] : List Handle), ([↑ia_] : List Int)⟩ : Nd)).2).turn))] 29), blk b116 (.cells #[(Value.int .i64 ↑ia_)] 3), own 29 2 v14 ((rused l_).length) ((rused l_).flatMap handleE), own 29 2 g_ gs_.length (gs_.flatMap handleE)]) [5, 0, 1, 2, 3, 4, 6, 7, 8] rfl (by decide) m
                replace M := M.sel (L' := [blk b151 (.cells #[(Value.bool false), kv141, dv142, vv143] 36), own 9 1 kv141 (([] : List ByteArray).length) (([] : List ByteArray).flatMap strE), own 29 2 dv142 (([] : List Handle).length) (([] : List Handle).flatMap handleE), own 3 1 vv143 (([↑ia_] : List Int).length) (([↑ia_] : List Int).flatMap intE), blk b120 (.cells #[(Value.int .i64 (((rmake l_ (⟨false, ([] : List ByteArray), ([] : List Handle), ([↑ia_] : List Int)⟩ : Nd)).2).at_)), (Value.int .i64 (((rmake l_ (⟨false, ([] : List ByteArray), ([] : List Handle), ([↑ia_] : List Int)⟩ : Nd)).2).turn))] 29), arenaC 71 73 S118 ab5 ((rmake l_ (⟨false, ([] : List ByteArray), ([] : List Handle), ([↑ia_] : List Int)⟩ : Nd)).1), blk b116 (.cells #[(Value.int .i64 ↑ia_)] 3), own 29 2 v14 ((rused l_).length) ((rused l_).flatMap handleE), own 29 2 g_ gs_.length (gs_.flatMap handleE)]) [1, 2, 3, 4, 5, 0, 6, 7, 8] rfl (by decide)
                clear m
                replace M : Mem _ _ _ [blk b151 (.cells #[(Value.bool false), kv141, dv142, vv143] 36), own 9 1 kv141 (([] : List ByteArray).length) (([] : List ByteArray).flatMap strE), own 29 2 dv142 (([] : List Handle).length) (([] : List Handle).flatMap handleE), own 3 1 vv143 (([↑ia_] : List Int).length) (([↑ia_] : List Int).flatMap intE), blk b120 (.cells #[(Value.int .i64 (((rmake l_ (⟨false, ([] : List ByteArray), ([] : List Handle), ([↑ia_] : List Int)⟩ : Nd)).2).at_)), (Value.int .i64 (((rmake l_ (⟨false, ([] : List ByteArray), ([] : List Handle), ([↑ia_] : List Int)⟩ : Nd)).2).turn))] 29), arenaC 71 73 S118 ab5 ((rmake l_ (⟨false, ([] : List ByteArray), ([] : List Handle), ([↑ia_] : List Int)⟩ : Nd)).1), blk b116 (.cells #[(Value.int .i64 ↑ia_)] 3), own 29 2 v14 ((rused l_).length) ((rused l_).flatMap handleE), own 29 2 g_ gs_.length (gs_.flatMap handleE)] [SlAt 1 v xs.length (xs.flatMap intE)] _ := M
                refine WL.step (v := (Value.tuple #[(Value.int .i64 (↑(usedN ((rmake l_ (⟨false, ([] : List ByteArray), ([] : List Handle), ([↑ia_] : List Int)⟩ : Nd)).1)))), (Value.int .i64 (↑((rmake l_ (⟨false, ([] : List ByteArray), ([] : List Handle), ([↑ia_] : List Int)⟩ : Nd)).1).length))])) rfl (Step.move rfl) ?_
                refine WL.step (v := (Value.int .i64 (↑(usedN ((rmake l_ (⟨false, ([] : List ByteArray), ([] : List Handle), ([↑ia_] : List Int)⟩ : Nd)).1))))) rfl (Step.pure (by kernel_rfl)) ?_
                refine WL.step (v := (Value.int .i64 (↑((rmake l_ (⟨false, ([] : List ByteArray), ([] : List Handle), ([↑ia_] : List Int)⟩ : Nd)).1).length))) rfl (Step.pure (by kernel_rfl)) ?_
                refine WL.step (v := (Value.int .i64 (↑(usedN ((rmake l_ (⟨false, ([] : List ByteArray), ([] : List Handle), ([↑ia_] : List Int)⟩ : Nd)).1))))) rfl (Step.assign rfl) ?_
                refine WL.step (v := (Value.int .i64 (↑((rmake l_ (⟨false, ([] : List ByteArray), ([] : List Handle), ([↑ia_] : List Int)⟩ : Nd)).1).length))) rfl (Step.assign rfl) ?_
                refine WL.nil ?_
                refine W.seq' ?_
                refine W.region rfl ?_
                refine WL.step (v := (Value.int .i64 ↑l_.length)) rfl (Step.move rfl) ?_
                refine WL.step (v := (Value.int .i64 (↑(usedN ((rmake l_ (⟨false, ([] : List ByteArray), ([] : List Handle), ([↑ia_] : List Int)⟩ : Nd)).1))))) rfl (Step.move rfl) ?_
                refine WL.step (v := (Value.int .i64 (↑((rmake l_ (⟨false, ([] : List ByteArray), ([] : List Handle), ([↑ia_] : List Int)⟩ : Nd)).1).length))) rfl (Step.cast (congrArg (Value.int .i64) most_make) (Step.maxI rfl rfl)) ?_
                refine WL.step (v := (Value.int .i64 (↑((rmake l_ (⟨false, ([] : List ByteArray), ([] : List Handle), ([↑ia_] : List Int)⟩ : Nd)).1).length))) rfl (Step.assign rfl) ?_
                refine WL.nil ?_
                refine W.seq' ?_
                refine W.seq' ?_
                refine W.region rfl ?_
                refine WL.step (v := (Value.int .i64 (↑((rmake l_ (⟨false, ([] : List ByteArray), ([] : List Handle), ([↑ia_] : List Int)⟩ : Nd)).1).length))) rfl (Step.move rfl) ?_
                refine WL.step (v := (Value.int .i64 (↑((rmake l_ (⟨false, ([] : List ByteArray), ([] : List Handle), ([↑ia_] : List Int)⟩ : Nd)).1).length))) rfl (Step.move rfl) ?_
                refine WL.step (v := (Value.bool false)) rfl (Step.cast (congrArg Value.bool (show ((↑((rmake l_ (⟨false, ([] : List ByteArray), ([] : List Handle), ([↑ia_] : List Int)⟩ : Nd)).1).length : Int) != (↑((rmake l_ (⟨false, ([] : List ByteArray), ([] : List Handle), ([↑ia_] : List Int)⟩ : Nd)).1).length : Int)) = false by simp)) (Step.pure (by kernel_rfl))) ?_
                refine WL.step (v := (Value.bool false)) rfl (Step.move rfl) ?_
                refine WL.step (v := (Value.int .i64 (↑(usedN ((rmake l_ (⟨false, ([] : List ByteArray), ([] : List Handle), ([↑ia_] : List Int)⟩ : Nd)).1))))) rfl (Step.move rfl) ?_
                refine WL.step (v := (Value.pointer (some ⟨ab5, 0, none⟩))) rfl (Step.move rfl) ?_
                refine WL.callX rfl (ar_used ab5 ((rmake l_ (⟨false, ([] : List ByteArray), ([] : List Handle), ([↑ia_] : List Int)⟩ : Nd)).1) S118 (by first | assumption | exact smallA_of rfl) (M.enterW (C := [arenaC 71 73 S118 ab5 ((rmake l_ (⟨false, ([] : List ByteArray), ([] : List Handle), ([↑ia_] : List Int)⟩ : Nd)).1)]) (D := [blk b151 (.cells #[(Value.bool false), kv141, dv142, vv143] 36), own 9 1 kv141 (([] : List ByteArray).length) (([] : List ByteArray).flatMap strE), own 29 2 dv142 (([] : List Handle).length) (([] : List Handle).flatMap handleE), own 3 1 vv143 (([↑ia_] : List Int).length) (([↑ia_] : List Int).flatMap intE), blk b120 (.cells #[(Value.int .i64 (((rmake l_ (⟨false, ([] : List ByteArray), ([] : List Handle), ([↑ia_] : List Int)⟩ : Nd)).2).at_)), (Value.int .i64 (((rmake l_ (⟨false, ([] : List ByteArray), ([] : List Handle), ([↑ia_] : List Int)⟩ : Nd)).2).turn))] 29), blk b116 (.cells #[(Value.int .i64 ↑ia_)] 3), own 29 2 v14 ((rused l_).length) ((rused l_).flatMap handleE), own 29 2 g_ gs_.length (gs_.flatMap handleE)]) [5, 0, 1, 2, 3, 4, 6, 7, 8] rfl (by decide) trivial)) (CallsF.func Try.en10 rfl) ?_
                rintro v160 w161 ⟨_, rfl, m⟩
                replace M := M.leaveW (C := [arenaC 71 73 S118 ab5 ((rmake l_ (⟨false, ([] : List ByteArray), ([] : List Handle), ([↑ia_] : List Int)⟩ : Nd)).1)]) (D := [blk b151 (.cells #[(Value.bool false), kv141, dv142, vv143] 36), own 9 1 kv141 (([] : List ByteArray).length) (([] : List ByteArray).flatMap strE), own 29 2 dv142 (([] : List Handle).length) (([] : List Handle).flatMap handleE), own 3 1 vv143 (([↑ia_] : List Int).length) (([↑ia_] : List Int).flatMap intE), blk b120 (.cells #[(Value.int .i64 (((rmake l_ (⟨false, ([] : List ByteArray), ([] : List Handle), ([↑ia_] : List Int)⟩ : Nd)).2).at_)), (Value.int .i64 (((rmake l_ (⟨false, ([] : List ByteArray), ([] : List Handle), ([↑ia_] : List Int)⟩ : Nd)).2).turn))] 29), blk b116 (.cells #[(Value.int .i64 ↑ia_)] 3), own 29 2 v14 ((rused l_).length) ((rused l_).flatMap handleE), own 29 2 g_ gs_.length (gs_.flatMap handleE)]) [5, 0, 1, 2, 3, 4, 6, 7, 8] rfl (by decide) m
                replace M := M.sel (L' := [own 29 2 v160 ((rused ((rmake l_ (⟨false, ([] : List ByteArray), ([] : List Handle), ([↑ia_] : List Int)⟩ : Nd)).1)).length) ((rused ((rmake l_ (⟨false, ([] : List ByteArray), ([] : List Handle), ([↑ia_] : List Int)⟩ : Nd)).1)).flatMap handleE), blk b151 (.cells #[(Value.bool false), kv141, dv142, vv143] 36), own 9 1 kv141 (([] : List ByteArray).length) (([] : List ByteArray).flatMap strE), own 29 2 dv142 (([] : List Handle).length) (([] : List Handle).flatMap handleE), own 3 1 vv143 (([↑ia_] : List Int).length) (([↑ia_] : List Int).flatMap intE), blk b120 (.cells #[(Value.int .i64 (((rmake l_ (⟨false, ([] : List ByteArray), ([] : List Handle), ([↑ia_] : List Int)⟩ : Nd)).2).at_)), (Value.int .i64 (((rmake l_ (⟨false, ([] : List ByteArray), ([] : List Handle), ([↑ia_] : List Int)⟩ : Nd)).2).turn))] 29), arenaC 71 73 S118 ab5 ((rmake l_ (⟨false, ([] : List ByteArray), ([] : List Handle), ([↑ia_] : List Int)⟩ : Nd)).1), blk b116 (.cells #[(Value.int .i64 ↑ia_)] 3), own 29 2 v14 ((rused l_).length) ((rused l_).flatMap handleE), own 29 2 g_ gs_.length (gs_.flatMap handleE)]) [1, 2, 3, 4, 5, 6, 0, 7, 8, 9] rfl (by decide)
                clear m
                replace M : Mem _ _ _ [own 29 2 v160 ((rused ((rmake l_ (⟨false, ([] : List ByteArray), ([] : List Handle), ([↑ia_] : List Int)⟩ : Nd)).1)).length) ((rused ((rmake l_ (⟨false, ([] : List ByteArray), ([] : List Handle), ([↑ia_] : List Int)⟩ : Nd)).1)).flatMap handleE), blk b151 (.cells #[(Value.bool false), kv141, dv142, vv143] 36), own 9 1 kv141 (([] : List ByteArray).length) (([] : List ByteArray).flatMap strE), own 29 2 dv142 (([] : List Handle).length) (([] : List Handle).flatMap handleE), own 3 1 vv143 (([↑ia_] : List Int).length) (([↑ia_] : List Int).flatMap intE), blk b120 (.cells #[(Value.int .i64 (((rmake l_ (⟨false, ([] : List ByteArray), ([] : List Handle), ([↑ia_] : List Int)⟩ : Nd)).2).at_)), (Value.int .i64 (((rmake l_ (⟨false, ([] : List ByteArray), ([] : List Handle), ([↑ia_] : List Int)⟩ : Nd)).2).turn))] 29), arenaC 71 73 S118 ab5 ((rmake l_ (⟨false, ([] : List ByteArray), ([] : List Handle), ([↑ia_] : List Int)⟩ : Nd)).1), blk b116 (.cells #[(Value.int .i64 ↑ia_)] 3), own 29 2 v14 ((rused l_).length) ((rused l_).flatMap handleE), own 29 2 g_ gs_.length (gs_.flatMap handleE)] [SlAt 1 v xs.length (xs.flatMap intE)] _ := M
                have sl162 : IsSl v160 := SlAt.isSl (own_slAt (Mem.chunk M 0 rfl).inv)
                have hle163 := SlAt.le' (own_slAt (Mem.chunk M 0 rfl).inv)
                refine WL.step (v := (Value.int .i64 (↑((rused ((rmake l_ (⟨false, ([] : List ByteArray), ([] : List Handle), ([↑ia_] : List Int)⟩ : Nd)).1)).length)))) rfl (Step.lenSl Try.un26 rfl (own_slAt (M.chunk 0 rfl).inv)) ?_
                refine WL.step (v := (Value.bool ((↑(usedN ((rmake l_ (⟨false, ([] : List ByteArray), ([] : List Handle), ([↑ia_] : List Int)⟩ : Nd)).1)) : Int) != (↑((rused ((rmake l_ (⟨false, ([] : List ByteArray), ([] : List Handle), ([↑ia_] : List Int)⟩ : Nd)).1)).length) : Int)))) rfl (Step.pure (by kernel_rfl)) ?_
                refine WL.step (v := (Value.bool ((↑(usedN ((rmake l_ (⟨false, ([] : List ByteArray), ([] : List Handle), ([↑ia_] : List Int)⟩ : Nd)).1)) : Int) != (↑((rused ((rmake l_ (⟨false, ([] : List ByteArray), ([] : List Handle), ([↑ia_] : List Int)⟩ : Nd)).1)).length) : Int)))) rfl (Step.pick (t := false) rfl rfl) ?_
                refine WL.nil ?_
                refine W.cond (t := (↑(usedN ((rmake l_ (⟨false, ([] : List ByteArray), ([] : List Handle), ([↑ia_] : List Int)⟩ : Nd)).1)) : Int) != (↑((rused ((rmake l_ (⟨false, ([] : List ByteArray), ([] : List Handle), ([↑ia_] : List Int)⟩ : Nd)).1)).length) : Int)) rfl (fun h164 => ?_) (fun h164 => ?_)
                ·
                  have h164p : ¬ (↑(usedN ((rmake l_ (⟨false, ([] : List ByteArray), ([] : List Handle), ([↑ia_] : List Int)⟩ : Nd)).1)) : Int) = (↑((rused ((rmake l_ (⟨false, ([] : List ByteArray), ([] : List Handle), ([↑ia_] : List Int)⟩ : Nd)).1)).length) : Int) := by simpa using h164
                  exact absurd (congrArg Int.ofNat (rused_len _)).symm h164p
                ·
                  have h164p : (↑(usedN ((rmake l_ (⟨false, ([] : List ByteArray), ([] : List Handle), ([↑ia_] : List Int)⟩ : Nd)).1)) : Int) = (↑((rused ((rmake l_ (⟨false, ([] : List ByteArray), ([] : List Handle), ([↑ia_] : List Int)⟩ : Nd)).1)).length) : Int) := by simpa using h164
                  refine W.skip ?_
                  refine W.seq' ?_
                  refine W.region rfl ?_
                  refine WL.step (v := (Value.int .i64 0)) rfl (Step.assign rfl) ?_
                  refine WL.nil ?_
                  refine W.block ?_
                  refine W.loop (fun kk ρ w' => ∃ (kc_ : Nat), ((kc_ ≤ gs_.length) ∧ kk = gs_.length - kc_) ∧ ρ.has [(0, v), (3, (Value.pointer (some ⟨ab5, 0, none⟩))), (4, g_), (5, (Value.int .i64 (↑((rmake l_ (⟨false, ([] : List ByteArray), ([] : List Handle), ([↑ia_] : List Int)⟩ : Nd)).1).length))), (6, (Value.int .i64 ↑ia_)), (7, v14), (9, (Value.pointer (some ⟨b120, 0, none⟩))), (10, (Value.int .i64 ↑ka_)), (11, (Value.int .i64 ↑kb_)), (12, (Value.pointer (some ⟨b151, 0, none⟩))), (13, (Value.int .i64 0)), (14, (Value.int .i64 (↑(usedN ((rmake l_ (⟨false, ([] : List ByteArray), ([] : List Handle), ([↑ia_] : List Int)⟩ : Nd)).1))))), (15, (Value.int .i64 (↑((rmake l_ (⟨false, ([] : List ByteArray), ([] : List Handle), ([↑ia_] : List Int)⟩ : Nd)).1).length))), (16, (Value.int .i64 ↑kc_)), (22, (Value.int .i64 ↑ia_)), (23, v), (24, (Value.int .i64 ↑xs.length)), (25, (Value.bool (decide ((↑ia_ : Int) < (↑xs.length : Int))))), (28, (Value.pointer (some ⟨ab5, 0, none⟩))), (29, v14), (30, v), (31, (Value.int .i64 ↑ia_)), (32, (Value.pointer (some ⟨(sBlk v), sOff v + ia_ * 1, none⟩))), (33, (Value.int .i64 x20)), (34, (Value.bool false)), (35, (Value.bool false)), (39, (Value.bool false)), (66, (Value.pointer (some ⟨ab5, 0, none⟩))), (67, (Value.int .i64 ↑ia_)), (68, (Value.slice (some ⟨b116, 0, none⟩) 1 1)), (69, (Value.agg #[(Value.bool false), (Value.slice none 0 0), (Value.slice none 0 0), (Value.slice (some ⟨b116, 0, none⟩) 1 1)])), (70, (Value.agg #[(Value.int .i64 (((rmake l_ (⟨false, ([] : List ByteArray), ([] : List Handle), ([↑ia_] : List Int)⟩ : Nd)).2).at_)), (Value.int .i64 (((rmake l_ (⟨false, ([] : List ByteArray), ([] : List Handle), ([↑ia_] : List Int)⟩ : Nd)).2).turn))])), (71, (Value.int .i64 ↑ka_)), (72, g_), (73, (Value.int .i64 ↑gs_.length)), (74, (Value.bool (decide ((↑ka_ : Int) < (↑gs_.length : Int))))), (83, (Value.int .i64 ↑kb_)), (84, v14), (85, (Value.int .i64 (↑((rused l_).length)))), (86, (Value.bool (decide ((↑kb_ : Int) < (↑((rused l_).length) : Int))))), (97, (Value.tuple #[(Value.agg #[(Value.bool false), kv141, dv142, vv143]), (Value.int .i64 0)])), (98, (Value.pointer (some ⟨ab5, 0, none⟩))), (99, (Value.agg #[(Value.int .i64 (((rmake l_ (⟨false, ([] : List ByteArray), ([] : List Handle), ([↑ia_] : List Int)⟩ : Nd)).2).at_)), (Value.int .i64 (((rmake l_ (⟨false, ([] : List ByteArray), ([] : List Handle), ([↑ia_] : List Int)⟩ : Nd)).2).turn))])), (100, (Value.tuple #[(Value.agg #[(Value.bool false), kv141, dv142, vv143]), (Value.int .i64 0)])), (101, (Value.agg #[(Value.bool false), kv141, dv142, vv143])), (102, (Value.int .i64 0)), (103, (Value.int .i64 0)), (104, (Value.bool false)), (105, (Value.bool false)), (106, (Value.pointer (some ⟨b151, 3, none⟩))), (107, vv143), (108, (Value.int .i64 (↑(([↑ia_] : List Int).length)))), (109, (Value.bool false)), (110, (Value.bool false)), (111, (Value.bool false)), (112, (Value.pointer (some ⟨b151, 3, none⟩))), (113, vv143), (114, (Value.pointer (some ⟨(sBlk vv143), sOff vv143 + 0 * 1, none⟩))), (115, (Value.int .i64 x157)), (116, (Value.int .i64 ↑ia_)), (117, (Value.bool ((x157 : Int) != (↑ia_ : Int)))), (118, (Value.bool ((x157 : Int) != (↑ia_ : Int)))), (119, (Value.tuple #[(Value.int .i64 (↑(usedN ((rmake l_ (⟨false, ([] : List ByteArray), ([] : List Handle), ([↑ia_] : List Int)⟩ : Nd)).1)))), (Value.int .i64 (↑((rmake l_ (⟨false, ([] : List ByteArray), ([] : List Handle), ([↑ia_] : List Int)⟩ : Nd)).1).length))])), (120, (Value.pointer (some ⟨ab5, 0, none⟩))), (121, (Value.tuple #[(Value.int .i64 (↑(usedN ((rmake l_ (⟨false, ([] : List ByteArray), ([] : List Handle), ([↑ia_] : List Int)⟩ : Nd)).1)))), (Value.int .i64 (↑((rmake l_ (⟨false, ([] : List ByteArray), ([] : List Handle), ([↑ia_] : List Int)⟩ : Nd)).1).length))])), (122, (Value.int .i64 (↑(usedN ((rmake l_ (⟨false, ([] : List ByteArray), ([] : List Handle), ([↑ia_] : List Int)⟩ : Nd)).1))))), (123, (Value.int .i64 (↑((rmake l_ (⟨false, ([] : List ByteArray), ([] : List Handle), ([↑ia_] : List Int)⟩ : Nd)).1).length))), (124, (Value.int .i64 ↑l_.length)), (125, (Value.int .i64 (↑(usedN ((rmake l_ (⟨false, ([] : List ByteArray), ([] : List Handle), ([↑ia_] : List Int)⟩ : Nd)).1))))), (126, (Value.int .i64 (↑((rmake l_ (⟨false, ([] : List ByteArray), ([] : List Handle), ([↑ia_] : List Int)⟩ : Nd)).1).length))), (127, (Value.int .i64 (↑((rmake l_ (⟨false, ([] : List ByteArray), ([] : List Handle), ([↑ia_] : List Int)⟩ : Nd)).1).length))), (128, (Value.int .i64 (↑((rmake l_ (⟨false, ([] : List ByteArray), ([] : List Handle), ([↑ia_] : List Int)⟩ : Nd)).1).length))), (129, (Value.bool false)), (130, (Value.bool false)), (131, (Value.int .i64 (↑(usedN ((rmake l_ (⟨false, ([] : List ByteArray), ([] : List Handle), ([↑ia_] : List Int)⟩ : Nd)).1))))), (132, (Value.pointer (some ⟨ab5, 0, none⟩))), (133, v160), (134, (Value.int .i64 (↑((rused ((rmake l_ (⟨false, ([] : List ByteArray), ([] : List Handle), ([↑ia_] : List Int)⟩ : Nd)).1)).length)))), (135, (Value.bool ((↑(usedN ((rmake l_ (⟨false, ([] : List ByteArray), ([] : List Handle), ([↑ia_] : List Int)⟩ : Nd)).1)) : Int) != (↑((rused ((rmake l_ (⟨false, ([] : List ByteArray), ([] : List Handle), ([↑ia_] : List Int)⟩ : Nd)).1)).length) : Int)))), (136, (Value.bool ((↑(usedN ((rmake l_ (⟨false, ([] : List ByteArray), ([] : List Handle), ([↑ia_] : List Int)⟩ : Nd)).1)) : Int) != (↑((rused ((rmake l_ (⟨false, ([] : List ByteArray), ([] : List Handle), ([↑ia_] : List Int)⟩ : Nd)).1)).length) : Int))))] ∧ Mem G (fun _ => False) w [own 29 2 v160 ((rused ((rmake l_ (⟨false, ([] : List ByteArray), ([] : List Handle), ([↑ia_] : List Int)⟩ : Nd)).1)).length) ((rused ((rmake l_ (⟨false, ([] : List ByteArray), ([] : List Handle), ([↑ia_] : List Int)⟩ : Nd)).1)).flatMap handleE), blk b151 (.cells #[(Value.bool false), kv141, dv142, vv143] 36), own 9 1 kv141 (([] : List ByteArray).length) (([] : List ByteArray).flatMap strE), own 29 2 dv142 (([] : List Handle).length) (([] : List Handle).flatMap handleE), own 3 1 vv143 (([↑ia_] : List Int).length) (([↑ia_] : List Int).flatMap intE), blk b120 (.cells #[(Value.int .i64 (((rmake l_ (⟨false, ([] : List ByteArray), ([] : List Handle), ([↑ia_] : List Int)⟩ : Nd)).2).at_)), (Value.int .i64 (((rmake l_ (⟨false, ([] : List ByteArray), ([] : List Handle), ([↑ia_] : List Int)⟩ : Nd)).2).turn))] 29), arenaC 71 73 S118 ab5 ((rmake l_ (⟨false, ([] : List ByteArray), ([] : List Handle), ([↑ia_] : List Int)⟩ : Nd)).1), blk b116 (.cells #[(Value.int .i64 ↑ia_)] 3), own 29 2 v14 ((rused l_).length) ((rused l_).flatMap handleE), own 29 2 g_ gs_.length (gs_.flatMap handleE)] [SlAt 1 v xs.length (xs.flatMap intE)]  w') _ ⟨0, ⟨(Nat.zero_le _), rfl⟩, ⟨rfl, rfl, rfl, rfl, rfl, rfl, rfl, rfl, rfl, rfl, rfl, rfl, rfl, rfl, rfl, rfl, rfl, rfl, rfl, rfl, rfl, rfl, rfl, rfl, rfl, rfl, rfl, rfl, rfl, rfl, rfl, rfl, rfl, rfl, rfl, rfl, rfl, rfl, rfl, rfl, rfl, rfl, rfl, rfl, rfl, rfl, rfl, rfl, rfl, rfl, rfl, rfl, rfl, rfl, rfl, rfl, rfl, rfl, rfl, rfl, rfl, rfl, rfl, rfl, rfl, rfl, rfl, rfl, rfl, rfl, rfl, rfl, rfl, rfl, rfl, rfl, rfl, rfl, rfl, rfl, trivial⟩, M⟩ ?_
                  rintro _ ρ166 w165 ⟨kc_, ⟨hi167, rfl⟩, hρ, M⟩
                  obtain ⟨ρ166, rfl⟩ := hρ.know
                  clear hρ
                  refine W.seq' ?_
                  refine W.seq' ?_
                  refine W.region rfl ?_
                  refine WL.step (v := (Value.int .i64 ↑kc_)) rfl (Step.move rfl) ?_
                  refine WL.step (v := g_) rfl (Step.move rfl) ?_
                  refine WL.step (v := (Value.int .i64 ↑gs_.length)) rfl (Step.lenSl Try.un26 rfl (own_slAt (M.chunk 9 rfl).inv)) ?_
                  refine WL.step (v := (Value.bool (decide ((↑kc_ : Int) < (↑gs_.length : Int))))) rfl (Step.pure (by kernel_rfl)) ?_
                  refine WL.nil ?_
                  refine W.cond (t := decide ((↑kc_ : Int) < (↑gs_.length : Int))) rfl (fun h168 => ?_) (fun h168 => ?_)
                  ·
                    have h168p := of_decide_eq_true h168
                    refine W.skip ?_
                    refine W.seq' ?_
                    refine W.block ?_
                    refine W.seq' ?_
                    refine W.region rfl ?_
                    refine WL.step (v := (Value.pointer (some ⟨ab5, 0, none⟩))) rfl (Step.move rfl) ?_
                    refine WL.step (v := g_) rfl (Step.move rfl) ?_
                    refine WL.step (v := (Value.int .i64 ↑kc_)) rfl (Step.move rfl) ?_
                    obtain ⟨cap170, hb169⟩ := SlAt.base (own_slAt (M.chunk 9 rfl).inv) (by omega)
                    obtain ⟨x171, hx171⟩ := elem_of_lt (xs := gs_) (i := kc_) (by omega)
                    refine WL.step (v := (Value.pointer (some ⟨(sBlk g_), sOff g_ + kc_ * 2, none⟩))) rfl (Step.indexAddr (i := kc_) (Try.un26).run Try.el29.sized rfl rfl (by omega) hb169 (by omega)) ?_
                    refine WL.step (v := (Value.agg #[(Value.int .i64 x171.at_), (Value.int .i64 x171.turn)])) rfl (Step.loadEN (k := 0) (cs' := [(Value.int .i64 x171.at_), (Value.int .i64 x171.turn)]) Try.ag29 (flat_ec (own_slAt (M.chunk 9 rfl).inv) hx171 handleE_len) (by decide) rfl rfl rfl) ?_
                    refine WL.callX rfl (ar_has_p ab5 ((rmake l_ (⟨false, ([] : List ByteArray), ([] : List Handle), ([↑ia_] : List Int)⟩ : Nd)).1) S118 x171 (M.enterW (C := [arenaC 71 73 S118 ab5 ((rmake l_ (⟨false, ([] : List ByteArray), ([] : List Handle), ([↑ia_] : List Int)⟩ : Nd)).1)]) (D := [own 29 2 v160 ((rused ((rmake l_ (⟨false, ([] : List ByteArray), ([] : List Handle), ([↑ia_] : List Int)⟩ : Nd)).1)).length) ((rused ((rmake l_ (⟨false, ([] : List ByteArray), ([] : List Handle), ([↑ia_] : List Int)⟩ : Nd)).1)).flatMap handleE), blk b151 (.cells #[(Value.bool false), kv141, dv142, vv143] 36), own 9 1 kv141 (([] : List ByteArray).length) (([] : List ByteArray).flatMap strE), own 29 2 dv142 (([] : List Handle).length) (([] : List Handle).flatMap handleE), own 3 1 vv143 (([↑ia_] : List Int).length) (([↑ia_] : List Int).flatMap intE), blk b120 (.cells #[(Value.int .i64 (((rmake l_ (⟨false, ([] : List ByteArray), ([] : List Handle), ([↑ia_] : List Int)⟩ : Nd)).2).at_)), (Value.int .i64 (((rmake l_ (⟨false, ([] : List ByteArray), ([] : List Handle), ([↑ia_] : List Int)⟩ : Nd)).2).turn))] 29), blk b116 (.cells #[(Value.int .i64 ↑ia_)] 3), own 29 2 v14 ((rused l_).length) ((rused l_).flatMap handleE), own 29 2 g_ gs_.length (gs_.flatMap handleE)]) [6, 0, 1, 2, 3, 4, 5, 7, 8, 9] rfl (by decide) trivial)) (CallsF.func Try.en16 rfl) ?_
                    rintro _ w172 ⟨rfl, m⟩
                    replace M := M.leaveW (C := [arenaC 71 73 S118 ab5 ((rmake l_ (⟨false, ([] : List ByteArray), ([] : List Handle), ([↑ia_] : List Int)⟩ : Nd)).1)]) (D := [own 29 2 v160 ((rused ((rmake l_ (⟨false, ([] : List ByteArray), ([] : List Handle), ([↑ia_] : List Int)⟩ : Nd)).1)).length) ((rused ((rmake l_ (⟨false, ([] : List ByteArray), ([] : List Handle), ([↑ia_] : List Int)⟩ : Nd)).1)).flatMap handleE), blk b151 (.cells #[(Value.bool false), kv141, dv142, vv143] 36), own 9 1 kv141 (([] : List ByteArray).length) (([] : List ByteArray).flatMap strE), own 29 2 dv142 (([] : List Handle).length) (([] : List Handle).flatMap handleE), own 3 1 vv143 (([↑ia_] : List Int).length) (([↑ia_] : List Int).flatMap intE), blk b120 (.cells #[(Value.int .i64 (((rmake l_ (⟨false, ([] : List ByteArray), ([] : List Handle), ([↑ia_] : List Int)⟩ : Nd)).2).at_)), (Value.int .i64 (((rmake l_ (⟨false, ([] : List ByteArray), ([] : List Handle), ([↑ia_] : List Int)⟩ : Nd)).2).turn))] 29), blk b116 (.cells #[(Value.int .i64 ↑ia_)] 3), own 29 2 v14 ((rused l_).length) ((rused l_).flatMap handleE), own 29 2 g_ gs_.length (gs_.flatMap handleE)]) [6, 0, 1, 2, 3, 4, 5, 7, 8, 9] rfl (by decide) m
                    replace M := M.sel (L' := [own 29 2 v160 ((rused ((rmake l_ (⟨false, ([] : List ByteArray), ([] : List Handle), ([↑ia_] : List Int)⟩ : Nd)).1)).length) ((rused ((rmake l_ (⟨false, ([] : List ByteArray), ([] : List Handle), ([↑ia_] : List Int)⟩ : Nd)).1)).flatMap handleE), blk b151 (.cells #[(Value.bool false), kv141, dv142, vv143] 36), own 9 1 kv141 (([] : List ByteArray).length) (([] : List ByteArray).flatMap strE), own 29 2 dv142 (([] : List Handle).length) (([] : List Handle).flatMap handleE), own 3 1 vv143 (([↑ia_] : List Int).length) (([↑ia_] : List Int).flatMap intE), blk b120 (.cells #[(Value.int .i64 (((rmake l_ (⟨false, ([] : List ByteArray), ([] : List Handle), ([↑ia_] : List Int)⟩ : Nd)).2).at_)), (Value.int .i64 (((rmake l_ (⟨false, ([] : List ByteArray), ([] : List Handle), ([↑ia_] : List Int)⟩ : Nd)).2).turn))] 29), arenaC 71 73 S118 ab5 ((rmake l_ (⟨false, ([] : List ByteArray), ([] : List Handle), ([↑ia_] : List Int)⟩ : Nd)).1), blk b116 (.cells #[(Value.int .i64 ↑ia_)] 3), own 29 2 v14 ((rused l_).length) ((rused l_).flatMap handleE), own 29 2 g_ gs_.length (gs_.flatMap handleE)]) [1, 2, 3, 4, 5, 6, 0, 7, 8, 9] rfl (by decide)
                    clear m
                    replace M : Mem _ _ _ [own 29 2 v160 ((rused ((rmake l_ (⟨false, ([] : List ByteArray), ([] : List Handle), ([↑ia_] : List Int)⟩ : Nd)).1)).length) ((rused ((rmake l_ (⟨false, ([] : List ByteArray), ([] : List Handle), ([↑ia_] : List Int)⟩ : Nd)).1)).flatMap handleE), blk b151 (.cells #[(Value.bool false), kv141, dv142, vv143] 36), own 9 1 kv141 (([] : List ByteArray).length) (([] : List ByteArray).flatMap strE), own 29 2 dv142 (([] : List Handle).length) (([] : List Handle).flatMap handleE), own 3 1 vv143 (([↑ia_] : List Int).length) (([↑ia_] : List Int).flatMap intE), blk b120 (.cells #[(Value.int .i64 (((rmake l_ (⟨false, ([] : List ByteArray), ([] : List Handle), ([↑ia_] : List Int)⟩ : Nd)).2).at_)), (Value.int .i64 (((rmake l_ (⟨false, ([] : List ByteArray), ([] : List Handle), ([↑ia_] : List Int)⟩ : Nd)).2).turn))] 29), arenaC 71 73 S118 ab5 ((rmake l_ (⟨false, ([] : List ByteArray), ([] : List Handle), ([↑ia_] : List Int)⟩ : Nd)).1), blk b116 (.cells #[(Value.int .i64 ↑ia_)] 3), own 29 2 v14 ((rused l_).length) ((rused l_).flatMap handleE), own 29 2 g_ gs_.length (gs_.flatMap handleE)] [SlAt 1 v xs.length (xs.flatMap intE)] _ := M
                    refine WL.nil ?_
                    refine W.cond (t := rhas ((rmake l_ (⟨false, ([] : List ByteArray), ([] : List Handle), ([↑ia_] : List Int)⟩ : Nd)).1) x171) rfl (fun h173 => ?_) (fun h173 => ?_)
                    ·
                      exact absurd h173 (by rw [hT2.has (List.mem_of_getElem? hx171)]; simp)
                    ·
                      refine W.skip ?_
                      refine W.region rfl ?_
                      refine WL.step (v := (Value.int .i64 ↑kc_)) rfl (Step.move rfl) ?_
                      refine WL.step (v := (Value.int .i64 (↑kc_ + 1))) rfl (Step.add rfl rfl (wrap_i64 (by omega))) ?_
                      refine WL.step (v := (Value.int .i64 (↑kc_ + 1))) rfl (Step.assign rfl) ?_
                      refine WL.nil ?_
                      exact ⟨_, (by omega), kc_ + 1, ⟨(by omega), rfl⟩, ⟨rfl, rfl, rfl, rfl, rfl, rfl, rfl, rfl, rfl, rfl, rfl, rfl, rfl, rfl, rfl, rfl, rfl, rfl, rfl, rfl, rfl, rfl, rfl, rfl, rfl, rfl, rfl, rfl, rfl, rfl, rfl, rfl, rfl, rfl, rfl, rfl, rfl, rfl, rfl, rfl, rfl, rfl, rfl, rfl, rfl, rfl, rfl, rfl, rfl, rfl, rfl, rfl, rfl, rfl, rfl, rfl, rfl, rfl, rfl, rfl, rfl, rfl, rfl, rfl, rfl, rfl, rfl, rfl, rfl, rfl, rfl, rfl, rfl, rfl, rfl, rfl, rfl, rfl, rfl, rfl, trivial⟩, M⟩
                  ·
                    have h168p := of_decide_eq_false h168
                    refine W.exit ?_
                    refine thn_exit ?_
                    refine thn_exit ?_
                    refine inBlk_hit ?_
                    refine W.region rfl ?_
                    refine WL.step (v := (Value.int .i64 ↑ia_)) rfl (Step.move rfl) ?_
                    refine WL.step (v := (Value.int .i64 (↑ia_ + 1))) rfl (Step.add rfl rfl (wrap_i64 (by omega))) ?_
                    refine WL.step (v := (Value.int .i64 (↑ia_ + 1))) rfl (Step.assign rfl) ?_
                    refine WL.nil ?_
                    replace M := M.sel (L' := [arenaC 71 73 S118 ab5 ((rmake l_ (⟨false, ([] : List ByteArray), ([] : List Handle), ([↑ia_] : List Int)⟩ : Nd)).1), own 29 2 g_ gs_.length (gs_.flatMap handleE)]) [6, 9] rfl (by decide)
                    exact ⟨_, (by omega), ia_ + 1, _, (rmake l_ (⟨false, ([] : List ByteArray), ([] : List Handle), ([↑ia_] : List Int)⟩ : Nd)).1, _, gs_, ⟨(by omega), hT2, rfl⟩, ⟨rfl, rfl, rfl, rfl, rfl, trivial⟩, M⟩
    ·
      have h13p := of_decide_eq_false h13
      refine W.exit ?_
      refine thn_exit ?_
      refine thn_exit ?_
      refine inBlk_hit ?_
      refine W.seq' ?_
      refine W.region rfl ?_
      refine WL.callX rfl (law_works  (M.enterW0 trivial)) (CallsF.func Try.en8 rfl) ?_
      rintro _ w174 ⟨rfl, m⟩
      replace M := M.leaveW0 m
      clear m
      replace M : Mem _ _ _ [arenaC 71 73 S_ ab5 l_, own 29 2 g_ gs_.length (gs_.flatMap handleE)] [SlAt 1 v xs.length (xs.flatMap intE)] _ := M
      refine WL.step (v := (Value.bool true)) rfl (Step.assign rfl) ?_
      refine WL.nil ?_
      refine W.ret ?_
      refine ⟨.inl rfl, (Value.bool true), ?_, ?_⟩
      · exact (Res.r1 (show RV _ _ _ (.tmp 2) (Value.bool true) from by exact rfl))
      refine ⟨?_, M.close [] rfl (by decide) trivial⟩
      rfl
end Go.Proofs
