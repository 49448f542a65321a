/- Walks. -/
import Derived.Test.YtlehkjkpgmkbiaaTrC6
set_option maxRecDepth 100000
set_option linter.all false
namespace Go.Proofs
open Go Tp


theorem chn_at {G : Nat → Prop} {w : World} (e : Int)   (M : Mem G (fun _ => False) w [] [] w) : Rets Try.prog 21 #[(Value.pointer none), (Value.int .u64 e)] w fun r w' => r = (Value.tuple #[(Value.agg #[(Value.int .i64 0), (Value.int .i64 0), (Value.int .i64 0), (Value.int .i64 0)]), (Value.bool false)]) ∧ Mem G (fun _ => False) w [] [] w' := by
  refine Rets.enterD 23 _ Try.func21 rfl Try.ntmps21 Try.results21 (by simp) ?_
  refine W.seq' ?_
  refine W.region rfl ?_
  refine WL.box (v := (Value.int .u64 e)) (c := #[(Value.int .u64 e)]) M rfl rfl rfl (fun b1 w2 hb1 M => ?_)
  refine WL.alloc (c := #[(Value.int .i64 0), (Value.int .i64 0), (Value.int .i64 0), (Value.int .i64 0)]) M rfl Try.el32.zero rfl (fun b3 w4 hb3 M => ?_)
  refine WL.step (v := (Value.bool false)) rfl (Step.assign rfl) ?_
  refine WL.nil ?_
  refine W.seq' ?_
  refine W.region rfl ?_
  refine WL.alloc (c := #[(Value.int .i64 0), (Value.int .i64 0), (Value.int .i64 0), (Value.int .i64 0)]) M rfl Try.el32.zero rfl (fun b5 w6 hb5 M => ?_)
  refine WL.nil ?_
  refine W.seq' ?_
  refine W.seq' ?_
  refine W.region rfl ?_
  refine WL.step (v := (Value.pointer none)) rfl (Step.move rfl) ?_
  refine WL.callX rfl (ch_alln  (M.enterW0 trivial)) (CallsF.func Try.en81 rfl) ?_
  rintro _ w8 ⟨pb7, rfl, m⟩
  replace M := M.leaveW0 m
  clear m
  replace M : Mem _ _ _ [blk pb7 (.cells #[(Value.pointer none)] 26), blk b5 (.cells #[(Value.int .i64 0), (Value.int .i64 0), (Value.int .i64 0), (Value.int .i64 0)] 32), blk b3 (.cells #[(Value.int .i64 0), (Value.int .i64 0), (Value.int .i64 0), (Value.int .i64 0)] 32), blk b1 (.cells #[(Value.int .u64 e)] 23)] [] _ := M
  refine WL.nil ?_
  refine W.block ?_
  refine W.range M rfl rfl rfl Try.en124 (fun D10 lp11 w12 LC9 hLC13 _ _ M => ?_)
  replace M := M.sel (L' := [(LC9 LoopState.ready none), blk b1 (.cells #[(Value.int .u64 e)] 23), blk b3 (.cells #[(Value.int .i64 0), (Value.int .i64 0), (Value.int .i64 0), (Value.int .i64 0)] 32), blk b5 (.cells #[(Value.int .i64 0), (Value.int .i64 0), (Value.int .i64 0), (Value.int .i64 0)] 32), blk D10 (.deferred (some [])), blk pb7 (.cells #[(Value.pointer none)] 26)]) [0, 5, 4, 3, 1, 2] rfl (by decide)
  replace M := Mem.packL (Ls := [(LC9 LoopState.ready none), blk b1 (.cells #[(Value.int .u64 e)] 23), blk b3 (.cells #[(Value.int .i64 0), (Value.int .i64 0), (Value.int .i64 0), (Value.int .i64 0)] 32), blk b5 (.cells #[(Value.int .i64 0), (Value.int .i64 0), (Value.int .i64 0), (Value.int .i64 0)] 32)]) (L := [blk D10 (.deferred (some [])), blk pb7 (.cells #[(Value.pointer none)] 26)]) M
  refine Rets.mono (ch_all1n _ pb7 (ι := Unit) (fun (k : Nat) (i : Unit) => packL ([(LC9 LoopState.ready none), blk b1 (.cells #[(Value.int .u64 e)] 23), blk b3 (.cells #[(Value.int .i64 0), (Value.int .i64 0), (Value.int .i64 0), (Value.int .i64 0)] 32), blk b5 (.cells #[(Value.int .i64 0), (Value.int .i64 0), (Value.int .i64 0), (Value.int .i64 0)] 32)])) (fun (_ : Nat) (_ : Unit) => badC) () (fun _ => True) (M.enterW (C := [packL ([(LC9 LoopState.ready none), blk b1 (.cells #[(Value.int .u64 e)] 23), blk b3 (.cells #[(Value.int .i64 0), (Value.int .i64 0), (Value.int .i64 0), (Value.int .i64 0)] 32), blk b5 (.cells #[(Value.int .i64 0), (Value.int .i64 0), (Value.int .i64 0), (Value.int .i64 0)] 32)])]) (D := [blk D10 (.deferred (some [])), blk pb7 (.cells #[(Value.pointer none)] 26)]) [0, 1, 2] rfl (by decide) ⟨(M.wideC (C := [packL ([(LC9 LoopState.ready none), blk b1 (.cells #[(Value.int .u64 e)] 23), blk b3 (.cells #[(Value.int .i64 0), (Value.int .i64 0), (Value.int .i64 0), (Value.int .i64 0)] 32), blk b5 (.cells #[(Value.int .i64 0), (Value.int .i64 0), (Value.int .i64 0), (Value.int .i64 0)] 32)])]) (D := [blk D10 (.deferred (some [])), blk pb7 (.cells #[(Value.pointer none)] 26)]) [0, 1, 2] rfl (by decide) 1 rfl), (Sh.pure fun _ => trivial), trivial⟩)) ?_
  rintro _ w14 (⟨_, m⟩ | ⟨k_, _, x_, hx_, m⟩)
  ·
    replace M := M.leaveW (C := [packL ([(LC9 LoopState.ready none), blk b1 (.cells #[(Value.int .u64 e)] 23), blk b3 (.cells #[(Value.int .i64 0), (Value.int .i64 0), (Value.int .i64 0), (Value.int .i64 0)] 32), blk b5 (.cells #[(Value.int .i64 0), (Value.int .i64 0), (Value.int .i64 0), (Value.int .i64 0)] 32)])]) (D := [blk D10 (.deferred (some [])), blk pb7 (.cells #[(Value.pointer none)] 26)]) [0, 1, 2] rfl (by decide) m
    replace M : Mem _ _ _ [packL ([(LC9 LoopState.ready none), blk b1 (.cells #[(Value.int .u64 e)] 23), blk b3 (.cells #[(Value.int .i64 0), (Value.int .i64 0), (Value.int .i64 0), (Value.int .i64 0)] 32), blk b5 (.cells #[(Value.int .i64 0), (Value.int .i64 0), (Value.int .i64 0), (Value.int .i64 0)] 32)]), blk D10 (.deferred (some [])), blk pb7 (.cells #[(Value.pointer none)] 26)] [] _ := M
    replace M := Mem.unpackL M
    replace M : Mem _ _ _ [(LC9 LoopState.ready none), blk b1 (.cells #[(Value.int .u64 e)] 23), blk b3 (.cells #[(Value.int .i64 0), (Value.int .i64 0), (Value.int .i64 0), (Value.int .i64 0)] 32), blk b5 (.cells #[(Value.int .i64 0), (Value.int .i64 0), (Value.int .i64 0), (Value.int .i64 0)] 32), blk D10 (.deferred (some [])), blk pb7 (.cells #[(Value.pointer none)] 26)] [] _ := M
    obtain ⟨_, hr1, hr2, hr3, M⟩ := M.endLoop' hLC13 0 rfl (by decide)
    refine ⟨_, hr1, hr2, .inl ⟨hr3, ?_⟩⟩
    replace M : Mem _ _ _ [blk b1 (.cells #[(Value.int .u64 e)] 23), blk b3 (.cells #[(Value.int .i64 0), (Value.int .i64 0), (Value.int .i64 0), (Value.int .i64 0)] 32), blk b5 (.cells #[(Value.int .i64 0), (Value.int .i64 0), (Value.int .i64 0), (Value.int .i64 0)] 32), blk D10 (.deferred (some [])), blk pb7 (.cells #[(Value.pointer none)] 26)] [] _ := M
    refine W.seq' ?_
    refine W.drawn M [0, 1, 2, 3, 4, 5] [2, 4] [] [blk b1 (.cells #[(Value.int .u64 e)] 23), blk b5 (.cells #[(Value.int .i64 0), (Value.int .i64 0), (Value.int .i64 0), (Value.int .i64 0)] 32), blk D10 (.deferred (some [])), blk pb7 (.cells #[(Value.pointer none)] 26)] [] (List.Sublist.cons_cons _ (List.Sublist.cons _ (List.Sublist.cons_cons _ (List.Sublist.cons_cons _ (List.Sublist.cons_cons _ List.Sublist.slnil))))) (fun _ h => h) Try.mixed (by kernel_rfl) ?_
    refine TW.read (v := (Value.agg #[(Value.int .i64 0), (Value.int .i64 0), (Value.int .i64 0), (Value.int .i64 0)])) rfl (by decide) (by decide) rfl (fun A w M => (Step.loadN Try.ag32 rfl (M.blk 2 rfl) (Nat.le_of_ble_eq_true rfl) rfl)) ?_
    refine TW.read (v := (Value.agg #[(Value.int .i64 0), (Value.int .i64 0), (Value.int .i64 0), (Value.int .i64 0)])) rfl (by decide) (by decide) rfl (fun A w M => (Step.loadN Try.ag32 rfl (M.blk 2 rfl) (Nat.le_of_ble_eq_true rfl) rfl)) ?_
    refine TW.callX (ι := Unit) (fun jx v_ => v_ = (Value.bool (decide ((⟨0, 0, 0, 0⟩ : Agg5) = aggZ)))) (fun jx => [blk b1 (.cells #[(Value.int .u64 e)] 23), blk b3 (.cells #[(Value.int .i64 0), (Value.int .i64 0), (Value.int .i64 0), (Value.int .i64 0)] 32), blk b5 (.cells #[(Value.int .i64 0), (Value.int .i64 0), (Value.int .i64 0), (Value.int .i64 0)] 32), blk D10 (.deferred (some [])), blk pb7 (.cells #[(Value.pointer none)] 26)]) (fun jx => []) rfl (by decide) rfl (fun jx => (List.Sublist.cons_cons _ (List.Sublist.cons _ (List.Sublist.cons_cons _ (List.Sublist.cons_cons _ (List.Sublist.cons_cons _ List.Sublist.slnil)))))) (fun jx r h => h) (fun A w M => Rets.mono (agg_blank (⟨0, 0, 0, 0⟩ : Agg5) (M.enterW0 trivial)) (fun v_ w_ ⟨e_, m⟩ => ⟨(), e_, (M.leaveW0 m).sel (L' := [fl A, blk b1 (.cells #[(Value.int .u64 e)] 23), blk b3 (.cells #[(Value.int .i64 0), (Value.int .i64 0), (Value.int .i64 0), (Value.int .i64 0)] 32), blk b5 (.cells #[(Value.int .i64 0), (Value.int .i64 0), (Value.int .i64 0), (Value.int .i64 0)] 32), blk D10 (.deferred (some [])), blk pb7 (.cells #[(Value.pointer none)] 26)]) [0, 1, 2, 3, 4, 5] rfl (by decide), fun b hb => M.keptW0 m (fl A) (List.mem_cons_self ..) b hb⟩)) (fun w => CallsF.func Try.en85 rfl) (fun jx v hp hin => ?_)
    replace hp := hp.symm; subst hp
    clear hin
    change TW _ _ _ _ _ _ _ _ (MemA _ _ _ [blk b1 (.cells #[(Value.int .u64 e)] 23), blk b3 (.cells #[(Value.int .i64 0), (Value.int .i64 0), (Value.int .i64 0), (Value.int .i64 0)] 32), blk b5 (.cells #[(Value.int .i64 0), (Value.int .i64 0), (Value.int .i64 0), (Value.int .i64 0)] 32), blk D10 (.deferred (some [])), blk pb7 (.cells #[(Value.pointer none)] 26)] [])
    refine TW.pure (v := (Value.bool (!(decide ((⟨0, 0, 0, 0⟩ : Agg5) = aggZ))))) rfl (by decide) (by decide) rfl (fun w => (Step.pure (by kernel_rfl))) ?_
    refine TW.store (v := (Value.agg #[(Value.int .i64 0), (Value.int .i64 0), (Value.int .i64 0), (Value.int .i64 0)])) (cs := [(Value.int .i64 0), (Value.int .i64 0), (Value.int .i64 0), (Value.int .i64 0)]) (c' := #[(Value.int .i64 0), (Value.int .i64 0), (Value.int .i64 0), (Value.int .i64 0)]) 1 rfl rfl (by decide) rfl Try.el32.sized rfl rfl rfl rfl (Nat.le_of_ble_eq_true rfl) (cel_cons rfl (cel_cons rfl (cel_cons rfl (cel_cons rfl cel_nil)))) rfl rfl (List.Sublist.cons_cons _ (List.Sublist.cons _ (List.Sublist.cons_cons _ (List.Sublist.cons_cons _ (List.Sublist.cons_cons _ List.Sublist.slnil))))) (fun r h => h) ?_
    refine TW.pure (v := (Value.bool (!(decide ((⟨0, 0, 0, 0⟩ : Agg5) = aggZ))))) rfl (by decide) (by decide) rfl (fun w => (Step.assign rfl)) ?_
    refine TW.done (fun w18 M => ?_)
    refine W.ret ?_
    obtain ⟨hD19, M⟩ := M.strike 3 rfl
    replace M : Mem _ _ _ [blk b1 (.cells #[(Value.int .u64 e)] 23), blk b3 (.cells #[(Value.int .i64 0), (Value.int .i64 0), (Value.int .i64 0), (Value.int .i64 0)] 32), blk b5 (.cells #[(Value.int .i64 0), (Value.int .i64 0), (Value.int .i64 0), (Value.int .i64 0)] 32), blk pb7 (.cells #[(Value.pointer none)] 26)] [] _ := M
    refine ⟨.inl rfl, _, (.cons hD19 .nil), (Value.tuple #[(Value.agg #[(Value.int .i64 0), (Value.int .i64 0), (Value.int .i64 0), (Value.int .i64 0)]), (Value.bool (!(decide ((⟨0, 0, 0, 0⟩ : Agg5) = aggZ))))]), ?_, ?_⟩
    · exact (Res.r2 (RV.cellN Try.ag32 rfl (M.blk 1 rfl) rfl) (show RV _ _ _ (.tmp 5) (Value.bool (!(decide ((⟨0, 0, 0, 0⟩ : Agg5) = aggZ)))) from by exact rfl))
    refine ⟨?_, M.close [] rfl (by decide) trivial⟩
    rfl
  ·
    exact absurd hx_ (by simp)

theorem chn_next {G : Nat → Prop} {w : World} (e : Int)   (M : Mem G (fun _ => False) w [] [] w) : Rets Try.prog 26 #[(Value.pointer none), (Value.int .u64 e)] w fun r w' => r = (Value.tuple #[(Value.agg #[(Value.int .u64 0), (Value.bool false), (Value.int .i64 0), (Value.int .i64 0), (Value.int .i64 0), (Value.int .i64 0)]), (Value.bool false)]) ∧ Mem G (fun _ => False) w [] [] w' := by
  refine Rets.enterD 18 _ Try.func26 rfl Try.ntmps26 Try.results26 (by simp) ?_
  refine W.seq' ?_
  refine W.region rfl ?_
  refine WL.box (v := (Value.int .u64 e)) (c := #[(Value.int .u64 e)]) M rfl rfl rfl (fun b1 w2 hb1 M => ?_)
  refine WL.alloc (c := #[(Value.int .u64 0), (Value.bool false), (Value.int .i64 0), (Value.int .i64 0), (Value.int .i64 0), (Value.int .i64 0)]) M rfl Try.el34.zero rfl (fun b3 w4 hb3 M => ?_)
  refine WL.alloc (c := #[(Value.bool false)]) M rfl Try.el4.zero rfl (fun b5 w6 hb5 M => ?_)
  refine WL.nil ?_
  refine W.seq' ?_
  refine W.seq' ?_
  refine W.region rfl ?_
  refine WL.step (v := (Value.pointer none)) rfl (Step.move rfl) ?_
  refine WL.callX rfl (ch_alln  (M.enterW0 trivial)) (CallsF.func Try.en81 rfl) ?_
  rintro _ w8 ⟨pb7, rfl, m⟩
  replace M := M.leaveW0 m
  clear m
  replace M : Mem _ _ _ [blk pb7 (.cells #[(Value.pointer none)] 26), blk b5 (.cells #[(Value.bool false)] 4), blk b3 (.cells #[(Value.int .u64 0), (Value.bool false), (Value.int .i64 0), (Value.int .i64 0), (Value.int .i64 0), (Value.int .i64 0)] 34), blk b1 (.cells #[(Value.int .u64 e)] 23)] [] _ := M
  refine WL.nil ?_
  refine W.block ?_
  refine W.range M rfl rfl rfl Try.en124 (fun D10 lp11 w12 LC9 hLC13 _ _ M => ?_)
  replace M := M.sel (L' := [(LC9 LoopState.ready none), blk b1 (.cells #[(Value.int .u64 e)] 23), blk b3 (.cells #[(Value.int .u64 0), (Value.bool false), (Value.int .i64 0), (Value.int .i64 0), (Value.int .i64 0), (Value.int .i64 0)] 34), blk b5 (.cells #[(Value.bool false)] 4), blk D10 (.deferred (some [])), blk pb7 (.cells #[(Value.pointer none)] 26)]) [0, 5, 4, 3, 1, 2] rfl (by decide)
  replace M := Mem.packL (Ls := [(LC9 LoopState.ready none), blk b1 (.cells #[(Value.int .u64 e)] 23), blk b3 (.cells #[(Value.int .u64 0), (Value.bool false), (Value.int .i64 0), (Value.int .i64 0), (Value.int .i64 0), (Value.int .i64 0)] 34), blk b5 (.cells #[(Value.bool false)] 4)]) (L := [blk D10 (.deferred (some [])), blk pb7 (.cells #[(Value.pointer none)] 26)]) M
  refine Rets.mono (ch_all1n _ pb7 (ι := Unit) (fun (k : Nat) (i : Unit) => packL ([(LC9 LoopState.ready none), blk b1 (.cells #[(Value.int .u64 e)] 23), blk b3 (.cells #[(Value.int .u64 0), (Value.bool false), (Value.int .i64 0), (Value.int .i64 0), (Value.int .i64 0), (Value.int .i64 0)] 34), blk b5 (.cells #[(Value.bool false)] 4)])) (fun (_ : Nat) (_ : Unit) => badC) () (fun _ => True) (M.enterW (C := [packL ([(LC9 LoopState.ready none), blk b1 (.cells #[(Value.int .u64 e)] 23), blk b3 (.cells #[(Value.int .u64 0), (Value.bool false), (Value.int .i64 0), (Value.int .i64 0), (Value.int .i64 0), (Value.int .i64 0)] 34), blk b5 (.cells #[(Value.bool false)] 4)])]) (D := [blk D10 (.deferred (some [])), blk pb7 (.cells #[(Value.pointer none)] 26)]) [0, 1, 2] rfl (by decide) ⟨(M.wideC (C := [packL ([(LC9 LoopState.ready none), blk b1 (.cells #[(Value.int .u64 e)] 23), blk b3 (.cells #[(Value.int .u64 0), (Value.bool false), (Value.int .i64 0), (Value.int .i64 0), (Value.int .i64 0), (Value.int .i64 0)] 34), blk b5 (.cells #[(Value.bool false)] 4)])]) (D := [blk D10 (.deferred (some [])), blk pb7 (.cells #[(Value.pointer none)] 26)]) [0, 1, 2] rfl (by decide) 1 rfl), (Sh.pure fun _ => trivial), trivial⟩)) ?_
  rintro _ w14 (⟨_, m⟩ | ⟨k_, _, x_, hx_, m⟩)
  ·
    replace M := M.leaveW (C := [packL ([(LC9 LoopState.ready none), blk b1 (.cells #[(Value.int .u64 e)] 23), blk b3 (.cells #[(Value.int .u64 0), (Value.bool false), (Value.int .i64 0), (Value.int .i64 0), (Value.int .i64 0), (Value.int .i64 0)] 34), blk b5 (.cells #[(Value.bool false)] 4)])]) (D := [blk D10 (.deferred (some [])), blk pb7 (.cells #[(Value.pointer none)] 26)]) [0, 1, 2] rfl (by decide) m
    replace M : Mem _ _ _ [packL ([(LC9 LoopState.ready none), blk b1 (.cells #[(Value.int .u64 e)] 23), blk b3 (.cells #[(Value.int .u64 0), (Value.bool false), (Value.int .i64 0), (Value.int .i64 0), (Value.int .i64 0), (Value.int .i64 0)] 34), blk b5 (.cells #[(Value.bool false)] 4)]), blk D10 (.deferred (some [])), blk pb7 (.cells #[(Value.pointer none)] 26)] [] _ := M
    replace M := Mem.unpackL M
    replace M : Mem _ _ _ [(LC9 LoopState.ready none), blk b1 (.cells #[(Value.int .u64 e)] 23), blk b3 (.cells #[(Value.int .u64 0), (Value.bool false), (Value.int .i64 0), (Value.int .i64 0), (Value.int .i64 0), (Value.int .i64 0)] 34), blk b5 (.cells #[(Value.bool false)] 4), blk D10 (.deferred (some [])), blk pb7 (.cells #[(Value.pointer none)] 26)] [] _ := M
    obtain ⟨_, hr1, hr2, hr3, M⟩ := M.endLoop' hLC13 0 rfl (by decide)
    refine ⟨_, hr1, hr2, .inl ⟨hr3, ?_⟩⟩
    replace M : Mem _ _ _ [blk b1 (.cells #[(Value.int .u64 e)] 23), blk b3 (.cells #[(Value.int .u64 0), (Value.bool false), (Value.int .i64 0), (Value.int .i64 0), (Value.int .i64 0), (Value.int .i64 0)] 34), blk b5 (.cells #[(Value.bool false)] 4), blk D10 (.deferred (some [])), blk pb7 (.cells #[(Value.pointer none)] 26)] [] _ := M
    refine W.seq' ?_
    refine W.region rfl ?_
    refine WL.step (v := (Value.agg #[(Value.int .u64 0), (Value.bool false), (Value.int .i64 0), (Value.int .i64 0), (Value.int .i64 0), (Value.int .i64 0)])) rfl (Step.pure (by kernel_rfl)) ?_
    refine WL.store (v := (Value.agg #[(Value.int .u64 0), (Value.bool false), (Value.int .i64 0), (Value.int .i64 0), (Value.int .i64 0), (Value.int .i64 0)])) (cs := [(Value.int .u64 0), (Value.bool false), (Value.int .i64 0), (Value.int .i64 0), (Value.int .i64 0), (Value.int .i64 0)]) (c' := #[(Value.int .u64 0), (Value.bool false), (Value.int .i64 0), (Value.int .i64 0), (Value.int .i64 0), (Value.int .i64 0)]) M 1 rfl rfl Try.el34.sized rfl rfl rfl rfl (Nat.le_of_ble_eq_true rfl) (cel_cons rfl (cel_cons rfl (cel_cons rfl (cel_cons rfl (cel_cons rfl (cel_cons rfl cel_nil)))))) rfl rfl (fun w16 M => ?_)
    refine WL.store (v := (Value.bool false)) (cs := [(Value.bool false)]) (c' := #[(Value.bool false)]) M 2 rfl rfl Try.el4.sized rfl rfl rfl rfl (Nat.le_of_ble_eq_true rfl) (cel_cons rfl cel_nil) rfl rfl (fun w17 M => ?_)
    refine WL.nil ?_
    refine W.ret ?_
    obtain ⟨hD18, M⟩ := M.strike 3 rfl
    replace M : Mem _ _ _ [blk b1 (.cells #[(Value.int .u64 e)] 23), blk b3 (.cells #[(Value.int .u64 0), (Value.bool false), (Value.int .i64 0), (Value.int .i64 0), (Value.int .i64 0), (Value.int .i64 0)] 34), blk b5 (.cells #[(Value.bool false)] 4), blk pb7 (.cells #[(Value.pointer none)] 26)] [] _ := M
    refine ⟨.inl rfl, _, (.cons hD18 .nil), (Value.tuple #[(Value.agg #[(Value.int .u64 0), (Value.bool false), (Value.int .i64 0), (Value.int .i64 0), (Value.int .i64 0), (Value.int .i64 0)]), (Value.bool false)]), ?_, ?_⟩
    · exact (Res.r2 (RV.cellN Try.ag34 rfl (M.blk 1 rfl) rfl) (RV.cell1 Try.sc4 rfl (M.blk 2 rfl)))
    refine ⟨?_, M.close [] rfl (by decide) trivial⟩
    rfl
  ·
    exact absurd hx_ (by simp)

theorem chn_garb {G : Nat → Prop} {w : World} (e : Int) (f : Int)   (M : Mem G (fun _ => False) w [] [] w) : Rets Try.prog 18 #[(Value.pointer none), (Value.int .u64 e), (Value.int .u64 f)] w fun r w' => r = (Value.bool false) ∧ Mem G (fun _ => False) w [] [] w' := by
  refine Rets.enterD 22 _ Try.func18 rfl Try.ntmps18 Try.results18 (by simp) ?_
  refine W.seq' ?_
  refine W.region rfl ?_
  refine WL.box (v := (Value.pointer none)) (c := #[(Value.pointer none)]) M rfl rfl rfl (fun b1 w2 hb1 M => ?_)
  refine WL.box (v := (Value.int .u64 e)) (c := #[(Value.int .u64 e)]) M rfl rfl rfl (fun b3 w4 hb3 M => ?_)
  refine WL.box (v := (Value.int .u64 f)) (c := #[(Value.int .u64 f)]) M rfl rfl rfl (fun b5 w6 hb5 M => ?_)
  refine WL.alloc (c := #[(Value.bool false)]) M rfl Try.el4.zero rfl (fun b7 w8 hb7 M => ?_)
  refine WL.nil ?_
  refine W.seq' ?_
  refine W.seq' ?_
  refine W.region rfl ?_
  refine WL.step (v := (Value.pointer none)) rfl (Step.load1 Try.sc26 rfl ((M.cell 3 rfl 0).trans rfl)) ?_
  refine WL.callX rfl (ch_alln  (M.enterW0 trivial)) (CallsF.func Try.en81 rfl) ?_
  rintro _ w10 ⟨pb9, rfl, m⟩
  replace M := M.leaveW0 m
  clear m
  replace M : Mem _ _ _ [blk pb9 (.cells #[(Value.pointer none)] 26), blk b7 (.cells #[(Value.bool false)] 4), blk b5 (.cells #[(Value.int .u64 f)] 23), blk b3 (.cells #[(Value.int .u64 e)] 23), blk b1 (.cells #[(Value.pointer none)] 26)] [] _ := M
  refine WL.nil ?_
  refine W.block ?_
  refine W.range M rfl rfl rfl Try.en124 (fun D12 lp13 w14 LC11 hLC15 _ _ M => ?_)
  replace M := M.sel (L' := [(LC11 LoopState.ready none), blk b1 (.cells #[(Value.pointer none)] 26), blk b3 (.cells #[(Value.int .u64 e)] 23), blk b5 (.cells #[(Value.int .u64 f)] 23), blk b7 (.cells #[(Value.bool false)] 4), blk D12 (.deferred (some [])), blk pb9 (.cells #[(Value.pointer none)] 26)]) [0, 6, 5, 4, 3, 1, 2] rfl (by decide)
  replace M := Mem.packL (Ls := [(LC11 LoopState.ready none), blk b1 (.cells #[(Value.pointer none)] 26), blk b3 (.cells #[(Value.int .u64 e)] 23), blk b5 (.cells #[(Value.int .u64 f)] 23), blk b7 (.cells #[(Value.bool false)] 4)]) (L := [blk D12 (.deferred (some [])), blk pb9 (.cells #[(Value.pointer none)] 26)]) M
  refine Rets.mono (ch_all1n _ pb9 (ι := Unit) (fun (k : Nat) (i : Unit) => packL ([(LC11 LoopState.ready none), blk b1 (.cells #[(Value.pointer none)] 26), blk b3 (.cells #[(Value.int .u64 e)] 23), blk b5 (.cells #[(Value.int .u64 f)] 23), blk b7 (.cells #[(Value.bool false)] 4)])) (fun (_ : Nat) (_ : Unit) => badC) () (fun _ => True) (M.enterW (C := [packL ([(LC11 LoopState.ready none), blk b1 (.cells #[(Value.pointer none)] 26), blk b3 (.cells #[(Value.int .u64 e)] 23), blk b5 (.cells #[(Value.int .u64 f)] 23), blk b7 (.cells #[(Value.bool false)] 4)])]) (D := [blk D12 (.deferred (some [])), blk pb9 (.cells #[(Value.pointer none)] 26)]) [0, 1, 2] rfl (by decide) ⟨(M.wideC (C := [packL ([(LC11 LoopState.ready none), blk b1 (.cells #[(Value.pointer none)] 26), blk b3 (.cells #[(Value.int .u64 e)] 23), blk b5 (.cells #[(Value.int .u64 f)] 23), blk b7 (.cells #[(Value.bool false)] 4)])]) (D := [blk D12 (.deferred (some [])), blk pb9 (.cells #[(Value.pointer none)] 26)]) [0, 1, 2] rfl (by decide) 1 rfl), (Sh.pure fun _ => trivial), trivial⟩)) ?_
  rintro _ w16 (⟨_, m⟩ | ⟨k_, _, x_, hx_, m⟩)
  ·
    replace M := M.leaveW (C := [packL ([(LC11 LoopState.ready none), blk b1 (.cells #[(Value.pointer none)] 26), blk b3 (.cells #[(Value.int .u64 e)] 23), blk b5 (.cells #[(Value.int .u64 f)] 23), blk b7 (.cells #[(Value.bool false)] 4)])]) (D := [blk D12 (.deferred (some [])), blk pb9 (.cells #[(Value.pointer none)] 26)]) [0, 1, 2] rfl (by decide) m
    replace M : Mem _ _ _ [packL ([(LC11 LoopState.ready none), blk b1 (.cells #[(Value.pointer none)] 26), blk b3 (.cells #[(Value.int .u64 e)] 23), blk b5 (.cells #[(Value.int .u64 f)] 23), blk b7 (.cells #[(Value.bool false)] 4)]), blk D12 (.deferred (some [])), blk pb9 (.cells #[(Value.pointer none)] 26)] [] _ := M
    replace M := Mem.unpackL M
    replace M : Mem _ _ _ [(LC11 LoopState.ready none), blk b1 (.cells #[(Value.pointer none)] 26), blk b3 (.cells #[(Value.int .u64 e)] 23), blk b5 (.cells #[(Value.int .u64 f)] 23), blk b7 (.cells #[(Value.bool false)] 4), blk D12 (.deferred (some [])), blk pb9 (.cells #[(Value.pointer none)] 26)] [] _ := M
    obtain ⟨_, hr1, hr2, hr3, M⟩ := M.endLoop' hLC15 0 rfl (by decide)
    refine ⟨_, hr1, hr2, .inl ⟨hr3, ?_⟩⟩
    replace M : Mem _ _ _ [blk b1 (.cells #[(Value.pointer none)] 26), blk b3 (.cells #[(Value.int .u64 e)] 23), blk b5 (.cells #[(Value.int .u64 f)] 23), blk b7 (.cells #[(Value.bool false)] 4), blk D12 (.deferred (some [])), blk pb9 (.cells #[(Value.pointer none)] 26)] [] _ := M
    refine W.seq' ?_
    refine W.region rfl ?_
    refine WL.store (v := (Value.bool false)) (cs := [(Value.bool false)]) (c' := #[(Value.bool false)]) M 3 rfl rfl Try.el4.sized rfl rfl rfl rfl (Nat.le_of_ble_eq_true rfl) (cel_cons rfl cel_nil) rfl rfl (fun w18 M => ?_)
    refine WL.nil ?_
    refine W.ret ?_
    obtain ⟨hD19, M⟩ := M.strike 4 rfl
    replace M : Mem _ _ _ [blk b1 (.cells #[(Value.pointer none)] 26), blk b3 (.cells #[(Value.int .u64 e)] 23), blk b5 (.cells #[(Value.int .u64 f)] 23), blk b7 (.cells #[(Value.bool false)] 4), blk pb9 (.cells #[(Value.pointer none)] 26)] [] _ := M
    refine ⟨.inl rfl, _, (.cons hD19 .nil), (Value.bool false), ?_, ?_⟩
    · exact (Res.r1 (RV.cell1 Try.sc4 rfl (M.blk 3 rfl)))
    refine ⟨?_, M.close [] rfl (by decide) trivial⟩
    rfl
  ·
    exact absurd hx_ (by simp)

theorem chn_versions {G : Nat → Prop} {w : World}    (M : Mem G (fun _ => False) w [] [] w) : Rets Try.prog 20 #[(Value.pointer none)] w fun r w' => ∃ (v' : Value), r = v' ∧ Mem G (fun _ => False) w [own 34 6 v' (([] : List Ver).length) (([] : List Ver).flatMap verE)] [] w' := by
  refine Rets.enterD 14 _ Try.func20 rfl Try.ntmps20 Try.results20 (by simp) ?_
  refine W.seq' ?_
  refine W.region rfl ?_
  refine WL.alloc (c := #[(Value.slice none 0 0)]) M rfl Try.el22.zero rfl (fun b1 w2 hb1 M => ?_)
  refine WL.nil ?_
  refine W.seq' ?_
  refine W.seq' ?_
  refine W.region rfl ?_
  refine WL.step (v := (Value.pointer none)) rfl (Step.move rfl) ?_
  refine WL.callX rfl (ch_alln  (M.enterW0 trivial)) (CallsF.func Try.en81 rfl) ?_
  rintro _ w4 ⟨pb3, rfl, m⟩
  replace M := M.leaveW0 m
  clear m
  replace M : Mem _ _ _ [blk pb3 (.cells #[(Value.pointer none)] 26), blk b1 (.cells #[(Value.slice none 0 0)] 22)] [] _ := M
  refine WL.nil ?_
  refine W.block ?_
  refine W.range M rfl rfl rfl Try.en124 (fun D6 lp7 w8 LC5 hLC9 _ _ M => ?_)
  replace M := M.sel (L' := [(LC5 LoopState.ready none), blk b1 (.cells #[(Value.slice none 0 0)] 22), blk D6 (.deferred (some [])), blk pb3 (.cells #[(Value.pointer none)] 26)]) [0, 3, 1, 2] rfl (by decide)
  replace M := Mem.packL (Ls := [(LC5 LoopState.ready none), blk b1 (.cells #[(Value.slice none 0 0)] 22)]) (L := [blk D6 (.deferred (some [])), blk pb3 (.cells #[(Value.pointer none)] 26)]) M
  refine Rets.mono (ch_all1n _ pb3 (ι := Unit) (fun (k : Nat) (i : Unit) => packL ([(LC5 LoopState.ready none), blk b1 (.cells #[(Value.slice none 0 0)] 22)])) (fun (_ : Nat) (_ : Unit) => badC) () (fun _ => True) (M.enterW (C := [packL ([(LC5 LoopState.ready none), blk b1 (.cells #[(Value.slice none 0 0)] 22)])]) (D := [blk D6 (.deferred (some [])), blk pb3 (.cells #[(Value.pointer none)] 26)]) [0, 1, 2] rfl (by decide) ⟨(M.wideC (C := [packL ([(LC5 LoopState.ready none), blk b1 (.cells #[(Value.slice none 0 0)] 22)])]) (D := [blk D6 (.deferred (some [])), blk pb3 (.cells #[(Value.pointer none)] 26)]) [0, 1, 2] rfl (by decide) 1 rfl), (Sh.pure fun _ => trivial), trivial⟩)) ?_
  rintro _ w10 (⟨_, m⟩ | ⟨k_, _, x_, hx_, m⟩)
  ·
    replace M := M.leaveW (C := [packL ([(LC5 LoopState.ready none), blk b1 (.cells #[(Value.slice none 0 0)] 22)])]) (D := [blk D6 (.deferred (some [])), blk pb3 (.cells #[(Value.pointer none)] 26)]) [0, 1, 2] rfl (by decide) m
    replace M : Mem _ _ _ [packL ([(LC5 LoopState.ready none), blk b1 (.cells #[(Value.slice none 0 0)] 22)]), blk D6 (.deferred (some [])), blk pb3 (.cells #[(Value.pointer none)] 26)] [] _ := M
    replace M := Mem.unpackL M
    replace M : Mem _ _ _ [(LC5 LoopState.ready none), blk b1 (.cells #[(Value.slice none 0 0)] 22), blk D6 (.deferred (some [])), blk pb3 (.cells #[(Value.pointer none)] 26)] [] _ := M
    obtain ⟨_, hr1, hr2, hr3, M⟩ := M.endLoop' hLC9 0 rfl (by decide)
    refine ⟨_, hr1, hr2, .inl ⟨hr3, ?_⟩⟩
    replace M : Mem _ _ _ [blk b1 (.cells #[(Value.slice none 0 0)] 22), blk D6 (.deferred (some [])), blk pb3 (.cells #[(Value.pointer none)] 26)] [] _ := M
    refine W.seq' ?_
    refine W.region rfl ?_
    refine WL.step (v := (Value.slice none 0 0)) rfl (Step.load1 Try.sc22 rfl ((M.cell 0 rfl 0).trans rfl)) ?_
    refine WL.store (v := (Value.slice none 0 0)) (cs := [(Value.slice none 0 0)]) (c' := #[(Value.slice none 0 0)]) M 0 rfl rfl Try.el22.sized rfl rfl rfl rfl (Nat.le_of_ble_eq_true rfl) (cel_cons rfl cel_nil) rfl rfl (fun w12 M => ?_)
    refine WL.nil ?_
    refine W.ret ?_
    obtain ⟨hD13, M⟩ := M.strike 1 rfl
    replace M : Mem _ _ _ [blk b1 (.cells #[(Value.slice none 0 0)] 22), blk pb3 (.cells #[(Value.pointer none)] 26)] [] _ := M
    refine ⟨.inl rfl, _, (.cons hD13 .nil), (Value.slice none 0 0), ?_, ?_⟩
    · exact (Res.r1 (RV.cell1 Try.sc22 rfl (M.blk 0 rfl)))
    replace M := M.ownNil 34 6
    have e14 : ([] : List Ver) = [] := by
      rfl
    replace M : Mem _ _ _ [own 34 6 (Value.slice none 0 0) (([] : List Ver).length) (([] : List Ver).flatMap verE), blk b1 (.cells #[(Value.slice none 0 0)] 22), blk pb3 (.cells #[(Value.pointer none)] 26)] [] _ := M
    replace M := M.rechunk 0 (c' := own 34 6 (Value.slice none 0 0) (([] : List Ver).length) (([] : List Ver).flatMap verE)) rfl (by rw [e14])
    replace M : Mem _ _ _ [own 34 6 (Value.slice none 0 0) (([] : List Ver).length) (([] : List Ver).flatMap verE), blk b1 (.cells #[(Value.slice none 0 0)] 22), blk pb3 (.cells #[(Value.pointer none)] 26)] [] _ := M
    refine ⟨(Value.slice none 0 0), ?_, M.close [0] rfl (by decide) trivial⟩
    rfl
  ·
    exact absurd hx_ (by simp)

theorem chn_len {G : Nat → Prop} {w : World}    (M : Mem G (fun _ => False) w [] [] w) : Rets Try.prog 32 #[(Value.pointer none)] w fun r w' => r = (Value.int .i64 0) ∧ Mem G (fun _ => False) w [] [] w' := by
  refine Rets.enter 6 _ Try.func32 rfl Try.ntmps32 Try.results32 (by simp) ?_
  refine W.seq' ?_
  refine W.region rfl ?_
  refine WL.step (v := (Value.int .i64 0)) rfl (Step.assign rfl) ?_
  refine WL.nil ?_
  refine W.seq' ?_
  refine W.region rfl ?_
  refine WL.step (v := (Value.pointer none)) rfl (Step.move rfl) ?_
  refine WL.callX rfl (chn_versions  (M.enterW0 trivial)) (CallsF.func Try.en20 rfl) ?_
  rintro v1 w2 ⟨_, rfl, m⟩
  replace M := M.leaveW0 m
  clear m
  replace M : Mem _ _ _ [own 34 6 v1 (([] : List Ver).length) (([] : List Ver).flatMap verE)] [] _ := M
  have sl3 : IsSl v1 := SlAt.isSl (own_slAt (Mem.chunk M 0 rfl).inv)
  have hle4 := SlAt.le' (own_slAt (Mem.chunk M 0 rfl).inv)
  refine WL.step (v := (Value.int .i64 (↑(([] : List Ver).length)))) rfl (Step.lenSl Try.un22 rfl (own_slAt (M.chunk 0 rfl).inv)) ?_
  refine WL.step (v := (Value.int .i64 (↑(([] : List Ver).length)))) rfl (Step.assign rfl) ?_
  refine WL.nil ?_
  refine W.ret ?_
  refine ⟨.inl rfl, (Value.int .i64 (↑(([] : List Ver).length))), ?_, ?_⟩
  · exact ⟨rfl, (Res.r1 (show RV _ _ _ (.tmp 2) (Value.int .i64 (↑(([] : List Ver).length))) from by exact rfl))⟩
  refine ⟨?_, M.close [] rfl (by decide) trivial⟩
  rfl

theorem chn_differs {G : Nat → Prop} {w : World} (a : Int) (b : Int)   (M : Mem G (fun _ => False) w [] [] w) : Rets Try.prog 29 #[(Value.pointer none), (Value.int .u64 a), (Value.int .u64 b)] w fun r w' => r = (Value.bool false) ∧ Mem G (fun _ => False) w [] [] w' := by
  refine Rets.enter 26 _ Try.func29 rfl Try.ntmps29 Try.results29 (by simp) ?_
  refine W.seq' ?_
  refine W.region rfl ?_
  refine WL.step (v := (Value.bool false)) rfl (Step.assign rfl) ?_
  refine WL.nil ?_
  refine W.seq' ?_
  refine W.region rfl ?_
  refine WL.step (v := (Value.pointer none)) rfl (Step.move rfl) ?_
  refine WL.step (v := (Value.int .u64 a)) rfl (Step.move rfl) ?_
  refine WL.callX rfl (chn_at a (M.enterW0 trivial)) (CallsF.func Try.en21 rfl) ?_
  rintro _ w1 ⟨rfl, m⟩
  replace M := M.leaveW0 m
  clear m
  replace M : Mem _ _ _ [] [] _ := M
  refine WL.step (v := (Value.tuple #[(Value.agg #[(Value.int .i64 0), (Value.int .i64 0), (Value.int .i64 0), (Value.int .i64 0)]), (Value.bool false)])) rfl (Step.move rfl) ?_
  refine WL.step (v := (Value.agg #[(Value.int .i64 0), (Value.int .i64 0), (Value.int .i64 0), (Value.int .i64 0)])) rfl (Step.pure (by kernel_rfl)) ?_
  refine WL.step (v := (Value.bool false)) rfl (Step.pure (by kernel_rfl)) ?_
  refine WL.alloc (c := #[(Value.int .i64 0), (Value.int .i64 0), (Value.int .i64 0), (Value.int .i64 0)]) M rfl Try.el32.zero rfl (fun b2 w3 hb2 M => ?_)
  refine WL.store (v := (Value.agg #[(Value.int .i64 0), (Value.int .i64 0), (Value.int .i64 0), (Value.int .i64 0)])) (cs := [(Value.int .i64 0), (Value.int .i64 0), (Value.int .i64 0), (Value.int .i64 0)]) (c' := #[(Value.int .i64 0), (Value.int .i64 0), (Value.int .i64 0), (Value.int .i64 0)]) M 0 rfl rfl Try.el32.sized rfl rfl rfl rfl (Nat.le_of_ble_eq_true rfl) (cel_cons rfl (cel_cons rfl (cel_cons rfl (cel_cons rfl cel_nil)))) rfl rfl (fun w4 M => ?_)
  refine WL.step (v := (Value.bool false)) rfl (Step.assign rfl) ?_
  refine WL.nil ?_
  refine W.seq' ?_
  refine W.region rfl ?_
  refine WL.step (v := (Value.pointer none)) rfl (Step.move rfl) ?_
  refine WL.step (v := (Value.int .u64 b)) rfl (Step.move rfl) ?_
  refine WL.callX rfl (chn_at b (M.enterW0 trivial)) (CallsF.func Try.en21 rfl) ?_
  rintro _ w5 ⟨rfl, m⟩
  replace M := M.leaveW0 m
  clear m
  replace M : Mem _ _ _ [blk b2 (.cells #[(Value.int .i64 0), (Value.int .i64 0), (Value.int .i64 0), (Value.int .i64 0)] 32)] [] _ := M
  refine WL.step (v := (Value.tuple #[(Value.agg #[(Value.int .i64 0), (Value.int .i64 0), (Value.int .i64 0), (Value.int .i64 0)]), (Value.bool false)])) rfl (Step.move rfl) ?_
  refine WL.step (v := (Value.agg #[(Value.int .i64 0), (Value.int .i64 0), (Value.int .i64 0), (Value.int .i64 0)])) rfl (Step.pure (by kernel_rfl)) ?_
  refine WL.step (v := (Value.bool false)) rfl (Step.pure (by kernel_rfl)) ?_
  refine WL.alloc (c := #[(Value.int .i64 0), (Value.int .i64 0), (Value.int .i64 0), (Value.int .i64 0)]) M rfl Try.el32.zero rfl (fun b6 w7 hb6 M => ?_)
  refine WL.store (v := (Value.agg #[(Value.int .i64 0), (Value.int .i64 0), (Value.int .i64 0), (Value.int .i64 0)])) (cs := [(Value.int .i64 0), (Value.int .i64 0), (Value.int .i64 0), (Value.int .i64 0)]) (c' := #[(Value.int .i64 0), (Value.int .i64 0), (Value.int .i64 0), (Value.int .i64 0)]) M 0 rfl rfl Try.el32.sized rfl rfl rfl rfl (Nat.le_of_ble_eq_true rfl) (cel_cons rfl (cel_cons rfl (cel_cons rfl (cel_cons rfl cel_nil)))) rfl rfl (fun w8 M => ?_)
  refine WL.step (v := (Value.bool false)) rfl (Step.assign rfl) ?_
  refine WL.nil ?_
  refine W.seq' ?_
  refine W.region rfl ?_
  refine WL.step (v := (Value.agg #[(Value.int .i64 0), (Value.int .i64 0), (Value.int .i64 0), (Value.int .i64 0)])) rfl (Step.loadN Try.ag32 rfl (M.blk 1 rfl) (Nat.le_of_ble_eq_true rfl) rfl) ?_
  refine WL.step (v := (Value.agg #[(Value.int .i64 0), (Value.int .i64 0), (Value.int .i64 0), (Value.int .i64 0)])) rfl (Step.loadN Try.ag32 rfl (M.blk 0 rfl) (Nat.le_of_ble_eq_true rfl) rfl) ?_
  refine WL.step (v := (Value.bool false)) rfl (Step.cast (congrArg Value.bool (show (!(((0 : Int) == (0 : Int)) && (((0 : Int) == (0 : Int)) && (((0 : Int) == (0 : Int)) && (((0 : Int) == (0 : Int)) && true))))) = false by rw [agg_eqB (⟨0, 0, 0, 0⟩ : Agg5) (⟨0, 0, 0, 0⟩ : Agg5)]; simp)) (Step.neqAgg Try.eg32 rfl rfl rfl (Try.eq32 9998 (0 : Int) (0 : Int) (0 : Int) (0 : Int) (0 : Int) (0 : Int) (0 : Int) (0 : Int)))) ?_
  refine WL.step (v := (Value.bool false)) rfl (Step.assign rfl) ?_
  refine WL.nil ?_
  refine W.ret ?_
  refine ⟨.inl rfl, (Value.bool false), ?_, ?_⟩
  · exact ⟨rfl, (Res.r1 (show RV _ _ _ (.tmp 6) (Value.bool false) from by exact rfl))⟩
  refine ⟨?_, M.close [] rfl (by decide) trivial⟩
  rfl

theorem chn_drop {G : Nat → Prop} {w : World} (e : Int) (f : Int)   (M : Mem G (fun _ => False) w [] [] w) : Rets Try.prog 35 #[(Value.pointer none), (Value.int .u64 e), (Value.int .u64 f)] w fun r w' => r = (Value.bool false) ∧ Mem G (fun _ => False) w [] [] w' := by
  refine Rets.enter 21 _ Try.func35 rfl Try.ntmps35 Try.results35 (by simp) ?_
  refine W.seq' ?_
  refine W.region rfl ?_
  refine WL.box (v := (Value.int .u64 e)) (c := #[(Value.int .u64 e)]) M rfl rfl rfl (fun b1 w2 hb1 M => ?_)
  refine WL.step (v := (Value.bool false)) rfl (Step.assign rfl) ?_
  refine WL.nil ?_
  refine W.seq' ?_
  refine W.seq' ?_
  refine W.region rfl ?_
  refine WL.step (v := (Value.pointer none)) rfl (Step.move rfl) ?_
  refine WL.step (v := (Value.int .u64 e)) rfl (Step.load1 Try.sc23 rfl ((M.cell 0 rfl 0).trans rfl)) ?_
  refine WL.step (v := (Value.int .u64 f)) rfl (Step.move rfl) ?_
  refine WL.callX rfl (chn_garb e f (M.enterW0 trivial)) (CallsF.func Try.en18 rfl) ?_
  rintro _ w3 ⟨rfl, m⟩
  replace M := M.leaveW0 m
  clear m
  replace M : Mem _ _ _ [blk b1 (.cells #[(Value.int .u64 e)] 23)] [] _ := M
  refine WL.step (v := (Value.bool true)) rfl (Step.pure (by kernel_rfl)) ?_
  refine WL.nil ?_
  refine W.cond (t := true) rfl (fun _ => ?_) (fun h => by cases h)
  refine W.seq' ?_
  refine W.region rfl ?_
  refine WL.step (v := (Value.bool false)) rfl (Step.assign rfl) ?_
  refine WL.nil ?_
  refine W.ret ?_
  refine ⟨.inl rfl, (Value.bool false), ?_, ?_⟩
  · exact ⟨rfl, (Res.r1 (show RV _ _ _ (.tmp 6) (Value.bool false) from by exact rfl))⟩
  refine ⟨?_, M.close [] rfl (by decide) trivial⟩
  rfl

theorem chn_trim {G : Nat → Prop} {w : World} (f : Int)   (M : Mem G (fun _ => False) w [] [] w) : Rets Try.prog 19 #[(Value.pointer none), (Value.int .u64 f)] w fun r w' => r = (Value.int .i64 0) ∧ Mem G (fun _ => False) w [] [] w' := by
  refine Rets.enter 35 _ Try.func19 rfl Try.ntmps19 Try.results19 (by simp) ?_
  refine W.seq' ?_
  refine W.region rfl ?_
  refine WL.step (v := (Value.int .i64 0)) rfl (Step.assign rfl) ?_
  refine WL.nil ?_
  refine W.seq' ?_
  refine W.seq' ?_
  refine W.region rfl ?_
  refine WL.step (v := (Value.pointer none)) rfl (Step.move rfl) ?_
  refine WL.step (v := (Value.bool true)) rfl (Step.pure (by kernel_rfl)) ?_
  refine WL.nil ?_
  refine W.cond (t := true) rfl (fun _ => ?_) (fun h => by cases h)
  refine W.seq' ?_
  refine W.region rfl ?_
  refine WL.step (v := (Value.int .i64 0)) rfl (Step.assign rfl) ?_
  refine WL.nil ?_
  refine W.ret ?_
  refine ⟨.inl rfl, (Value.int .i64 0), ?_, ?_⟩
  · exact ⟨rfl, (Res.r1 (show RV _ _ _ (.tmp 4) (Value.int .i64 0) from by exact rfl))⟩
  refine ⟨?_, M.close [] rfl (by decide) trivial⟩
  rfl

theorem chn_add {G : Nat → Prop} {w : World} (x : Ver)   (M : Mem G (fun _ => False) w [] [] w) : Rets Try.prog 38 #[(Value.pointer none), (Value.agg #[(Value.int .u64 x.epoch), (Value.bool x.dead), (Value.int .i64 x.agg.count), (Value.int .i64 x.agg.sum), (Value.int .i64 x.agg.min), (Value.int .i64 x.agg.max)])] w fun r w' => r = (Value.int .i64 1) ∧ Mem G (fun _ => False) w [] [] w' := by
  refine Rets.enter 33 _ Try.func38 rfl Try.ntmps38 Try.results38 (by simp) ?_
  refine W.seq' ?_
  refine W.region rfl ?_
  refine WL.box (v := (Value.agg #[(Value.int .u64 x.epoch), (Value.bool x.dead), (Value.int .i64 x.agg.count), (Value.int .i64 x.agg.sum), (Value.int .i64 x.agg.min), (Value.int .i64 x.agg.max)])) (c := #[(Value.int .u64 x.epoch), (Value.bool x.dead), (Value.int .i64 x.agg.count), (Value.int .i64 x.agg.sum), (Value.int .i64 x.agg.min), (Value.int .i64 x.agg.max)]) M rfl rfl rfl (fun b1 w2 hb1 M => ?_)
  refine WL.step (v := (Value.int .i64 0)) rfl (Step.assign rfl) ?_
  refine WL.nil ?_
  refine W.seq' ?_
  refine W.block ?_
  refine W.seq' ?_
  refine W.region rfl ?_
  refine WL.step (v := (Value.pointer none)) rfl (Step.move rfl) ?_
  refine WL.step (v := (Value.bool true)) rfl (Step.pure (by kernel_rfl)) ?_
  refine WL.step (v := (Value.bool true)) rfl (Step.assign rfl) ?_
  refine WL.nil ?_
  refine W.cond (t := true) rfl (fun _ => ?_) (fun h => by cases h)
  refine W.seq' ?_
  refine W.region rfl ?_
  refine WL.step (v := (Value.int .i64 1)) rfl (Step.assign rfl) ?_
  refine WL.nil ?_
  refine W.ret ?_
  refine ⟨.inl rfl, (Value.int .i64 1), ?_, ?_⟩
  · exact ⟨rfl, (Res.r1 (show RV _ _ _ (.tmp 4) (Value.int .i64 1) from by exact rfl))⟩
  refine ⟨?_, M.close [] rfl (by decide) trivial⟩
  rfl
end Go.Proofs
