/- Walks. -/
import Derived.Test.YthihknbbibgchaaTrZ1
set_option maxRecDepth 100000
set_option linter.all false
namespace Go.Proofs
open Go Tp


theorem hz_least0 {G : Nat → Prop} {w : World} (now : Int)   (M : Mem G (fun _ => False) w [] [] w) : Rets Try.prog 18 #[(Value.pointer none), (Value.int .u64 now)] w fun r w' => r = (Value.int .u64 0) ∧ Mem G (fun _ => False) w [] [] w' := by
  refine Rets.enter 22 _ Try.func18 rfl Try.ntmps18 Try.results18 (by simp) ?_
  refine W.seq' ?_
  refine W.region rfl ?_
  refine WL.step (v := (Value.int .u64 0)) rfl (Step.assign rfl) ?_
  refine WL.nil ?_
  refine W.seq' ?_
  refine W.seq' ?_
  refine W.region rfl ?_
  refine WL.step (v := (Value.pointer none)) rfl (Step.move rfl) ?_
  refine WL.step (v := (Value.bool true)) rfl (Step.pure (by kernel_rfl)) ?_
  refine WL.nil ?_
  refine W.cond (t := true) rfl (fun _ => ?_) (fun h => by cases h)
  refine W.seq' ?_
  refine W.region rfl ?_
  refine WL.step (v := (Value.int .u64 0)) rfl (Step.assign rfl) ?_
  refine WL.nil ?_
  refine W.ret ?_
  refine ⟨.inl rfl, (Value.int .u64 0), ?_, ?_⟩
  · exact ⟨rfl, (Res.r1 (show RV _ _ _ (.tmp 4) (Value.int .u64 0) from by exact rfl))⟩
  refine ⟨?_, M.close [] rfl (by decide) trivial⟩
  rfl

theorem hz_least {G X : Nat → Prop} {w : World} (zb : Nat) (zm : Nat) (ps : List PinH) (fo : Int) (now : Int)   (M : Mem G X w [blk zb (.cells #[(Value.map (some zm)), (Value.int .u64 fo)] 87), mapP zm ps] [] w) : Rets Try.prog 18 #[(Value.pointer (some ⟨zb, 0, none⟩)), (Value.int .u64 now)] w fun r w' => r = (Value.int .u64 (minE now ps)) ∧ Mem G X w [blk zb (.cells #[(Value.map (some zm)), (Value.int .u64 fo)] 87), mapP zm ps] [] w' := by
  refine Rets.enter 22 _ Try.func18 rfl Try.ntmps18 Try.results18 (by simp) ?_
  refine W.seq' ?_
  refine W.region rfl ?_
  refine WL.step (v := (Value.int .u64 0)) rfl (Step.assign rfl) ?_
  refine WL.nil ?_
  refine W.seq' ?_
  refine W.seq' ?_
  refine W.region rfl ?_
  refine WL.step (v := (Value.pointer (some ⟨zb, 0, none⟩))) rfl (Step.move rfl) ?_
  refine WL.step (v := (Value.bool false)) rfl (Step.pure (by kernel_rfl)) ?_
  refine WL.nil ?_
  refine W.cond (t := false) rfl (fun h => by cases h) (fun _ => ?_)
  refine W.skip ?_
  refine W.seq' ?_
  refine W.seq' ?_
  refine W.region rfl ?_
  refine WL.step (v := (Value.pointer (some ⟨zb, 0, none⟩))) rfl (Step.move rfl) ?_
  refine WL.step (v := (Value.pointer (some ⟨zb, 0, none⟩))) rfl (Step.pure (by kernel_rfl)) ?_
  refine WL.step (v := (Value.pointer (some ⟨zb, 0, none⟩))) rfl (Step.pure (by kernel_rfl)) ?_
  refine WL.step (v := (Value.map (some zm))) rfl (Step.load1 Try.sc85 rfl ((M.cell 0 rfl 0).trans rfl)) ?_
  obtain ⟨es1, ck2, hmi3, M⟩ := M.openP 1 rfl
  replace M : Mem _ _ _ [blk zb (.cells #[(Value.map (some zm)), (Value.int .u64 fo)] 87), blk zm (.map es1 ck2)] [] _ := M
  refine WL.rangeP M 1 rfl Try.mp85 rfl rfl (fun r4 w5 hr6 M => ?_)
  replace M : Mem _ _ _ [blk r4 (.mapIter (some zm) ck2 #[] ck2), blk zb (.cells #[(Value.map (some zm)), (Value.int .u64 fo)] 87), blk zm (.map es1 ck2)] [] _ := M
  refine WL.nil ?_
  refine W.block ?_
  replace M := M.sel (L' := [blk r4 (.mapIter (some zm) ck2 #[] ck2), blk zm (.map es1 ck2), blk zb (.cells #[(Value.map (some zm)), (Value.int .u64 fo)] 87)]) [0, 2, 1] rfl (by decide)
  replace M : Mem _ _ _ [blk r4 (.mapIter (some zm) ck2 #[] ck2), blk zm (.map es1 ck2), blk zb (.cells #[(Value.map (some zm)), (Value.int .u64 fo)] 87)] [] _ := M
  refine W.loop (fun kk ρ w' => ∃ (done_ : List PinH) (seen_ : Array Nat) (m_ : Int), ((Seen es1 seen_ done_) ∧ (m_ = minE now done_) ∧ kk = ps.length - done_.length) ∧ ρ.has [(1, (Value.int .u64 m_)), (4, (Value.int .u64 0)), (13, (Value.pointer (some ⟨r4, 0, none⟩)))] ∧ Mem G X w [blk r4 (.mapIter (some zm) ck2 seen_ ck2), blk zm (.map es1 ck2), blk zb (.cells #[(Value.map (some zm)), (Value.int .u64 fo)] 87)] []  w') _ ⟨([] : List PinH), #[], now, ⟨(Seen.start _), rfl, rfl⟩, ⟨rfl, rfl, rfl, rfl, rfl⟩, M⟩ ?_
  rintro _ ρ9 w8 ⟨done_, seen_, m_, ⟨hi10, hi11, rfl⟩, hρ, M⟩
  obtain ⟨ρ9, rfl⟩ := hρ.know
  clear hρ
  refine W.seq' ?_
  refine W.region rfl ?_
  refine WL.nextP (ps := ps) M 1 0 rfl rfl hmi3 hi10 rfl rfl (fun hperm12 => ?_) (fun p14 e15 w16 hpk17 hpe18 hpm19 hsn20 M => ?_)
  ·
    replace M := M.shutP 1 rfl hmi3
    replace M : Mem _ _ _ [blk r4 (.mapIter (some zm) ck2 seen_ ck2), mapP zm ps, blk zb (.cells #[(Value.map (some zm)), (Value.int .u64 fo)] 87)] [] _ := M
    refine WL.step (v := (Value.bool false)) rfl (Step.pure (by kernel_rfl)) ?_
    refine WL.nil ?_
    refine W.seq' ?_
    refine W.cond (t := false) rfl (fun h => by cases h) (fun _ => ?_)
    refine W.exit ?_
    refine thn_exit ?_
    refine thn_exit ?_
    refine inBlk_hit ?_
    refine W.seq' ?_
    refine W.region rfl ?_
    refine WL.step (v := (Value.int .u64 m_)) rfl (Step.move rfl) ?_
    refine WL.step (v := (Value.int .u64 m_)) rfl (Step.assign rfl) ?_
    refine WL.nil ?_
    refine W.ret ?_
    refine ⟨.inl rfl, (Value.int .u64 m_), ?_, ?_⟩
    · exact ⟨rfl, (Res.r1 (show RV _ _ _ (.tmp 4) (Value.int .u64 m_) from by exact rfl))⟩
    refine ⟨?_, M.close [2, 1] rfl (by decide) trivial⟩
    rw [hi11, minE_perm hperm12]
  ·
    skip
    replace M : Mem _ _ _ [blk r4 (.mapIter (some zm) ck2 (seen_.push e15.born) ck2), blk zm (.map es1 ck2), blk zb (.cells #[(Value.map (some zm)), (Value.int .u64 fo)] 87)] [] _ := M
    refine WL.step (v := (Value.bool true)) rfl (Step.pure (by kernel_rfl)) ?_
    refine WL.nil ?_
    refine W.seq' ?_
    refine W.cond (t := true) rfl (fun _ => ?_) (fun h => by cases h)
    refine W.skip ?_
    refine W.block ?_
    refine W.seq' ?_
    refine W.region rfl ?_
    refine WL.step (v := (Value.tuple #[(Value.agg #[(Value.int .u8 p14.sort), (Value.int .u64 p14.id)]), (Value.int .u64 p14.epoch)])) rfl (M.entryP (ps := ps) (p := p14) (e := e15) (seen := seen_) 1 0 rfl rfl hmi3 hpe18 hpk17 rfl) ?_
    refine WL.step (v := (Value.int .u64 p14.epoch)) rfl (Step.pure (by kernel_rfl)) ?_
    refine WL.step (v := (Value.int .u64 p14.epoch)) rfl (Step.assign rfl) ?_
    refine WL.nil ?_
    refine W.region rfl ?_
    refine WL.step (v := (Value.int .u64 m_)) rfl (Step.move rfl) ?_
    refine WL.step (v := (Value.int .u64 p14.epoch)) rfl (Step.move rfl) ?_
    refine WL.step (v := (Value.int .u64 (min (m_ : Int) (p14.epoch : Int)))) rfl (Step.minI rfl rfl) ?_
    refine WL.step (v := (Value.int .u64 (min (m_ : Int) (p14.epoch : Int)))) rfl (Step.assign rfl) ?_
    refine WL.nil ?_
    have hln_ := Seen.len hmi3 hsn20
    have hlq_ : (done_ ++ [p14]).length = done_.length + 1 := by simp
    exact ⟨_, (by omega), done_ ++ [p14], _, (min (m_ : Int) (p14.epoch : Int)), ⟨hsn20, (by rw [minE_snoc, ← hi11]), rfl⟩, ⟨rfl, rfl, rfl, rfl, rfl⟩, M⟩
end Go.Proofs
