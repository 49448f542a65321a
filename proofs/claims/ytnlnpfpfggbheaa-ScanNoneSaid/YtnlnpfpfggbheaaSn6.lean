/- Proved here: lemmas and walks on which the claim stands (part 6 of 6). No condition. -/
import Derived.Test.YtnlnpfpfggbheaaSn5
set_option linter.all false
set_option maxRecDepth 100000
namespace Go.Proofs
open Go Tp
theorem Try.en58 : Enters Try.prog 58 := fun _ _ => by kernel_rfl
theorem sc_new {G : Nat → Prop} {w : World} (f : ByteArray) (t : ByteArray) (b : Bool)   (M : Mem G (fun _ => False) w [] [] w) : Rets Try.prog 14 #[(vS f), (vS t), (vB b)] w fun r w' => ∃ (sb' : Nat), r = (vP sb') ∧ Mem G (fun _ => False) w [bk sb' #[(vS ((⟨f, t, b, sZ, false⟩ : Scn).frm)), (vS ((⟨f, t, b, sZ, false⟩ : Scn).to_)), (vB ((⟨f, t, b, sZ, false⟩ : Scn).back)), (vS ((⟨f, t, b, sZ, false⟩ : Scn).at_)), (vB ((⟨f, t, b, sZ, false⟩ : Scn).told))] 88] [] w' := by
 refine Rets.enter 12 _ Try.func14 rfl Try.ntmps14 Try.results14 (by simp) ?_
 refine wR (wA vN (WL.nil (wR (wM (vS f) (wM (vS t) ?_)))))
 refine wM (vB b) (wP (Value.agg #[(vS f), (vS t), (vB b), (vS sZ), (vB false)]) ?_)
 refine WL.box (v := (Value.agg #[(vS f), (vS t), (vB b), (vS sZ), (vB false)])) (c := #[(vS f), (vS t), (vB b), (vS sZ), (vB false)]) M rfl rfl rfl (fun b1 w2 hb1 M => ?_)
 refine wA (vP b1) (WL.nil ?_)
 refine W.ret ?_
 refine ⟨.inl rfl, (vP b1), ?_, ?_⟩
 · exact ⟨rfl, (Res.r1 (show RV _ _ _ (.tmp 6) (vP b1) from by exact rfl))⟩
 have e3 : (bk b1 #[(vS ((⟨f, t, b, sZ, false⟩ : Scn).frm)), (vS ((⟨f, t, b, sZ, false⟩ : Scn).to_)), (vB ((⟨f, t, b, sZ, false⟩ : Scn).back)), (vS ((⟨f, t, b, sZ, false⟩ : Scn).at_)), (vB ((⟨f, t, b, sZ, false⟩ : Scn).told))] 88 : Chunk) = (bk b1 #[(vS f), (vS t), (vB b), (vS sZ), (vB false)] 88 : Chunk) := by
  rfl
 replace M := M.rechunk 0 (c' := bk b1 #[(vS ((⟨f, t, b, sZ, false⟩ : Scn).frm)), (vS ((⟨f, t, b, sZ, false⟩ : Scn).to_)), (vB ((⟨f, t, b, sZ, false⟩ : Scn).back)), (vS ((⟨f, t, b, sZ, false⟩ : Scn).at_)), (vB ((⟨f, t, b, sZ, false⟩ : Scn).told))] 88) rfl e3.symm
 refine ⟨b1, ?_, M.close [0] rfl (by decide) trivial⟩
 rfl
theorem sc_within {G : Nat → Prop} {w : World} (sb : Nat) (s : Scn) (k : ByteArray)   (M : Mem G (fun _ => False) w [] [bF sb #[(vS s.frm), (vS s.to_), (vB s.back), (vS s.at_), (vB s.told)] 88] w) : Rets Try.prog 59 #[(vP sb), (vS k)] w fun r w' => r = (vB (withinS s k)) ∧ Mem G (fun _ => False) w [] [] w' := by
 refine Rets.enter 26 _ Try.func59 rfl Try.ntmps59 Try.results59 (by simp) ?_
 refine wR (wA (vB false) (WL.nil (wR (wM (vS k) (wM (vP sb) ?_)))))
 refine wP (vP sb) (wP (vP sb) (wS (vS s.frm) rfl (Step.load1 Try.sc9 rfl ((cell_blk (M.rep 0 rfl) 0).trans rfl)) (wP (vB (!(sLt k s.frm))) (wM (vB (!(sLt k s.frm))) ?_))))
 rcases Bool.eq_false_or_eq_true (!(sLt k s.frm)) with h1 | h1
 ·
  rw [h1]
  refine wM (vP sb) (wP (vP sb) (wP (Value.pointer (some ⟨sb, 1, none⟩)) (wS (vS s.to_) rfl (Step.load1 Try.sc9 rfl ((cell_blk (M.rep 0 rfl) 1).trans rfl)) (wP (vB (s.to_.toList == sZ.toList)) (wM (vB (s.to_.toList == sZ.toList)) ?_)))))
  rcases Bool.eq_false_or_eq_true (s.to_.toList == sZ.toList) with h2 | h2
  ·
   rw [h2]
   refine WL.pass rfl ?_
   refine WL.pass rfl ?_
   refine WL.pass rfl ?_
   refine WL.pass rfl ?_
   refine WL.pass rfl ?_
   refine WL.pass rfl ?_
   refine wS (vB true) rfl (Step.pick (t := true) rfl rfl) (wS (vB true) rfl (Step.pick (t := true) rfl rfl) (wA (vB true) (WL.nil ?_)))
   refine W.ret ?_
   refine ⟨.inl rfl, (vB true), ?_, ?_⟩
   · exact ⟨rfl, (Res.r1 (show RV _ _ _ (.tmp 4) (vB true) from by exact rfl))⟩
   refine ⟨?_, M.close [] rfl (by decide) trivial⟩
   refine congrArg Value.bool ?_
   unfold withinS
   try simp only [sGt, sLe] at *
   try simp only [sEq_dec] at *
   simp_all
  ·
   rw [h2]
   refine wM (vS k) (wM (vP sb) (wP (vP sb) (wP (Value.pointer (some ⟨sb, 1, none⟩)) (wS (vS s.to_) rfl (Step.load1 Try.sc9 rfl ((cell_blk (M.rep 0 rfl) 1).trans rfl)) (wP (vB (sLt k s.to_)) ?_)))))
   refine wS (vB (sLt k s.to_)) rfl (Step.pick (t := false) rfl rfl) (wS (vB (sLt k s.to_)) rfl (Step.pick (t := true) rfl rfl) (wA (vB (sLt k s.to_)) (WL.nil ?_)))
   refine W.ret ?_
   refine ⟨.inl rfl, (vB (sLt k s.to_)), ?_, ?_⟩
   · exact ⟨rfl, (Res.r1 (show RV _ _ _ (.tmp 4) (vB (sLt k s.to_)) from by exact rfl))⟩
   refine ⟨?_, M.close [] rfl (by decide) trivial⟩
   refine congrArg Value.bool ?_
   unfold withinS
   try simp only [sGt, sLe] at *
   try simp only [sEq_dec] at *
   simp_all
 ·
  rw [h1]
  refine WL.pass rfl ?_
  refine WL.pass rfl ?_
  refine WL.pass rfl ?_
  refine WL.pass rfl ?_
  refine WL.pass rfl ?_
  refine WL.pass rfl ?_
  refine WL.pass rfl ?_
  refine WL.pass rfl ?_
  refine WL.pass rfl ?_
  refine WL.pass rfl ?_
  refine WL.pass rfl ?_
  refine WL.pass rfl ?_
  refine WL.pass rfl ?_
  refine wS (vB false) rfl (Step.pick (t := false) rfl rfl) (wA (vB false) (WL.nil ?_))
  refine W.ret ?_
  refine ⟨.inl rfl, (vB false), ?_, ?_⟩
  · exact ⟨rfl, (Res.r1 (show RV _ _ _ (.tmp 4) (vB false) from by exact rfl))⟩
  refine ⟨?_, M.close [] rfl (by decide) trivial⟩
  refine congrArg Value.bool ?_
  unfold withinS
  try simp only [sGt, sLe] at *
  try simp only [sEq_dec] at *
  simp_all
theorem sc_start {G : Nat → Prop} {w : World} (sb : Nat) (s : Scn)   (M : Mem G (fun _ => False) w [] [bF sb #[(vS s.frm), (vS s.to_), (vB s.back), (vS s.at_), (vB s.told)] 88] w) : Rets Try.prog 58 #[(vP sb)] w fun r w' => r = (vS (startS s)) ∧ Mem G (fun _ => False) w [] [] w' := by
 refine Rets.enter 69 _ Try.func58 rfl Try.ntmps58 Try.results58 (by simp) ?_
 refine wR (wA (vS sZ) (WL.nil (W.seq' (W.block (W.seq' ?_)))))
 rcases Bool.eq_false_or_eq_true (!s.back) with h1 | h1
 ·
  rcases Bool.eq_false_or_eq_true (!s.told) with h2 | h2
  ·
   refine W.drawn M [0, 1, 2, 3, 4, 5, 6, 7, 8, 9, 10, 11, 12, 13, 14, 15, 16, 17, 18, 19, 20, 21, 22, 23] [] [] _ _ sE (fun _ h => h) Try.mixed (by kernel_rfl) ?_
   refine tP (vP sb) rfl (fun w => (Step.move rfl)) ?_
   refine tP (vP sb) rfl (fun w => sP) ?_
   refine tP (Value.pointer (some ⟨sb, 2, none⟩)) rfl (fun w => sP) ?_
   refine tR (vB false) rfl (fun A w M => (Step.cast (congrArg Value.bool (show (s.back) = false by simpa using h1)) (Step.load1 Try.sc4 rfl ((cell_blk (M.rep 0 rfl) 2).trans rfl)))) ?_
   refine tP (vB true) rfl (fun w => sP) ?_
   refine tP (vB true) rfl (fun w => (Step.move rfl)) ?_
   refine tP (vP sb) rfl (fun w => (Step.move rfl)) ?_
   refine tP (vP sb) rfl (fun w => sP) ?_
   refine tP (Value.pointer (some ⟨sb, 4, none⟩)) rfl (fun w => sP) ?_
   refine tR (vB false) rfl (fun A w M => (Step.cast (congrArg Value.bool (show (s.told) = false by simpa using h2)) (Step.load1 Try.sc4 rfl ((cell_blk (M.rep 0 rfl) 4).trans rfl)))) ?_
   refine tP (vB true) rfl (fun w => sP) ?_
   refine tP (vB true) rfl (fun w => (Step.move rfl)) ?_
   refine TW.skip rfl rfl ?_
   refine TW.skip rfl rfl ?_
   refine TW.skip rfl rfl ?_
   refine TW.skip rfl rfl ?_
   refine TW.skip rfl rfl ?_
   refine TW.skip rfl rfl ?_
   refine TW.skip rfl rfl ?_
   refine TW.skip rfl rfl ?_
   refine TW.skip rfl rfl ?_
   refine tP (vB true) rfl (fun w => (Step.pick (t := true) rfl rfl)) ?_
   refine tP (vB true) rfl (fun w => (Step.pick (t := true) rfl rfl)) ?_
   refine tP (vB true) rfl (fun w => (Step.assign rfl)) ?_
   refine TW.done (fun w3 M => ?_)
   refine W.cond (t := true) rfl (fun _ => ?_) (fun h => by cases h)
   refine wR (wM (vP sb) (wP (vP sb) (wP (vP sb) (wS (vS s.frm) rfl (Step.load1 Try.sc9 rfl ((cell_blk (M.rep 0 rfl) 0).trans rfl)) (wA (vS s.frm) ?_)))))
   refine WL.nil ?_
   refine W.ret ?_
   refine ⟨.inl rfl, (vS s.frm), ?_, ?_⟩
   · exact ⟨rfl, (Res.r1 (show RV _ _ _ (.tmp 2) (vS s.frm) from by exact rfl))⟩
   refine ⟨?_, M.close [] rfl (by decide) trivial⟩
   refine congrArg Value.string ?_
   unfold startS
   try simp only [sGt, sLe] at *
   try simp only [sEq_dec] at *
   simp_all
  ·
   refine W.drawn M [0, 1, 2, 3, 4, 5, 6, 7, 8, 9, 10, 11, 12, 13, 14, 15, 16, 17, 18, 19, 20, 21, 22, 23] [] [] _ _ sE (fun _ h => h) Try.mixed (by kernel_rfl) ?_
   refine tP (vP sb) rfl (fun w => (Step.move rfl)) ?_
   refine tP (vP sb) rfl (fun w => sP) ?_
   refine tP (Value.pointer (some ⟨sb, 2, none⟩)) rfl (fun w => sP) ?_
   refine tR (vB false) rfl (fun A w M => (Step.cast (congrArg Value.bool (show (s.back) = false by simpa using h1)) (Step.load1 Try.sc4 rfl ((cell_blk (M.rep 0 rfl) 2).trans rfl)))) ?_
   refine tP (vB true) rfl (fun w => sP) ?_
   refine tP (vB true) rfl (fun w => (Step.move rfl)) ?_
   refine tP (vP sb) rfl (fun w => (Step.move rfl)) ?_
   refine tP (vP sb) rfl (fun w => sP) ?_
   refine tP (Value.pointer (some ⟨sb, 4, none⟩)) rfl (fun w => sP) ?_
   refine tR (vB true) rfl (fun A w M => (Step.cast (congrArg Value.bool (show (s.told) = true by simpa using h2)) (Step.load1 Try.sc4 rfl ((cell_blk (M.rep 0 rfl) 4).trans rfl)))) ?_
   refine tP (vB false) rfl (fun w => sP) ?_
   refine tP (vB false) rfl (fun w => (Step.move rfl)) ?_
   refine tP (vP sb) rfl (fun w => (Step.move rfl)) ?_
   refine tP (vP sb) rfl (fun w => sP) ?_
   refine tP (Value.pointer (some ⟨sb, 3, none⟩)) rfl (fun w => sP) ?_
   refine tR (vS s.at_) rfl (fun A w M => (Step.load1 Try.sc9 rfl ((cell_blk (M.rep 0 rfl) 3).trans rfl))) ?_
   refine tP (vP sb) rfl (fun w => (Step.move rfl)) ?_
   refine tP (vP sb) rfl (fun w => sP) ?_
   refine tP (vP sb) rfl (fun w => sP) ?_
   refine tR (vS s.frm) rfl (fun A w M => (Step.load1 Try.sc9 rfl ((cell_blk (M.rep 0 rfl) 0).trans rfl))) ?_
   refine tP (vB (sLt s.at_ s.frm)) rfl (fun w => sP) ?_
   refine tP (vB (sLt s.at_ s.frm)) rfl (fun w => (Step.pick (t := false) rfl rfl)) ?_
   refine tP (vB (sLt s.at_ s.frm)) rfl (fun w => (Step.pick (t := true) rfl rfl)) ?_
   refine tP (vB (sLt s.at_ s.frm)) rfl (fun w => (Step.assign rfl)) ?_
   refine TW.done (fun w4 M => ?_)
   refine W.cond (t := sLt s.at_ s.frm) rfl (fun h5 => ?_) (fun h5 => ?_)
   ·
    refine wR (wM (vP sb) (wP (vP sb) (wP (vP sb) (wS (vS s.frm) rfl (Step.load1 Try.sc9 rfl ((cell_blk (M.rep 0 rfl) 0).trans rfl)) (wA (vS s.frm) ?_)))))
    refine WL.nil ?_
    refine W.ret ?_
    refine ⟨.inl rfl, (vS s.frm), ?_, ?_⟩
    · exact ⟨rfl, (Res.r1 (show RV _ _ _ (.tmp 2) (vS s.frm) from by exact rfl))⟩
    refine ⟨?_, M.close [] rfl (by decide) trivial⟩
    refine congrArg Value.string ?_
    unfold startS
    try simp only [sGt, sLe] at *
    try simp only [sEq_dec] at *
    simp_all
   ·
    refine W.seq' ?_
    refine W.drawn M [0, 1, 2, 3, 4, 5, 6, 7, 8, 9, 10, 11, 12, 13, 14, 15, 16, 17, 18, 19, 20, 21, 22, 23, 24, 25, 26, 27, 28, 29] [] [] _ _ sE (fun _ h => h) Try.mixed (by kernel_rfl) ?_
    refine tP (vP sb) rfl (fun w => (Step.move rfl)) ?_
    refine tP (vP sb) rfl (fun w => sP) ?_
    refine tP (Value.pointer (some ⟨sb, 2, none⟩)) rfl (fun w => sP) ?_
    refine tR (vB false) rfl (fun A w M => (Step.cast (congrArg Value.bool (show (s.back) = false by simpa using h1)) (Step.load1 Try.sc4 rfl ((cell_blk (M.rep 0 rfl) 2).trans rfl)))) ?_
    refine tP (vB false) rfl (fun w => (Step.move rfl)) ?_
    refine TW.skip rfl rfl ?_
    refine TW.skip rfl rfl ?_
    refine TW.skip rfl rfl ?_
    refine TW.skip rfl rfl ?_
    refine TW.skip rfl rfl ?_
    refine TW.skip rfl rfl ?_
    refine TW.skip rfl rfl ?_
    refine TW.skip rfl rfl ?_
    refine TW.skip rfl rfl ?_
    refine TW.skip rfl rfl ?_
    refine TW.skip rfl rfl ?_
    refine TW.skip rfl rfl ?_
    refine TW.skip rfl rfl ?_
    refine TW.skip rfl rfl ?_
    refine TW.skip rfl rfl ?_
    refine TW.skip rfl rfl ?_
    refine TW.skip rfl rfl ?_
    refine TW.skip rfl rfl ?_
    refine TW.skip rfl rfl ?_
    refine TW.skip rfl rfl ?_
    refine TW.skip rfl rfl ?_
    refine TW.skip rfl rfl ?_
    refine TW.skip rfl rfl ?_
    refine tP (vB false) rfl (fun w => (Step.pick (t := false) rfl rfl)) ?_
    refine tP (vB false) rfl (fun w => (Step.assign rfl)) ?_
    refine TW.done (fun w6 M => ?_)
    refine W.cond (t := false) rfl (fun h => by cases h) (fun _ => ?_)
    refine W.skip (wR (wM (vP sb) (wP (vP sb) (wP (Value.pointer (some ⟨sb, 3, none⟩)) (wS (vS s.at_) rfl (Step.load1 Try.sc9 rfl ((cell_blk (M.rep 0 rfl) 3).trans rfl)) ?_)))))
    refine wA (vS s.at_) (WL.nil ?_)
    refine W.ret ?_
    refine ⟨.inl rfl, (vS s.at_), ?_, ?_⟩
    · exact ⟨rfl, (Res.r1 (show RV _ _ _ (.tmp 2) (vS s.at_) from by exact rfl))⟩
    refine ⟨?_, M.close [] rfl (by decide) trivial⟩
    refine congrArg Value.string ?_
    unfold startS
    try simp only [sGt, sLe] at *
    try simp only [sEq_dec] at *
    simp_all
 ·
  refine W.drawn M [0, 1, 2, 3, 4, 5, 6, 7, 8, 9, 10, 11, 12, 13, 14, 15, 16, 17, 18, 19, 20, 21, 22, 23] [] [] _ _ sE (fun _ h => h) Try.mixed (by kernel_rfl) ?_
  refine tP (vP sb) rfl (fun w => (Step.move rfl)) ?_
  refine tP (vP sb) rfl (fun w => sP) ?_
  refine tP (Value.pointer (some ⟨sb, 2, none⟩)) rfl (fun w => sP) ?_
  refine tR (vB true) rfl (fun A w M => (Step.cast (congrArg Value.bool (show (s.back) = true by simpa using h1)) (Step.load1 Try.sc4 rfl ((cell_blk (M.rep 0 rfl) 2).trans rfl)))) ?_
  refine tP (vB false) rfl (fun w => sP) ?_
  refine tP (vB false) rfl (fun w => (Step.move rfl)) ?_
  refine TW.skip rfl rfl ?_
  refine TW.skip rfl rfl ?_
  refine TW.skip rfl rfl ?_
  refine TW.skip rfl rfl ?_
  refine TW.skip rfl rfl ?_
  refine TW.skip rfl rfl ?_
  refine TW.skip rfl rfl ?_
  refine TW.skip rfl rfl ?_
  refine TW.skip rfl rfl ?_
  refine TW.skip rfl rfl ?_
  refine TW.skip rfl rfl ?_
  refine TW.skip rfl rfl ?_
  refine TW.skip rfl rfl ?_
  refine TW.skip rfl rfl ?_
  refine TW.skip rfl rfl ?_
  refine TW.skip rfl rfl ?_
  refine tP (vB false) rfl (fun w => (Step.pick (t := false) rfl rfl)) ?_
  refine tP (vB false) rfl (fun w => (Step.assign rfl)) ?_
  refine TW.done (fun w7 M => ?_)
  refine W.cond (t := false) rfl (fun h => by cases h) (fun _ => ?_)
  refine W.seq' ?_
  rcases Bool.eq_false_or_eq_true (!s.told) with h8 | h8
  ·
   refine W.drawn M [0, 1, 2, 3, 4, 5, 6, 7, 8, 9, 10, 11, 12, 13, 14, 15, 16, 17, 18, 19, 20, 21, 22, 23, 24, 25, 26, 27, 28, 29] [] [] _ _ sE (fun _ h => h) Try.mixed (by kernel_rfl) ?_
   refine tP (vP sb) rfl (fun w => (Step.move rfl)) ?_
   refine tP (vP sb) rfl (fun w => sP) ?_
   refine tP (Value.pointer (some ⟨sb, 2, none⟩)) rfl (fun w => sP) ?_
   refine tR (vB true) rfl (fun A w M => (Step.cast (congrArg Value.bool (show (s.back) = true by simpa using h1)) (Step.load1 Try.sc4 rfl ((cell_blk (M.rep 0 rfl) 2).trans rfl)))) ?_
   refine tP (vB true) rfl (fun w => (Step.move rfl)) ?_
   refine tP (vP sb) rfl (fun w => (Step.move rfl)) ?_
   refine tP (vP sb) rfl (fun w => sP) ?_
   refine tP (Value.pointer (some ⟨sb, 4, none⟩)) rfl (fun w => sP) ?_
   refine tR (vB false) rfl (fun A w M => (Step.cast (congrArg Value.bool (show (s.told) = false by simpa using h8)) (Step.load1 Try.sc4 rfl ((cell_blk (M.rep 0 rfl) 4).trans rfl)))) ?_
   refine tP (vB true) rfl (fun w => sP) ?_
   refine tP (vB true) rfl (fun w => (Step.move rfl)) ?_
   refine TW.skip rfl rfl ?_
   refine TW.skip rfl rfl ?_
   refine TW.skip rfl rfl ?_
   refine TW.skip rfl rfl ?_
   refine TW.skip rfl rfl ?_
   refine TW.skip rfl rfl ?_
   refine TW.skip rfl rfl ?_
   refine TW.skip rfl rfl ?_
   refine TW.skip rfl rfl ?_
   refine TW.skip rfl rfl ?_
   refine TW.skip rfl rfl ?_
   refine TW.skip rfl rfl ?_
   refine TW.skip rfl rfl ?_
   refine TW.skip rfl rfl ?_
   refine TW.skip rfl rfl ?_
   refine TW.skip rfl rfl ?_
   refine tP (vB true) rfl (fun w => (Step.pick (t := true) rfl rfl)) ?_
   refine tP (vB true) rfl (fun w => (Step.pick (t := true) rfl rfl)) ?_
   refine tP (vB true) rfl (fun w => (Step.assign rfl)) ?_
   refine TW.done (fun w9 M => ?_)
   refine W.cond (t := true) rfl (fun _ => ?_) (fun h => by cases h)
   refine wR (wM (vP sb) (wP (vP sb) (wP (Value.pointer (some ⟨sb, 1, none⟩)) (wS (vS s.to_) rfl (Step.load1 Try.sc9 rfl ((cell_blk (M.rep 0 rfl) 1).trans rfl)) (wA (vS s.to_) ?_)))))
   refine WL.nil ?_
   refine W.ret ?_
   refine ⟨.inl rfl, (vS s.to_), ?_, ?_⟩
   · exact ⟨rfl, (Res.r1 (show RV _ _ _ (.tmp 2) (vS s.to_) from by exact rfl))⟩
   refine ⟨?_, M.close [] rfl (by decide) trivial⟩
   refine congrArg Value.string ?_
   unfold startS
   try simp only [sGt, sLe] at *
   try simp only [sEq_dec] at *
   simp_all
  ·
   rcases Bool.eq_false_or_eq_true (!(s.to_.toList == sZ.toList)) with h10 | h10
   ·
    refine W.drawn M [0, 1, 2, 3, 4, 5, 6, 7, 8, 9, 10, 11, 12, 13, 14, 15, 16, 17, 18, 19, 20, 21, 22, 23, 24, 25, 26, 27, 28, 29] [] [] _ _ sE (fun _ h => h) Try.mixed (by kernel_rfl) ?_
    refine tP (vP sb) rfl (fun w => (Step.move rfl)) ?_
    refine tP (vP sb) rfl (fun w => sP) ?_
    refine tP (Value.pointer (some ⟨sb, 2, none⟩)) rfl (fun w => sP) ?_
    refine tR (vB true) rfl (fun A w M => (Step.cast (congrArg Value.bool (show (s.back) = true by simpa using h1)) (Step.load1 Try.sc4 rfl ((cell_blk (M.rep 0 rfl) 2).trans rfl)))) ?_
    refine tP (vB true) rfl (fun w => (Step.move rfl)) ?_
    refine tP (vP sb) rfl (fun w => (Step.move rfl)) ?_
    refine tP (vP sb) rfl (fun w => sP) ?_
    refine tP (Value.pointer (some ⟨sb, 4, none⟩)) rfl (fun w => sP) ?_
    refine tR (vB true) rfl (fun A w M => (Step.cast (congrArg Value.bool (show (s.told) = true by simpa using h8)) (Step.load1 Try.sc4 rfl ((cell_blk (M.rep 0 rfl) 4).trans rfl)))) ?_
    refine tP (vB false) rfl (fun w => sP) ?_
    refine tP (vB false) rfl (fun w => (Step.move rfl)) ?_
    refine tP (vP sb) rfl (fun w => (Step.move rfl)) ?_
    refine tP (vP sb) rfl (fun w => sP) ?_
    refine tP (Value.pointer (some ⟨sb, 1, none⟩)) rfl (fun w => sP) ?_
    refine tR (vS s.to_) rfl (fun A w M => (Step.load1 Try.sc9 rfl ((cell_blk (M.rep 0 rfl) 1).trans rfl))) ?_
    refine tP (vB true) rfl (fun w => (Step.cast (congrArg Value.bool h10) sP)) ?_
    refine tP (vB true) rfl (fun w => (Step.move rfl)) ?_
    refine tP (vP sb) rfl (fun w => (Step.move rfl)) ?_
    refine tP (vP sb) rfl (fun w => sP) ?_
    refine tP (Value.pointer (some ⟨sb, 3, none⟩)) rfl (fun w => sP) ?_
    refine tR (vS s.at_) rfl (fun A w M => (Step.load1 Try.sc9 rfl ((cell_blk (M.rep 0 rfl) 3).trans rfl))) ?_
    refine tP (vP sb) rfl (fun w => (Step.move rfl)) ?_
    refine tP (vP sb) rfl (fun w => sP) ?_
    refine tP (Value.pointer (some ⟨sb, 1, none⟩)) rfl (fun w => sP) ?_
    refine tR (vS s.to_) rfl (fun A w M => (Step.load1 Try.sc9 rfl ((cell_blk (M.rep 0 rfl) 1).trans rfl))) ?_
    refine tP (vB (!(sLt s.at_ s.to_ || s.at_.toList == s.to_.toList))) rfl (fun w => sP) ?_
    refine tP (vB (!(sLt s.at_ s.to_ || s.at_.toList == s.to_.toList))) rfl (fun w => (Step.pick (t := true) rfl rfl)) ?_
    refine tP (vB (!(sLt s.at_ s.to_ || s.at_.toList == s.to_.toList))) rfl (fun w => (Step.pick (t := false) rfl rfl)) ?_
    refine tP (vB (!(sLt s.at_ s.to_ || s.at_.toList == s.to_.toList))) rfl (fun w => (Step.pick (t := true) rfl rfl)) ?_
    refine tP (vB (!(sLt s.at_ s.to_ || s.at_.toList == s.to_.toList))) rfl (fun w => (Step.assign rfl)) ?_
    refine TW.done (fun w11 M => ?_)
    refine W.cond (t := !(sLt s.at_ s.to_ || s.at_.toList == s.to_.toList)) rfl (fun h12 => ?_) (fun h12 => ?_)
    ·
     refine wR (wM (vP sb) (wP (vP sb) (wP (Value.pointer (some ⟨sb, 1, none⟩)) (wS (vS s.to_) rfl (Step.load1 Try.sc9 rfl ((cell_blk (M.rep 0 rfl) 1).trans rfl)) (wA (vS s.to_) ?_)))))
     refine WL.nil ?_
     refine W.ret ?_
     refine ⟨.inl rfl, (vS s.to_), ?_, ?_⟩
     · exact ⟨rfl, (Res.r1 (show RV _ _ _ (.tmp 2) (vS s.to_) from by exact rfl))⟩
     refine ⟨?_, M.close [] rfl (by decide) trivial⟩
     refine congrArg Value.string ?_
     unfold startS
     try simp only [sGt, sLe] at *
     try simp only [sEq_dec] at *
     simp_all
    ·
     refine W.skip (wR (wM (vP sb) (wP (vP sb) (wP (Value.pointer (some ⟨sb, 3, none⟩)) (wS (vS s.at_) rfl (Step.load1 Try.sc9 rfl ((cell_blk (M.rep 0 rfl) 3).trans rfl)) ?_)))))
     refine wA (vS s.at_) (WL.nil ?_)
     refine W.ret ?_
     refine ⟨.inl rfl, (vS s.at_), ?_, ?_⟩
     · exact ⟨rfl, (Res.r1 (show RV _ _ _ (.tmp 2) (vS s.at_) from by exact rfl))⟩
     refine ⟨?_, M.close [] rfl (by decide) trivial⟩
     refine congrArg Value.string ?_
     unfold startS
     try simp only [sGt, sLe] at *
     try simp only [sEq_dec] at *
     simp_all
   ·
    refine W.drawn M [0, 1, 2, 3, 4, 5, 6, 7, 8, 9, 10, 11, 12, 13, 14, 15, 16, 17, 18, 19, 20, 21, 22, 23, 24, 25, 26, 27, 28, 29] [] [] _ _ sE (fun _ h => h) Try.mixed (by kernel_rfl) ?_
    refine tP (vP sb) rfl (fun w => (Step.move rfl)) ?_
    refine tP (vP sb) rfl (fun w => sP) ?_
    refine tP (Value.pointer (some ⟨sb, 2, none⟩)) rfl (fun w => sP) ?_
    refine tR (vB true) rfl (fun A w M => (Step.cast (congrArg Value.bool (show (s.back) = true by simpa using h1)) (Step.load1 Try.sc4 rfl ((cell_blk (M.rep 0 rfl) 2).trans rfl)))) ?_
    refine tP (vB true) rfl (fun w => (Step.move rfl)) ?_
    refine tP (vP sb) rfl (fun w => (Step.move rfl)) ?_
    refine tP (vP sb) rfl (fun w => sP) ?_
    refine tP (Value.pointer (some ⟨sb, 4, none⟩)) rfl (fun w => sP) ?_
    refine tR (vB true) rfl (fun A w M => (Step.cast (congrArg Value.bool (show (s.told) = true by simpa using h8)) (Step.load1 Try.sc4 rfl ((cell_blk (M.rep 0 rfl) 4).trans rfl)))) ?_
    refine tP (vB false) rfl (fun w => sP) ?_
    refine tP (vB false) rfl (fun w => (Step.move rfl)) ?_
    refine tP (vP sb) rfl (fun w => (Step.move rfl)) ?_
    refine tP (vP sb) rfl (fun w => sP) ?_
    refine tP (Value.pointer (some ⟨sb, 1, none⟩)) rfl (fun w => sP) ?_
    refine tR (vS s.to_) rfl (fun A w M => (Step.load1 Try.sc9 rfl ((cell_blk (M.rep 0 rfl) 1).trans rfl))) ?_
    refine tP (vB false) rfl (fun w => (Step.cast (congrArg Value.bool h10) sP)) ?_
    refine tP (vB false) rfl (fun w => (Step.move rfl)) ?_
    refine TW.skip rfl rfl ?_
    refine TW.skip rfl rfl ?_
    refine TW.skip rfl rfl ?_
    refine TW.skip rfl rfl ?_
    refine TW.skip rfl rfl ?_
    refine TW.skip rfl rfl ?_
    refine TW.skip rfl rfl ?_
    refine TW.skip rfl rfl ?_
    refine TW.skip rfl rfl ?_
    refine tP (vB false) rfl (fun w => (Step.pick (t := false) rfl rfl)) ?_
    refine tP (vB false) rfl (fun w => (Step.pick (t := false) rfl rfl)) ?_
    refine tP (vB false) rfl (fun w => (Step.pick (t := true) rfl rfl)) ?_
    refine tP (vB false) rfl (fun w => (Step.assign rfl)) ?_
    refine TW.done (fun w13 M => ?_)
    refine W.cond (t := false) rfl (fun h => by cases h) (fun _ => ?_)
    refine W.skip (wR (wM (vP sb) (wP (vP sb) (wP (Value.pointer (some ⟨sb, 3, none⟩)) (wS (vS s.at_) rfl (Step.load1 Try.sc9 rfl ((cell_blk (M.rep 0 rfl) 3).trans rfl)) ?_)))))
    refine wA (vS s.at_) (WL.nil ?_)
    refine W.ret ?_
    refine ⟨.inl rfl, (vS s.at_), ?_, ?_⟩
    · exact ⟨rfl, (Res.r1 (show RV _ _ _ (.tmp 2) (vS s.at_) from by exact rfl))⟩
    refine ⟨?_, M.close [] rfl (by decide) trivial⟩
    refine congrArg Value.string ?_
    unfold startS
    try simp only [sGt, sLe] at *
    try simp only [sEq_dec] at *
    simp_all
theorem sc_last {G X : Nat → Prop} {w : World} (k : ByteArray) (bb : Nat) (tb : Nat) (S : Nat → Prop) (row : List THit) (c : Nat)  (hc : c ≤ 900) (M : Mem G X w [tT S tb row c] [bF bb #[(vP tb)] 26] w) : Rets Try.prog 96 #[(vS k), (vP bb)] w fun r w' => r = (Value.tuple #[(Value.agg #[(vS (((tailL row).1).key)), (vI (((tailL row).1).val))]), (vB ((tailL row).2))]) ∧ Mem G X w [tT S tb row c] [] w' := by
 refine Rets.enter 9 _ Try.func96 rfl Try.ntmps96 Try.results96 (by simp) ?_
 refine wR ?_
 refine WL.alloc (c := #[(vS sZ), (vI 0)]) M rfl Try.el41.zero rfl (fun b1 w2 hb1 M => ?_)
 refine wA (vB false) (WL.nil (wR (wS (vP tb) rfl (Step.load1 Try.sc26 rfl ((cell_blk (M.rep 0 rfl) 0).trans rfl)) ?_)))
 have fq := M.frm [tT S tb row c] [bk b1 #[(vS sZ), (vI 0)] 41] [1, 0] rfl
 refine WL.callX rfl (T_last tb S row c (by first | assumption | omega) (M.eF fq trivial)) (CallsF.func Try.en78 rfl) ?_
 rintro _ w3 ⟨rfl, m⟩
 replace M := M.lF fq m
 clear m
 refine wP (Value.agg #[(vS (((tailL row).1).key)), (vI (((tailL row).1).val))]) (wP (vB ((tailL row).2)) ?_)
 refine WL.store (v := (Value.agg #[(vS (((tailL row).1).key)), (vI (((tailL row).1).val))])) (cs := [(vS (((tailL row).1).key)), (vI (((tailL row).1).val))]) (c' := #[(vS (((tailL row).1).key)), (vI (((tailL row).1).val))]) M 1 rfl rfl Try.el41.sized rfl rfl rfl rfl (Nat.le_of_ble_eq_true rfl) (cel_cons rfl (cel_cons rfl cel_nil)) rfl rfl (fun w4 M => ?_)
 refine wA (vB ((tailL row).2)) (WL.nil ?_)
 refine W.ret ?_
 refine ⟨.inl rfl, (Value.tuple #[(Value.agg #[(vS (((tailL row).1).key)), (vI (((tailL row).1).val))]), (vB ((tailL row).2))]), ?_, ?_⟩
 · exact ⟨rfl, (Res.r2 (RV.cellN Try.ag41 rfl (M.blk 1 rfl) rfl) (show RV _ _ _ (.tmp 4) (vB ((tailL row).2)) from by exact rfl))⟩
 refine ⟨?_, M.close [0] rfl (by decide) trivial⟩
 rfl
theorem sc_look1 {G : Nat → Prop} {w : World} (sb : Nat) (s : Scn) (tb : Nat)  (hl : look1 s = true) (M : Mem G (fun _ => False) w [] [bF sb #[(vS s.frm), (vS s.to_), (vB s.back), (vS s.at_), (vB s.told)] 88] w) : Rets Try.prog 57 #[(vP sb), (vP tb)] w fun r w' => ∃ (b' : Nat), r = (Value.func (.func 96) #[] #[(vP b')]) ∧ Mem G (fun _ => False) w [bk b' #[(vP tb)] 26] [] w' := by
 refine Rets.enter 49 _ Try.func57 rfl Try.ntmps57 Try.results57 (by simp) ?_
 refine wR ?_
 refine WL.box (v := (vP tb)) (c := #[(vP tb)]) M rfl rfl rfl (fun b1 w2 hb1 M => ?_)
 refine wA Value.nilFunc (WL.nil (W.seq' ?_))
 rcases Bool.eq_false_or_eq_true (s.told) with h3 | h3
 ·
  refine W.drawn M [0, 1, 2, 3, 4, 5, 6, 7, 8, 9, 10, 11, 12, 13] [6] [] _ _ (sY sE) (fun _ h => h) Try.mixed (by kernel_rfl) ?_
  refine tP (vP sb) rfl (fun w => (Step.move rfl)) ?_
  refine tP (vP sb) rfl (fun w => sP) ?_
  refine tP (Value.pointer (some ⟨sb, 4, none⟩)) rfl (fun w => sP) ?_
  refine tR (vB true) rfl (fun A w M => (Step.cast (congrArg Value.bool h3) (Step.load1 Try.sc4 rfl ((cell_blk (M.rep 0 rfl) 4).trans rfl)))) ?_
  refine tP (vB true) rfl (fun w => (Step.move rfl)) ?_
  refine tP (vP sb) rfl (fun w => (Step.move rfl)) ?_
  refine TW.callX (ι := Unit) (fun jx v_ => v_ = (vS (startS s))) (fun jx => [bk b1 #[(vP tb)] 26]) (fun jx => [bF sb #[(vS s.frm), (vS s.to_), (vB s.back), (vS s.at_), (vB s.told)] 88]) rfl (by decide) rfl (fun jx => (sY sE)) (fun jx r h => h) (fun A w M => Rets.mono (sc_start sb s (M.enterW0 ⟨(M.wideR0 0 rfl), trivial⟩)) (fun v_ w_ ⟨e_, m⟩ => ⟨(), e_, (M.leaveW0 m).sel [0, 1] rfl (by decide), fun b hb => M.k0F m b hb⟩)) (fun w => CallsF.func Try.en58 rfl) (fun jx v hp hin => ?_)
  replace hp := hp.symm; subst hp
  clear hin
  refine tP (vP sb) rfl (fun w => (Step.move rfl)) ?_
  refine tP (vP sb) rfl (fun w => sP) ?_
  refine tP (Value.pointer (some ⟨sb, 3, none⟩)) rfl (fun w => sP) ?_
  refine tR (vS s.at_) rfl (fun A w M => (Step.load1 Try.sc9 rfl ((cell_blk (M.rep 0 rfl) 3).trans rfl))) ?_
  refine tP (vB ((startS s).toList == s.at_.toList)) rfl (fun w => sP) ?_
  refine tP (vB ((startS s).toList == s.at_.toList)) rfl (fun w => (Step.pick (t := true) rfl rfl)) ?_
  refine tP (vB ((startS s).toList == s.at_.toList)) rfl (fun w => (Step.assign rfl)) ?_
  refine TW.done (fun w4 M => ?_)
  refine W.seq' (W.block (wR (wM (vP sb) (wP (vP sb) (wP (Value.pointer (some ⟨sb, 2, none⟩)) ?_)))))
  refine wS (vB s.back) rfl (Step.load1 Try.sc4 rfl ((cell_blk (M.rep 0 rfl) 2).trans rfl)) (wM (vB s.back) ?_)
  rcases Bool.eq_false_or_eq_true (s.back) with h5 | h5
  ·
   rw [h5]
   refine wM (vB ((startS s).toList == s.at_.toList)) (wP (vB (!((startS s).toList == s.at_.toList))) (wS (vB (!((startS s).toList == s.at_.toList))) rfl (Step.pick (t := true) rfl rfl) (wM (vB (!((startS s).toList == s.at_.toList))) ?_)))
   rcases Bool.eq_false_or_eq_true (!((startS s).toList == s.at_.toList)) with h6 | h6
   ·
    rw [h6]
    refine wM (vP sb) (wP (vP sb) (wP (Value.pointer (some ⟨sb, 1, none⟩)) (wS (vS s.to_) rfl (Step.load1 Try.sc9 rfl ((cell_blk (M.rep 0 rfl) 1).trans rfl)) (wP (vB (s.to_.toList == sZ.toList)) (wS (vB (s.to_.toList == sZ.toList)) rfl (Step.pick (t := true) rfl rfl) ?_)))))
    refine wA (vB (s.to_.toList == sZ.toList)) (WL.nil ?_)
    refine W.cond (t := s.to_.toList == sZ.toList) rfl (fun h7 => ?_) (fun h7 => ?_)
    ·
     refine wR (wP (Value.func (.func 96) #[] #[(vP b1)]) (wA (Value.func (.func 96) #[] #[(vP b1)]) (WL.nil ?_)))
     refine W.ret ?_
     refine ⟨.inl rfl, (Value.func (.func 96) #[] #[(vP b1)]), ?_, ?_⟩
     · exact ⟨rfl, (Res.r1 (show RV _ _ _ (.tmp 4) (Value.func (.func 96) #[] #[(vP b1)]) from by exact rfl))⟩
     refine ⟨b1, ?_, M.close [0] rfl (by decide) trivial⟩
     rfl
    ·
     exfalso; unfold look1 insideS at hl; try simp only [sEq_dec] at *
     simp_all
   ·
    exfalso; unfold look1 insideS at hl; try simp only [sEq_dec] at *
    simp_all
  ·
   exfalso; unfold look1 insideS at hl; try simp only [sEq_dec] at *
   simp_all
 ·
  refine W.drawn M [0, 1, 2, 3, 4, 5, 6, 7, 8, 9, 10, 11, 12, 13] [6] [] _ _ (sY sE) (fun _ h => h) Try.mixed (by kernel_rfl) ?_
  refine tP (vP sb) rfl (fun w => (Step.move rfl)) ?_
  refine tP (vP sb) rfl (fun w => sP) ?_
  refine tP (Value.pointer (some ⟨sb, 4, none⟩)) rfl (fun w => sP) ?_
  refine tR (vB false) rfl (fun A w M => (Step.cast (congrArg Value.bool h3) (Step.load1 Try.sc4 rfl ((cell_blk (M.rep 0 rfl) 4).trans rfl)))) ?_
  refine tP (vB false) rfl (fun w => (Step.move rfl)) ?_
  refine TW.skip rfl rfl ?_
  refine TW.skip rfl rfl ?_
  refine TW.skip rfl rfl ?_
  refine TW.skip rfl rfl ?_
  refine TW.skip rfl rfl ?_
  refine TW.skip rfl rfl ?_
  refine TW.skip rfl rfl ?_
  refine tP (vB false) rfl (fun w => (Step.pick (t := false) rfl rfl)) ?_
  refine tP (vB false) rfl (fun w => (Step.assign rfl)) ?_
  refine TW.done (fun w8 M => ?_)
  refine W.seq' (W.block (wR (wM (vP sb) (wP (vP sb) (wP (Value.pointer (some ⟨sb, 2, none⟩)) ?_)))))
  refine wS (vB s.back) rfl (Step.load1 Try.sc4 rfl ((cell_blk (M.rep 0 rfl) 2).trans rfl)) (wM (vB s.back) ?_)
  rcases Bool.eq_false_or_eq_true (s.back) with h9 | h9
  ·
   rw [h9]
   refine wM (vB false) (wP (vB true) (wS (vB true) rfl (Step.pick (t := true) rfl rfl) (wM (vB true) (wM (vP sb) (wP (vP sb) ?_)))))
   refine wP (Value.pointer (some ⟨sb, 1, none⟩)) (wS (vS s.to_) rfl (Step.load1 Try.sc9 rfl ((cell_blk (M.rep 0 rfl) 1).trans rfl)) (wP (vB (s.to_.toList == sZ.toList)) (wS (vB (s.to_.toList == sZ.toList)) rfl (Step.pick (t := true) rfl rfl) (wA (vB (s.to_.toList == sZ.toList)) (WL.nil ?_)))))
   refine W.cond (t := s.to_.toList == sZ.toList) rfl (fun h10 => ?_) (fun h10 => ?_)
   ·
    refine wR (wP (Value.func (.func 96) #[] #[(vP b1)]) (wA (Value.func (.func 96) #[] #[(vP b1)]) (WL.nil ?_)))
    refine W.ret ?_
    refine ⟨.inl rfl, (Value.func (.func 96) #[] #[(vP b1)]), ?_, ?_⟩
    · exact ⟨rfl, (Res.r1 (show RV _ _ _ (.tmp 4) (Value.func (.func 96) #[] #[(vP b1)]) from by exact rfl))⟩
    refine ⟨b1, ?_, M.close [0] rfl (by decide) trivial⟩
    rfl
   ·
    exfalso; unfold look1 insideS at hl; try simp only [sEq_dec] at *
    simp_all
  ·
   exfalso; unfold look1 insideS at hl; try simp only [sEq_dec] at *
   simp_all
theorem sc_look2 {G : Nat → Prop} {w : World} (sb : Nat) (s : Scn) (tb : Nat)  (hl : look2 s = true) (M : Mem G (fun _ => False) w [] [bF sb #[(vS s.frm), (vS s.to_), (vB s.back), (vS s.at_), (vB s.told)] 88] w) : Rets Try.prog 57 #[(vP sb), (vP tb)] w fun r w' => r = (Value.func (.func 60) #[(vP tb)] #[]) ∧ Mem G (fun _ => False) w [] [] w' := by
 refine Rets.enter 49 _ Try.func57 rfl Try.ntmps57 Try.results57 (by simp) ?_
 refine wR ?_
 refine WL.box (v := (vP tb)) (c := #[(vP tb)]) M rfl rfl rfl (fun b1 w2 hb1 M => ?_)
 refine wA Value.nilFunc (WL.nil (W.seq' ?_))
 rcases Bool.eq_false_or_eq_true (s.told) with h3 | h3
 ·
  refine W.drawn M [0, 1, 2, 3, 4, 5, 6, 7, 8, 9, 10, 11, 12, 13] [6] [] _ _ (sY sE) (fun _ h => h) Try.mixed (by kernel_rfl) ?_
  refine tP (vP sb) rfl (fun w => (Step.move rfl)) ?_
  refine tP (vP sb) rfl (fun w => sP) ?_
  refine tP (Value.pointer (some ⟨sb, 4, none⟩)) rfl (fun w => sP) ?_
  refine tR (vB true) rfl (fun A w M => (Step.cast (congrArg Value.bool h3) (Step.load1 Try.sc4 rfl ((cell_blk (M.rep 0 rfl) 4).trans rfl)))) ?_
  refine tP (vB true) rfl (fun w => (Step.move rfl)) ?_
  refine tP (vP sb) rfl (fun w => (Step.move rfl)) ?_
  refine TW.callX (ι := Unit) (fun jx v_ => v_ = (vS (startS s))) (fun jx => [bk b1 #[(vP tb)] 26]) (fun jx => [bF sb #[(vS s.frm), (vS s.to_), (vB s.back), (vS s.at_), (vB s.told)] 88]) rfl (by decide) rfl (fun jx => (sY sE)) (fun jx r h => h) (fun A w M => Rets.mono (sc_start sb s (M.enterW0 ⟨(M.wideR0 0 rfl), trivial⟩)) (fun v_ w_ ⟨e_, m⟩ => ⟨(), e_, (M.leaveW0 m).sel [0, 1] rfl (by decide), fun b hb => M.k0F m b hb⟩)) (fun w => CallsF.func Try.en58 rfl) (fun jx v hp hin => ?_)
  replace hp := hp.symm; subst hp
  clear hin
  refine tP (vP sb) rfl (fun w => (Step.move rfl)) ?_
  refine tP (vP sb) rfl (fun w => sP) ?_
  refine tP (Value.pointer (some ⟨sb, 3, none⟩)) rfl (fun w => sP) ?_
  refine tR (vS s.at_) rfl (fun A w M => (Step.load1 Try.sc9 rfl ((cell_blk (M.rep 0 rfl) 3).trans rfl))) ?_
  refine tP (vB ((startS s).toList == s.at_.toList)) rfl (fun w => sP) ?_
  refine tP (vB ((startS s).toList == s.at_.toList)) rfl (fun w => (Step.pick (t := true) rfl rfl)) ?_
  refine tP (vB ((startS s).toList == s.at_.toList)) rfl (fun w => (Step.assign rfl)) ?_
  refine TW.done (fun w4 M => ?_)
  refine W.seq' (W.block (wR (wM (vP sb) (wP (vP sb) (wP (Value.pointer (some ⟨sb, 2, none⟩)) ?_)))))
  refine wS (vB s.back) rfl (Step.load1 Try.sc4 rfl ((cell_blk (M.rep 0 rfl) 2).trans rfl)) (wM (vB s.back) ?_)
  rcases Bool.eq_false_or_eq_true (s.back) with h5 | h5
  ·
   rw [h5]
   refine wM (vB ((startS s).toList == s.at_.toList)) (wP (vB (!((startS s).toList == s.at_.toList))) (wS (vB (!((startS s).toList == s.at_.toList))) rfl (Step.pick (t := true) rfl rfl) (wM (vB (!((startS s).toList == s.at_.toList))) ?_)))
   rcases Bool.eq_false_or_eq_true (!((startS s).toList == s.at_.toList)) with h6 | h6
   ·
    rw [h6]
    refine wM (vP sb) (wP (vP sb) (wP (Value.pointer (some ⟨sb, 1, none⟩)) (wS (vS s.to_) rfl (Step.load1 Try.sc9 rfl ((cell_blk (M.rep 0 rfl) 1).trans rfl)) (wP (vB (s.to_.toList == sZ.toList)) (wS (vB (s.to_.toList == sZ.toList)) rfl (Step.pick (t := true) rfl rfl) ?_)))))
    refine wA (vB (s.to_.toList == sZ.toList)) (WL.nil ?_)
    refine W.cond (t := s.to_.toList == sZ.toList) rfl (fun h7 => ?_) (fun h7 => ?_)
    ·
     exfalso; unfold look2 look1 insideS at hl; try simp only [sEq_dec] at *
     simp_all
    ·
     refine wR (wM (vP sb) (wP (vP sb) (wP (Value.pointer (some ⟨sb, 2, none⟩)) (wS (vB true) rfl (Step.cast (congrArg Value.bool h5) (Step.load1 Try.sc4 rfl ((cell_blk (M.rep 0 rfl) 2).trans rfl))) (wA (vB true) ?_)))))
     refine WL.nil ?_
     refine W.cond (t := true) rfl (fun _ => ?_) (fun h => by cases h)
     refine wR (wS (vP tb) rfl (Step.load1 Try.sc26 rfl ((M.cell 0 rfl 0).trans rfl)) (wP (Value.func (.func 60) #[(vP tb)] #[]) (wA (Value.func (.func 60) #[(vP tb)] #[]) (WL.nil ?_))))
     refine W.ret ?_
     refine ⟨.inl rfl, (Value.func (.func 60) #[(vP tb)] #[]), ?_, ?_⟩
     · exact ⟨rfl, (Res.r1 (show RV _ _ _ (.tmp 4) (Value.func (.func 60) #[(vP tb)] #[]) from by exact rfl))⟩
     refine ⟨?_, M.close [] rfl (by decide) trivial⟩
     rfl
   ·
    rw [h6]
    refine WL.pass rfl ?_
    refine WL.pass rfl ?_
    refine WL.pass rfl ?_
    refine WL.pass rfl ?_
    refine WL.pass rfl ?_
    refine wS (vB false) rfl (Step.pick (t := false) rfl rfl) (wA (vB false) (WL.nil ?_))
    refine W.cond (t := false) rfl (fun h => by cases h) (fun _ => ?_)
    refine wR (wM (vP sb) (wP (vP sb) (wP (Value.pointer (some ⟨sb, 2, none⟩)) (wS (vB true) rfl (Step.cast (congrArg Value.bool h5) (Step.load1 Try.sc4 rfl ((cell_blk (M.rep 0 rfl) 2).trans rfl))) (wA (vB true) ?_)))))
    refine WL.nil ?_
    refine W.cond (t := true) rfl (fun _ => ?_) (fun h => by cases h)
    refine wR (wS (vP tb) rfl (Step.load1 Try.sc26 rfl ((M.cell 0 rfl 0).trans rfl)) (wP (Value.func (.func 60) #[(vP tb)] #[]) (wA (Value.func (.func 60) #[(vP tb)] #[]) (WL.nil ?_))))
    refine W.ret ?_
    refine ⟨.inl rfl, (Value.func (.func 60) #[(vP tb)] #[]), ?_, ?_⟩
    · exact ⟨rfl, (Res.r1 (show RV _ _ _ (.tmp 4) (Value.func (.func 60) #[(vP tb)] #[]) from by exact rfl))⟩
    refine ⟨?_, M.close [] rfl (by decide) trivial⟩
    rfl
  ·
   exfalso; unfold look2 look1 insideS at hl; try simp only [sEq_dec] at *
   simp_all
 ·
  refine W.drawn M [0, 1, 2, 3, 4, 5, 6, 7, 8, 9, 10, 11, 12, 13] [6] [] _ _ (sY sE) (fun _ h => h) Try.mixed (by kernel_rfl) ?_
  refine tP (vP sb) rfl (fun w => (Step.move rfl)) ?_
  refine tP (vP sb) rfl (fun w => sP) ?_
  refine tP (Value.pointer (some ⟨sb, 4, none⟩)) rfl (fun w => sP) ?_
  refine tR (vB false) rfl (fun A w M => (Step.cast (congrArg Value.bool h3) (Step.load1 Try.sc4 rfl ((cell_blk (M.rep 0 rfl) 4).trans rfl)))) ?_
  refine tP (vB false) rfl (fun w => (Step.move rfl)) ?_
  refine TW.skip rfl rfl ?_
  refine TW.skip rfl rfl ?_
  refine TW.skip rfl rfl ?_
  refine TW.skip rfl rfl ?_
  refine TW.skip rfl rfl ?_
  refine TW.skip rfl rfl ?_
  refine TW.skip rfl rfl ?_
  refine tP (vB false) rfl (fun w => (Step.pick (t := false) rfl rfl)) ?_
  refine tP (vB false) rfl (fun w => (Step.assign rfl)) ?_
  refine TW.done (fun w8 M => ?_)
  refine W.seq' (W.block (wR (wM (vP sb) (wP (vP sb) (wP (Value.pointer (some ⟨sb, 2, none⟩)) ?_)))))
  refine wS (vB s.back) rfl (Step.load1 Try.sc4 rfl ((cell_blk (M.rep 0 rfl) 2).trans rfl)) (wM (vB s.back) ?_)
  rcases Bool.eq_false_or_eq_true (s.back) with h9 | h9
  ·
   rw [h9]
   refine wM (vB false) (wP (vB true) (wS (vB true) rfl (Step.pick (t := true) rfl rfl) (wM (vB true) (wM (vP sb) (wP (vP sb) ?_)))))
   refine wP (Value.pointer (some ⟨sb, 1, none⟩)) (wS (vS s.to_) rfl (Step.load1 Try.sc9 rfl ((cell_blk (M.rep 0 rfl) 1).trans rfl)) (wP (vB (s.to_.toList == sZ.toList)) (wS (vB (s.to_.toList == sZ.toList)) rfl (Step.pick (t := true) rfl rfl) (wA (vB (s.to_.toList == sZ.toList)) (WL.nil ?_)))))
   refine W.cond (t := s.to_.toList == sZ.toList) rfl (fun h10 => ?_) (fun h10 => ?_)
   ·
    exfalso; unfold look2 look1 insideS at hl; try simp only [sEq_dec] at *
    simp_all
   ·
    refine wR (wM (vP sb) (wP (vP sb) (wP (Value.pointer (some ⟨sb, 2, none⟩)) (wS (vB true) rfl (Step.cast (congrArg Value.bool h9) (Step.load1 Try.sc4 rfl ((cell_blk (M.rep 0 rfl) 2).trans rfl))) (wA (vB true) ?_)))))
    refine WL.nil ?_
    refine W.cond (t := true) rfl (fun _ => ?_) (fun h => by cases h)
    refine wR (wS (vP tb) rfl (Step.load1 Try.sc26 rfl ((M.cell 0 rfl 0).trans rfl)) (wP (Value.func (.func 60) #[(vP tb)] #[]) (wA (Value.func (.func 60) #[(vP tb)] #[]) (WL.nil ?_))))
    refine W.ret ?_
    refine ⟨.inl rfl, (Value.func (.func 60) #[(vP tb)] #[]), ?_, ?_⟩
    · exact ⟨rfl, (Res.r1 (show RV _ _ _ (.tmp 4) (Value.func (.func 60) #[(vP tb)] #[]) from by exact rfl))⟩
    refine ⟨?_, M.close [] rfl (by decide) trivial⟩
    rfl
  ·
   exfalso; unfold look2 look1 insideS at hl; try simp only [sEq_dec] at *
   simp_all
theorem sc_look3 {G : Nat → Prop} {w : World} (sb : Nat) (s : Scn) (tb : Nat)  (hl : look3 s = true) (M : Mem G (fun _ => False) w [] [bF sb #[(vS s.frm), (vS s.to_), (vB s.back), (vS s.at_), (vB s.told)] 88] w) : Rets Try.prog 57 #[(vP sb), (vP tb)] w fun r w' => r = (Value.func (.func 72) #[(vP tb)] #[]) ∧ Mem G (fun _ => False) w [] [] w' := by
 refine Rets.enter 49 _ Try.func57 rfl Try.ntmps57 Try.results57 (by simp) ?_
 refine wR ?_
 refine WL.box (v := (vP tb)) (c := #[(vP tb)]) M rfl rfl rfl (fun b1 w2 hb1 M => ?_)
 refine wA Value.nilFunc (WL.nil (W.seq' ?_))
 rcases Bool.eq_false_or_eq_true (s.told) with h3 | h3
 ·
  refine W.drawn M [0, 1, 2, 3, 4, 5, 6, 7, 8, 9, 10, 11, 12, 13] [6] [] _ _ (sY sE) (fun _ h => h) Try.mixed (by kernel_rfl) ?_
  refine tP (vP sb) rfl (fun w => (Step.move rfl)) ?_
  refine tP (vP sb) rfl (fun w => sP) ?_
  refine tP (Value.pointer (some ⟨sb, 4, none⟩)) rfl (fun w => sP) ?_
  refine tR (vB true) rfl (fun A w M => (Step.cast (congrArg Value.bool h3) (Step.load1 Try.sc4 rfl ((cell_blk (M.rep 0 rfl) 4).trans rfl)))) ?_
  refine tP (vB true) rfl (fun w => (Step.move rfl)) ?_
  refine tP (vP sb) rfl (fun w => (Step.move rfl)) ?_
  refine TW.callX (ι := Unit) (fun jx v_ => v_ = (vS (startS s))) (fun jx => [bk b1 #[(vP tb)] 26]) (fun jx => [bF sb #[(vS s.frm), (vS s.to_), (vB s.back), (vS s.at_), (vB s.told)] 88]) rfl (by decide) rfl (fun jx => (sY sE)) (fun jx r h => h) (fun A w M => Rets.mono (sc_start sb s (M.enterW0 ⟨(M.wideR0 0 rfl), trivial⟩)) (fun v_ w_ ⟨e_, m⟩ => ⟨(), e_, (M.leaveW0 m).sel [0, 1] rfl (by decide), fun b hb => M.k0F m b hb⟩)) (fun w => CallsF.func Try.en58 rfl) (fun jx v hp hin => ?_)
  replace hp := hp.symm; subst hp
  clear hin
  refine tP (vP sb) rfl (fun w => (Step.move rfl)) ?_
  refine tP (vP sb) rfl (fun w => sP) ?_
  refine tP (Value.pointer (some ⟨sb, 3, none⟩)) rfl (fun w => sP) ?_
  refine tR (vS s.at_) rfl (fun A w M => (Step.load1 Try.sc9 rfl ((cell_blk (M.rep 0 rfl) 3).trans rfl))) ?_
  refine tP (vB ((startS s).toList == s.at_.toList)) rfl (fun w => sP) ?_
  refine tP (vB ((startS s).toList == s.at_.toList)) rfl (fun w => (Step.pick (t := true) rfl rfl)) ?_
  refine tP (vB ((startS s).toList == s.at_.toList)) rfl (fun w => (Step.assign rfl)) ?_
  refine TW.done (fun w4 M => ?_)
  refine W.seq' (W.block (wR (wM (vP sb) (wP (vP sb) (wP (Value.pointer (some ⟨sb, 2, none⟩)) ?_)))))
  refine wS (vB s.back) rfl (Step.load1 Try.sc4 rfl ((cell_blk (M.rep 0 rfl) 2).trans rfl)) (wM (vB s.back) ?_)
  rcases Bool.eq_false_or_eq_true (s.back) with h5 | h5
  ·
   exfalso; unfold look3 insideS at hl; try simp only [sEq_dec] at *
   simp_all
  ·
   rw [h5]
   refine WL.pass rfl ?_
   refine WL.pass rfl ?_
   refine wS (vB false) rfl (Step.pick (t := false) rfl rfl) (wM (vB false) ?_)
   refine WL.pass rfl ?_
   refine WL.pass rfl ?_
   refine WL.pass rfl ?_
   refine WL.pass rfl ?_
   refine WL.pass rfl ?_
   refine wS (vB false) rfl (Step.pick (t := false) rfl rfl) (wA (vB false) (WL.nil ?_))
   refine W.cond (t := false) rfl (fun h => by cases h) (fun _ => ?_)
   refine wR (wM (vP sb) (wP (vP sb) (wP (Value.pointer (some ⟨sb, 2, none⟩)) (wS (vB false) rfl (Step.cast (congrArg Value.bool h5) (Step.load1 Try.sc4 rfl ((cell_blk (M.rep 0 rfl) 2).trans rfl))) (wA (vB false) ?_)))))
   refine WL.nil ?_
   refine W.cond (t := false) rfl (fun h => by cases h) (fun _ => ?_)
   refine wR (wM (vB ((startS s).toList == s.at_.toList)) (wA (vB ((startS s).toList == s.at_.toList)) (WL.nil ?_)))
   refine W.cond (t := (startS s).toList == s.at_.toList) rfl (fun h6 => ?_) (fun h6 => ?_)
   ·
    refine wR (wS (vP tb) rfl (Step.load1 Try.sc26 rfl ((M.cell 0 rfl 0).trans rfl)) (wP (Value.func (.func 72) #[(vP tb)] #[]) (wA (Value.func (.func 72) #[(vP tb)] #[]) (WL.nil ?_))))
    refine W.ret ?_
    refine ⟨.inl rfl, (Value.func (.func 72) #[(vP tb)] #[]), ?_, ?_⟩
    · exact ⟨rfl, (Res.r1 (show RV _ _ _ (.tmp 4) (Value.func (.func 72) #[(vP tb)] #[]) from by exact rfl))⟩
    refine ⟨?_, M.close [] rfl (by decide) trivial⟩
    rfl
   ·
    exfalso; unfold look3 insideS at hl; try simp only [sEq_dec] at *
    simp_all
 ·
  exfalso; unfold look3 insideS at hl; try simp only [sEq_dec] at *
  simp_all
theorem sc_look4 {G : Nat → Prop} {w : World} (sb : Nat) (s : Scn) (tb : Nat)  (hl : look4 s = true) (M : Mem G (fun _ => False) w [] [bF sb #[(vS s.frm), (vS s.to_), (vB s.back), (vS s.at_), (vB s.told)] 88] w) : Rets Try.prog 57 #[(vP sb), (vP tb)] w fun r w' => r = (Value.func (.func 45) #[(vP tb)] #[]) ∧ Mem G (fun _ => False) w [] [] w' := by
 refine Rets.enter 49 _ Try.func57 rfl Try.ntmps57 Try.results57 (by simp) ?_
 refine wR ?_
 refine WL.box (v := (vP tb)) (c := #[(vP tb)]) M rfl rfl rfl (fun b1 w2 hb1 M => ?_)
 refine wA Value.nilFunc (WL.nil (W.seq' ?_))
 rcases Bool.eq_false_or_eq_true (s.told) with h3 | h3
 ·
  refine W.drawn M [0, 1, 2, 3, 4, 5, 6, 7, 8, 9, 10, 11, 12, 13] [6] [] _ _ (sY sE) (fun _ h => h) Try.mixed (by kernel_rfl) ?_
  refine tP (vP sb) rfl (fun w => (Step.move rfl)) ?_
  refine tP (vP sb) rfl (fun w => sP) ?_
  refine tP (Value.pointer (some ⟨sb, 4, none⟩)) rfl (fun w => sP) ?_
  refine tR (vB true) rfl (fun A w M => (Step.cast (congrArg Value.bool h3) (Step.load1 Try.sc4 rfl ((cell_blk (M.rep 0 rfl) 4).trans rfl)))) ?_
  refine tP (vB true) rfl (fun w => (Step.move rfl)) ?_
  refine tP (vP sb) rfl (fun w => (Step.move rfl)) ?_
  refine TW.callX (ι := Unit) (fun jx v_ => v_ = (vS (startS s))) (fun jx => [bk b1 #[(vP tb)] 26]) (fun jx => [bF sb #[(vS s.frm), (vS s.to_), (vB s.back), (vS s.at_), (vB s.told)] 88]) rfl (by decide) rfl (fun jx => (sY sE)) (fun jx r h => h) (fun A w M => Rets.mono (sc_start sb s (M.enterW0 ⟨(M.wideR0 0 rfl), trivial⟩)) (fun v_ w_ ⟨e_, m⟩ => ⟨(), e_, (M.leaveW0 m).sel [0, 1] rfl (by decide), fun b hb => M.k0F m b hb⟩)) (fun w => CallsF.func Try.en58 rfl) (fun jx v hp hin => ?_)
  replace hp := hp.symm; subst hp
  clear hin
  refine tP (vP sb) rfl (fun w => (Step.move rfl)) ?_
  refine tP (vP sb) rfl (fun w => sP) ?_
  refine tP (Value.pointer (some ⟨sb, 3, none⟩)) rfl (fun w => sP) ?_
  refine tR (vS s.at_) rfl (fun A w M => (Step.load1 Try.sc9 rfl ((cell_blk (M.rep 0 rfl) 3).trans rfl))) ?_
  refine tP (vB ((startS s).toList == s.at_.toList)) rfl (fun w => sP) ?_
  refine tP (vB ((startS s).toList == s.at_.toList)) rfl (fun w => (Step.pick (t := true) rfl rfl)) ?_
  refine tP (vB ((startS s).toList == s.at_.toList)) rfl (fun w => (Step.assign rfl)) ?_
  refine TW.done (fun w4 M => ?_)
  refine W.seq' (W.block (wR (wM (vP sb) (wP (vP sb) (wP (Value.pointer (some ⟨sb, 2, none⟩)) ?_)))))
  refine wS (vB s.back) rfl (Step.load1 Try.sc4 rfl ((cell_blk (M.rep 0 rfl) 2).trans rfl)) (wM (vB s.back) ?_)
  rcases Bool.eq_false_or_eq_true (s.back) with h5 | h5
  ·
   exfalso; unfold look4 insideS at hl; try simp only [sEq_dec] at *
   simp_all
  ·
   rw [h5]
   refine WL.pass rfl ?_
   refine WL.pass rfl ?_
   refine wS (vB false) rfl (Step.pick (t := false) rfl rfl) (wM (vB false) ?_)
   refine WL.pass rfl ?_
   refine WL.pass rfl ?_
   refine WL.pass rfl ?_
   refine WL.pass rfl ?_
   refine WL.pass rfl ?_
   refine wS (vB false) rfl (Step.pick (t := false) rfl rfl) (wA (vB false) (WL.nil ?_))
   refine W.cond (t := false) rfl (fun h => by cases h) (fun _ => ?_)
   refine wR (wM (vP sb) (wP (vP sb) (wP (Value.pointer (some ⟨sb, 2, none⟩)) (wS (vB false) rfl (Step.cast (congrArg Value.bool h5) (Step.load1 Try.sc4 rfl ((cell_blk (M.rep 0 rfl) 2).trans rfl))) (wA (vB false) ?_)))))
   refine WL.nil ?_
   refine W.cond (t := false) rfl (fun h => by cases h) (fun _ => ?_)
   refine wR (wM (vB ((startS s).toList == s.at_.toList)) (wA (vB ((startS s).toList == s.at_.toList)) (WL.nil ?_)))
   refine W.cond (t := (startS s).toList == s.at_.toList) rfl (fun h6 => ?_) (fun h6 => ?_)
   ·
    exfalso; unfold look4 insideS at hl; try simp only [sEq_dec] at *
    simp_all
   ·
    refine W.skip (wR (wS (vP tb) rfl (Step.load1 Try.sc26 rfl ((M.cell 0 rfl 0).trans rfl)) (wP (Value.func (.func 45) #[(vP tb)] #[]) (wA (Value.func (.func 45) #[(vP tb)] #[]) (WL.nil ?_)))))
    refine W.ret ?_
    refine ⟨.inl rfl, (Value.func (.func 45) #[(vP tb)] #[]), ?_, ?_⟩
    · exact ⟨rfl, (Res.r1 (show RV _ _ _ (.tmp 4) (Value.func (.func 45) #[(vP tb)] #[]) from by exact rfl))⟩
    refine ⟨?_, M.close [] rfl (by decide) trivial⟩
    rfl
 ·
  refine W.drawn M [0, 1, 2, 3, 4, 5, 6, 7, 8, 9, 10, 11, 12, 13] [6] [] _ _ (sY sE) (fun _ h => h) Try.mixed (by kernel_rfl) ?_
  refine tP (vP sb) rfl (fun w => (Step.move rfl)) ?_
  refine tP (vP sb) rfl (fun w => sP) ?_
  refine tP (Value.pointer (some ⟨sb, 4, none⟩)) rfl (fun w => sP) ?_
  refine tR (vB false) rfl (fun A w M => (Step.cast (congrArg Value.bool h3) (Step.load1 Try.sc4 rfl ((cell_blk (M.rep 0 rfl) 4).trans rfl)))) ?_
  refine tP (vB false) rfl (fun w => (Step.move rfl)) ?_
  refine TW.skip rfl rfl ?_
  refine TW.skip rfl rfl ?_
  refine TW.skip rfl rfl ?_
  refine TW.skip rfl rfl ?_
  refine TW.skip rfl rfl ?_
  refine TW.skip rfl rfl ?_
  refine TW.skip rfl rfl ?_
  refine tP (vB false) rfl (fun w => (Step.pick (t := false) rfl rfl)) ?_
  refine tP (vB false) rfl (fun w => (Step.assign rfl)) ?_
  refine TW.done (fun w7 M => ?_)
  refine W.seq' (W.block (wR (wM (vP sb) (wP (vP sb) (wP (Value.pointer (some ⟨sb, 2, none⟩)) ?_)))))
  refine wS (vB s.back) rfl (Step.load1 Try.sc4 rfl ((cell_blk (M.rep 0 rfl) 2).trans rfl)) (wM (vB s.back) ?_)
  rcases Bool.eq_false_or_eq_true (s.back) with h8 | h8
  ·
   exfalso; unfold look4 insideS at hl; try simp only [sEq_dec] at *
   simp_all
  ·
   rw [h8]
   refine WL.pass rfl ?_
   refine WL.pass rfl ?_
   refine wS (vB false) rfl (Step.pick (t := false) rfl rfl) (wM (vB false) ?_)
   refine WL.pass rfl ?_
   refine WL.pass rfl ?_
   refine WL.pass rfl ?_
   refine WL.pass rfl ?_
   refine WL.pass rfl ?_
   refine wS (vB false) rfl (Step.pick (t := false) rfl rfl) (wA (vB false) (WL.nil ?_))
   refine W.cond (t := false) rfl (fun h => by cases h) (fun _ => ?_)
   refine wR (wM (vP sb) (wP (vP sb) (wP (Value.pointer (some ⟨sb, 2, none⟩)) (wS (vB false) rfl (Step.cast (congrArg Value.bool h8) (Step.load1 Try.sc4 rfl ((cell_blk (M.rep 0 rfl) 2).trans rfl))) (wA (vB false) ?_)))))
   refine WL.nil ?_
   refine W.cond (t := false) rfl (fun h => by cases h) (fun _ => ?_)
   refine wR (wM (vB false) (wA (vB false) (WL.nil ?_)))
   refine W.cond (t := false) rfl (fun h => by cases h) (fun _ => ?_)
   refine W.skip (wR (wS (vP tb) rfl (Step.load1 Try.sc26 rfl ((M.cell 0 rfl 0).trans rfl)) (wP (Value.func (.func 45) #[(vP tb)] #[]) (wA (Value.func (.func 45) #[(vP tb)] #[]) (WL.nil ?_)))))
   refine W.ret ?_
   refine ⟨.inl rfl, (Value.func (.func 45) #[(vP tb)] #[]), ?_, ?_⟩
   · exact ⟨rfl, (Res.r1 (show RV _ _ _ (.tmp 4) (Value.func (.func 45) #[(vP tb)] #[]) from by exact rfl))⟩
   refine ⟨?_, M.close [] rfl (by decide) trivial⟩
   rfl
end Go.Proofs
set_option maxRecDepth 100000
namespace Go.Proofs
open Go Tp
theorem Try.en25 : Enters Try.prog 25 := fun _ _ => by kernel_rfl
theorem Try.en57 : Enters Try.prog 57 := fun _ _ => by kernel_rfl
theorem Try.en59 : Enters Try.prog 59 := fun _ _ => by kernel_rfl
theorem Try.en96 : Enters Try.prog 96 := fun _ _ => by kernel_rfl
theorem sc_peek {G X : Nat → Prop} {w : World} (sb : Nat) (s : Scn) (tb : Nat) (S : Nat → Prop) (row : List THit) (c : Nat)  (hc : c ≤ 900) (M : Mem G X w [tT S tb row c] [bF sb #[(vS s.frm), (vS s.to_), (vB s.back), (vS s.at_), (vB s.told)] 88] w) : Rets Try.prog 25 #[(vP sb), (vP tb)] w fun r w' => r = (Value.tuple #[(Value.agg #[(vS (((peekR s row).1).key)), (vI (((peekR s row).1).val))]), (vB ((peekR s row).2))]) ∧ Mem G X w [tT S tb row c] [] w' := by
 refine Rets.enter 35 _ Try.func25 rfl Try.ntmps25 Try.results25 (by simp) ?_
 obtain ⟨hu_, hrc_⟩ := tabC_up (M.chunk 0 rfl).inv
 refine wR ?_
 refine WL.alloc (c := #[(vS sZ), (vI 0)]) M rfl Try.el41.zero rfl (fun b1 w2 hb1 M => ?_)
 refine wA (vB false) (WL.nil (W.seq' (wR (wM (vP sb) (wP (vB false) ?_)))))
 refine wM (vB false) (wM (vP tb) (wP (vB false) (wS (vB false) rfl (Step.pick (t := false) rfl rfl) (WL.nil ?_))))
 refine W.cond (t := false) rfl (fun h => by cases h) (fun _ => ?_)
 refine W.skip (wR (wM (vP sb) (wM (vP tb) ?_)))
 rcases Bool.eq_false_or_eq_true (look1 s) with h3 | h3
 ·
  refine WL.callX rfl (sc_look1 sb s tb h3 (M.enterW0 ⟨(M.wideR0 0 rfl), trivial⟩)) (CallsF.func Try.en57 rfl) ?_
  rintro _ w5 ⟨b4, rfl, m⟩
  replace M := M.leaveW0 m
  clear m
  refine wM (vP sb) ?_
  refine WL.callX rfl (sc_start sb s (M.enterW0 ⟨(M.wideR0 0 rfl), trivial⟩)) (CallsF.func Try.en58 rfl) ?_
  rintro _ w6 ⟨rfl, m⟩
  replace M := M.leaveW0 m
  clear m
  have fq := M.frm [tT S tb row c] [bk b4 #[(vP tb)] 26, bk b1 #[(vS sZ), (vI 0)] 41] [2, 0, 1] rfl
  refine WL.callX rfl (sc_last (startS s) b4 tb S row c (by first | assumption | omega) (M.eF fq ⟨(M.cF fq 0 rfl), trivial⟩)) (CallsF.value Try.en96 rfl rfl rfl) ?_
  rintro _ w7 ⟨rfl, m⟩
  replace M := M.lF fq m
  clear m
  refine wM (Value.tuple #[(Value.agg #[(vS (((tailL row).1).key)), (vI (((tailL row).1).val))]), (vB ((tailL row).2))]) (wP (Value.agg #[(vS (((tailL row).1).key)), (vI (((tailL row).1).val))]) (wP (vB ((tailL row).2)) ?_))
  refine WL.alloc (c := #[(vS sZ), (vI 0)]) M rfl Try.el41.zero rfl (fun b8 w9 hb8 M => ?_)
  refine WL.store (v := (Value.agg #[(vS (((tailL row).1).key)), (vI (((tailL row).1).val))])) (cs := [(vS (((tailL row).1).key)), (vI (((tailL row).1).val))]) (c' := #[(vS (((tailL row).1).key)), (vI (((tailL row).1).val))]) M 0 rfl rfl Try.el41.sized rfl rfl rfl rfl (Nat.le_of_ble_eq_true rfl) (cel_cons rfl (cel_cons rfl cel_nil)) rfl rfl (fun w10 M => ?_)
  refine wA (vB ((tailL row).2)) (WL.nil (W.seq' (W.seq' ?_)))
  replace M := M.loseI 2
  refine W.region rfl (wM (vB ((tailL row).2)) (wP (vB (!((tailL row).2))) (wM (vB (!((tailL row).2))) ?_)))
  rcases Bool.eq_false_or_eq_true (!((tailL row).2)) with h11 | h11
  ·
   rw [h11]
   refine WL.pass rfl ?_
   refine WL.pass rfl ?_
   refine WL.pass rfl ?_
   refine WL.pass rfl ?_
   refine WL.pass rfl ?_
   refine wS (vB true) rfl (Step.pick (t := true) rfl rfl) (WL.nil ?_)
   refine W.cond (t := true) rfl (fun _ => ?_) (fun h => by cases h)
   refine wR (wP (Value.agg #[(vS sZ), (vI 0)]) ?_)
   refine WL.store (v := (Value.agg #[(vS sZ), (vI 0)])) (cs := [(vS sZ), (vI 0)]) (c' := #[(vS sZ), (vI 0)]) M 2 rfl rfl Try.el41.sized rfl rfl rfl rfl (Nat.le_of_ble_eq_true rfl) (cel_cons rfl (cel_cons rfl cel_nil)) rfl rfl (fun w12 M => ?_)
   refine wA (vB false) (WL.nil ?_)
   refine W.ret ?_
   refine ⟨.inl rfl, (Value.tuple #[(Value.agg #[(vS sZ), (vI 0)]), (vB false)]), ?_, ?_⟩
   · exact ⟨rfl, (Res.r2 (RV.cellN Try.ag41 rfl (M.blk 2 rfl) rfl) (show RV _ _ _ (.tmp 5) (vB false) from by exact rfl))⟩
   refine ⟨?_, M.close [1] rfl (by decide) trivial⟩
   rw [peek1 hu_ (by assumption)]
   rw [chk_miss (by simpa using h11)]; rfl
  ·
   rw [h11]
   refine wM (vP sb) (wP (vP b8) (wS (vS (((tailL row).1).key)) rfl (Step.load1 Try.sc9 rfl ((M.cell 0 rfl 0).trans rfl)) ?_))
   refine WL.callX rfl (sc_within sb s (((tailL row).1).key) (M.enterW0 ⟨(M.wideR0 0 rfl), trivial⟩)) (CallsF.func Try.en59 rfl) ?_
   rintro _ w13 ⟨rfl, m⟩
   replace M := M.leaveW0 m
   clear m
   refine wP (vB (!(withinS s (((tailL row).1).key)))) (wS (vB (!(withinS s (((tailL row).1).key)))) rfl (Step.pick (t := false) rfl rfl) (WL.nil ?_))
   refine W.cond (t := !(withinS s (((tailL row).1).key))) rfl (fun h14 => ?_) (fun h14 => ?_)
   ·
    refine wR (wP (Value.agg #[(vS sZ), (vI 0)]) ?_)
    refine WL.store (v := (Value.agg #[(vS sZ), (vI 0)])) (cs := [(vS sZ), (vI 0)]) (c' := #[(vS sZ), (vI 0)]) M 2 rfl rfl Try.el41.sized rfl rfl rfl rfl (Nat.le_of_ble_eq_true rfl) (cel_cons rfl (cel_cons rfl cel_nil)) rfl rfl (fun w15 M => ?_)
    refine wA (vB false) (WL.nil ?_)
    refine W.ret ?_
    refine ⟨.inl rfl, (Value.tuple #[(Value.agg #[(vS sZ), (vI 0)]), (vB false)]), ?_, ?_⟩
    · exact ⟨rfl, (Res.r2 (RV.cellN Try.ag41 rfl (M.blk 2 rfl) rfl) (show RV _ _ _ (.tmp 5) (vB false) from by exact rfl))⟩
    refine ⟨?_, M.close [1] rfl (by decide) trivial⟩
    rw [peek1 hu_ (by assumption)]
    rw [chk_out (by simpa using h14)]; rfl
   ·
    refine W.skip (wR (wS (Value.agg #[(vS (((tailL row).1).key)), (vI (((tailL row).1).val))]) rfl (Step.loadN Try.ag41 rfl (M.blk 0 rfl) (Nat.le_of_ble_eq_true rfl) rfl) ?_))
    refine WL.store (v := (Value.agg #[(vS (((tailL row).1).key)), (vI (((tailL row).1).val))])) (cs := [(vS (((tailL row).1).key)), (vI (((tailL row).1).val))]) (c' := #[(vS (((tailL row).1).key)), (vI (((tailL row).1).val))]) M 2 rfl rfl Try.el41.sized rfl rfl rfl rfl (Nat.le_of_ble_eq_true rfl) (cel_cons rfl (cel_cons rfl cel_nil)) rfl rfl (fun w16 M => ?_)
    refine wA (vB true) (WL.nil ?_)
    refine W.ret ?_
    refine ⟨.inl rfl, (Value.tuple #[(Value.agg #[(vS (((tailL row).1).key)), (vI (((tailL row).1).val))]), (vB true)]), ?_, ?_⟩
    · exact ⟨rfl, (Res.r2 (RV.cellN Try.ag41 rfl (M.blk 2 rfl) rfl) (show RV _ _ _ (.tmp 5) (vB true) from by exact rfl))⟩
    refine ⟨?_, M.close [1] rfl (by decide) trivial⟩
    rw [peek1 hu_ (by assumption)]
    rw [chk_in (by simpa using h11) (by simpa using h14)]; first | rfl | (simp_all; done)
 ·
  rcases Bool.eq_false_or_eq_true (look2 s) with h17 | h17
  ·
   refine WL.callX rfl (sc_look2 sb s tb h17 (M.enterW0 ⟨(M.wideR0 0 rfl), trivial⟩)) (CallsF.func Try.en57 rfl) ?_
   rintro _ w18 ⟨rfl, m⟩
   replace M := M.leaveW0 m
   clear m
   refine wM (vP sb) ?_
   refine WL.callX rfl (sc_start sb s (M.enterW0 ⟨(M.wideR0 0 rfl), trivial⟩)) (CallsF.func Try.en58 rfl) ?_
   rintro _ w19 ⟨rfl, m⟩
   replace M := M.leaveW0 m
   clear m
   have fq := M.frm [tT S tb row c] [bk b1 #[(vS sZ), (vI 0)] 41] [1, 0] rfl
   refine WL.callX rfl (T_before tb S row c (startS s) (by first | assumption | omega) (M.eF fq trivial)) (CallsF.value Try.en60 rfl rfl rfl) ?_
   rintro _ w20 ⟨rfl, m⟩
   replace M := M.lF fq m
   clear m
   refine wM (Value.tuple #[(Value.agg #[(vS (((beforeL row (startS s)).1).key)), (vI (((beforeL row (startS s)).1).val))]), (vB ((beforeL row (startS s)).2))]) (wP (Value.agg #[(vS (((beforeL row (startS s)).1).key)), (vI (((beforeL row (startS s)).1).val))]) (wP (vB ((beforeL row (startS s)).2)) ?_))
   refine WL.alloc (c := #[(vS sZ), (vI 0)]) M rfl Try.el41.zero rfl (fun b21 w22 hb21 M => ?_)
   refine WL.store (v := (Value.agg #[(vS (((beforeL row (startS s)).1).key)), (vI (((beforeL row (startS s)).1).val))])) (cs := [(vS (((beforeL row (startS s)).1).key)), (vI (((beforeL row (startS s)).1).val))]) (c' := #[(vS (((beforeL row (startS s)).1).key)), (vI (((beforeL row (startS s)).1).val))]) M 0 rfl rfl Try.el41.sized rfl rfl rfl rfl (Nat.le_of_ble_eq_true rfl) (cel_cons rfl (cel_cons rfl cel_nil)) rfl rfl (fun w23 M => ?_)
   refine wA (vB ((beforeL row (startS s)).2)) (WL.nil (W.seq' (wR (wM (vB ((beforeL row (startS s)).2)) (wP (vB (!((beforeL row (startS s)).2))) ?_)))))
   refine wM (vB (!((beforeL row (startS s)).2))) ?_
   rcases Bool.eq_false_or_eq_true (!((beforeL row (startS s)).2)) with h24 | h24
   ·
    rw [h24]
    refine WL.pass rfl ?_
    refine WL.pass rfl ?_
    refine WL.pass rfl ?_
    refine WL.pass rfl ?_
    refine WL.pass rfl ?_
    refine wS (vB true) rfl (Step.pick (t := true) rfl rfl) (WL.nil ?_)
    refine W.cond (t := true) rfl (fun _ => ?_) (fun h => by cases h)
    refine wR (wP (Value.agg #[(vS sZ), (vI 0)]) ?_)
    refine WL.store (v := (Value.agg #[(vS sZ), (vI 0)])) (cs := [(vS sZ), (vI 0)]) (c' := #[(vS sZ), (vI 0)]) M 2 rfl rfl Try.el41.sized rfl rfl rfl rfl (Nat.le_of_ble_eq_true rfl) (cel_cons rfl (cel_cons rfl cel_nil)) rfl rfl (fun w25 M => ?_)
    refine wA (vB false) (WL.nil ?_)
    refine W.ret ?_
    refine ⟨.inl rfl, (Value.tuple #[(Value.agg #[(vS sZ), (vI 0)]), (vB false)]), ?_, ?_⟩
    · exact ⟨rfl, (Res.r2 (RV.cellN Try.ag41 rfl (M.blk 2 rfl) rfl) (show RV _ _ _ (.tmp 5) (vB false) from by exact rfl))⟩
    refine ⟨?_, M.close [1] rfl (by decide) trivial⟩
    rw [peek2 hu_ (by assumption)]
    rw [chk_miss (by simpa using h24)]; rfl
   ·
    rw [h24]
    refine wM (vP sb) (wP (vP b21) (wS (vS (((beforeL row (startS s)).1).key)) rfl (Step.load1 Try.sc9 rfl ((M.cell 0 rfl 0).trans rfl)) ?_))
    refine WL.callX rfl (sc_within sb s (((beforeL row (startS s)).1).key) (M.enterW0 ⟨(M.wideR0 0 rfl), trivial⟩)) (CallsF.func Try.en59 rfl) ?_
    rintro _ w26 ⟨rfl, m⟩
    replace M := M.leaveW0 m
    clear m
    refine wP (vB (!(withinS s (((beforeL row (startS s)).1).key)))) (wS (vB (!(withinS s (((beforeL row (startS s)).1).key)))) rfl (Step.pick (t := false) rfl rfl) (WL.nil ?_))
    refine W.cond (t := !(withinS s (((beforeL row (startS s)).1).key))) rfl (fun h27 => ?_) (fun h27 => ?_)
    ·
     refine wR (wP (Value.agg #[(vS sZ), (vI 0)]) ?_)
     refine WL.store (v := (Value.agg #[(vS sZ), (vI 0)])) (cs := [(vS sZ), (vI 0)]) (c' := #[(vS sZ), (vI 0)]) M 2 rfl rfl Try.el41.sized rfl rfl rfl rfl (Nat.le_of_ble_eq_true rfl) (cel_cons rfl (cel_cons rfl cel_nil)) rfl rfl (fun w28 M => ?_)
     refine wA (vB false) (WL.nil ?_)
     refine W.ret ?_
     refine ⟨.inl rfl, (Value.tuple #[(Value.agg #[(vS sZ), (vI 0)]), (vB false)]), ?_, ?_⟩
     · exact ⟨rfl, (Res.r2 (RV.cellN Try.ag41 rfl (M.blk 2 rfl) rfl) (show RV _ _ _ (.tmp 5) (vB false) from by exact rfl))⟩
     refine ⟨?_, M.close [1] rfl (by decide) trivial⟩
     rw [peek2 hu_ (by assumption)]
     rw [chk_out (by simpa using h27)]; rfl
    ·
     refine W.skip (wR (wS (Value.agg #[(vS (((beforeL row (startS s)).1).key)), (vI (((beforeL row (startS s)).1).val))]) rfl (Step.loadN Try.ag41 rfl (M.blk 0 rfl) (Nat.le_of_ble_eq_true rfl) rfl) ?_))
     refine WL.store (v := (Value.agg #[(vS (((beforeL row (startS s)).1).key)), (vI (((beforeL row (startS s)).1).val))])) (cs := [(vS (((beforeL row (startS s)).1).key)), (vI (((beforeL row (startS s)).1).val))]) (c' := #[(vS (((beforeL row (startS s)).1).key)), (vI (((beforeL row (startS s)).1).val))]) M 2 rfl rfl Try.el41.sized rfl rfl rfl rfl (Nat.le_of_ble_eq_true rfl) (cel_cons rfl (cel_cons rfl cel_nil)) rfl rfl (fun w29 M => ?_)
     refine wA (vB true) (WL.nil ?_)
     refine W.ret ?_
     refine ⟨.inl rfl, (Value.tuple #[(Value.agg #[(vS (((beforeL row (startS s)).1).key)), (vI (((beforeL row (startS s)).1).val))]), (vB true)]), ?_, ?_⟩
     · exact ⟨rfl, (Res.r2 (RV.cellN Try.ag41 rfl (M.blk 2 rfl) rfl) (show RV _ _ _ (.tmp 5) (vB true) from by exact rfl))⟩
     refine ⟨?_, M.close [1] rfl (by decide) trivial⟩
     rw [peek2 hu_ (by assumption)]
     rw [chk_in (by simpa using h24) (by simpa using h27)]; first | rfl | (simp_all; done)
  ·
   rcases Bool.eq_false_or_eq_true (look3 s) with h30 | h30
   ·
    refine WL.callX rfl (sc_look3 sb s tb h30 (M.enterW0 ⟨(M.wideR0 0 rfl), trivial⟩)) (CallsF.func Try.en57 rfl) ?_
    rintro _ w31 ⟨rfl, m⟩
    replace M := M.leaveW0 m
    clear m
    refine wM (vP sb) ?_
    refine WL.callX rfl (sc_start sb s (M.enterW0 ⟨(M.wideR0 0 rfl), trivial⟩)) (CallsF.func Try.en58 rfl) ?_
    rintro _ w32 ⟨rfl, m⟩
    replace M := M.leaveW0 m
    clear m
    have fq := M.frm [tT S tb row c] [bk b1 #[(vS sZ), (vI 0)] 41] [1, 0] rfl
    refine WL.callX rfl (T_after tb S row c (startS s) (by first | assumption | omega) (M.eF fq trivial)) (CallsF.value Try.en72 rfl rfl rfl) ?_
    rintro _ w33 ⟨rfl, m⟩
    replace M := M.lF fq m
    clear m
    refine wM (Value.tuple #[(Value.agg #[(vS (((afterL row (startS s)).1).key)), (vI (((afterL row (startS s)).1).val))]), (vB ((afterL row (startS s)).2))]) (wP (Value.agg #[(vS (((afterL row (startS s)).1).key)), (vI (((afterL row (startS s)).1).val))]) (wP (vB ((afterL row (startS s)).2)) ?_))
    refine WL.alloc (c := #[(vS sZ), (vI 0)]) M rfl Try.el41.zero rfl (fun b34 w35 hb34 M => ?_)
    refine WL.store (v := (Value.agg #[(vS (((afterL row (startS s)).1).key)), (vI (((afterL row (startS s)).1).val))])) (cs := [(vS (((afterL row (startS s)).1).key)), (vI (((afterL row (startS s)).1).val))]) (c' := #[(vS (((afterL row (startS s)).1).key)), (vI (((afterL row (startS s)).1).val))]) M 0 rfl rfl Try.el41.sized rfl rfl rfl rfl (Nat.le_of_ble_eq_true rfl) (cel_cons rfl (cel_cons rfl cel_nil)) rfl rfl (fun w36 M => ?_)
    refine wA (vB ((afterL row (startS s)).2)) (WL.nil (W.seq' (wR (wM (vB ((afterL row (startS s)).2)) (wP (vB (!((afterL row (startS s)).2))) ?_)))))
    refine wM (vB (!((afterL row (startS s)).2))) ?_
    rcases Bool.eq_false_or_eq_true (!((afterL row (startS s)).2)) with h37 | h37
    ·
     rw [h37]
     refine WL.pass rfl ?_
     refine WL.pass rfl ?_
     refine WL.pass rfl ?_
     refine WL.pass rfl ?_
     refine WL.pass rfl ?_
     refine wS (vB true) rfl (Step.pick (t := true) rfl rfl) (WL.nil ?_)
     refine W.cond (t := true) rfl (fun _ => ?_) (fun h => by cases h)
     refine wR (wP (Value.agg #[(vS sZ), (vI 0)]) ?_)
     refine WL.store (v := (Value.agg #[(vS sZ), (vI 0)])) (cs := [(vS sZ), (vI 0)]) (c' := #[(vS sZ), (vI 0)]) M 2 rfl rfl Try.el41.sized rfl rfl rfl rfl (Nat.le_of_ble_eq_true rfl) (cel_cons rfl (cel_cons rfl cel_nil)) rfl rfl (fun w38 M => ?_)
     refine wA (vB false) (WL.nil ?_)
     refine W.ret ?_
     refine ⟨.inl rfl, (Value.tuple #[(Value.agg #[(vS sZ), (vI 0)]), (vB false)]), ?_, ?_⟩
     · exact ⟨rfl, (Res.r2 (RV.cellN Try.ag41 rfl (M.blk 2 rfl) rfl) (show RV _ _ _ (.tmp 5) (vB false) from by exact rfl))⟩
     refine ⟨?_, M.close [1] rfl (by decide) trivial⟩
     rw [peek3 hu_ (by assumption)]
     rw [chk_miss (by simpa using h37)]; rfl
    ·
     rw [h37]
     refine wM (vP sb) (wP (vP b34) (wS (vS (((afterL row (startS s)).1).key)) rfl (Step.load1 Try.sc9 rfl ((M.cell 0 rfl 0).trans rfl)) ?_))
     refine WL.callX rfl (sc_within sb s (((afterL row (startS s)).1).key) (M.enterW0 ⟨(M.wideR0 0 rfl), trivial⟩)) (CallsF.func Try.en59 rfl) ?_
     rintro _ w39 ⟨rfl, m⟩
     replace M := M.leaveW0 m
     clear m
     refine wP (vB (!(withinS s (((afterL row (startS s)).1).key)))) (wS (vB (!(withinS s (((afterL row (startS s)).1).key)))) rfl (Step.pick (t := false) rfl rfl) (WL.nil ?_))
     refine W.cond (t := !(withinS s (((afterL row (startS s)).1).key))) rfl (fun h40 => ?_) (fun h40 => ?_)
     ·
      refine wR (wP (Value.agg #[(vS sZ), (vI 0)]) ?_)
      refine WL.store (v := (Value.agg #[(vS sZ), (vI 0)])) (cs := [(vS sZ), (vI 0)]) (c' := #[(vS sZ), (vI 0)]) M 2 rfl rfl Try.el41.sized rfl rfl rfl rfl (Nat.le_of_ble_eq_true rfl) (cel_cons rfl (cel_cons rfl cel_nil)) rfl rfl (fun w41 M => ?_)
      refine wA (vB false) (WL.nil ?_)
      refine W.ret ?_
      refine ⟨.inl rfl, (Value.tuple #[(Value.agg #[(vS sZ), (vI 0)]), (vB false)]), ?_, ?_⟩
      · exact ⟨rfl, (Res.r2 (RV.cellN Try.ag41 rfl (M.blk 2 rfl) rfl) (show RV _ _ _ (.tmp 5) (vB false) from by exact rfl))⟩
      refine ⟨?_, M.close [1] rfl (by decide) trivial⟩
      rw [peek3 hu_ (by assumption)]
      rw [chk_out (by simpa using h40)]; rfl
     ·
      refine W.skip (wR (wS (Value.agg #[(vS (((afterL row (startS s)).1).key)), (vI (((afterL row (startS s)).1).val))]) rfl (Step.loadN Try.ag41 rfl (M.blk 0 rfl) (Nat.le_of_ble_eq_true rfl) rfl) ?_))
      refine WL.store (v := (Value.agg #[(vS (((afterL row (startS s)).1).key)), (vI (((afterL row (startS s)).1).val))])) (cs := [(vS (((afterL row (startS s)).1).key)), (vI (((afterL row (startS s)).1).val))]) (c' := #[(vS (((afterL row (startS s)).1).key)), (vI (((afterL row (startS s)).1).val))]) M 2 rfl rfl Try.el41.sized rfl rfl rfl rfl (Nat.le_of_ble_eq_true rfl) (cel_cons rfl (cel_cons rfl cel_nil)) rfl rfl (fun w42 M => ?_)
      refine wA (vB true) (WL.nil ?_)
      refine W.ret ?_
      refine ⟨.inl rfl, (Value.tuple #[(Value.agg #[(vS (((afterL row (startS s)).1).key)), (vI (((afterL row (startS s)).1).val))]), (vB true)]), ?_, ?_⟩
      · exact ⟨rfl, (Res.r2 (RV.cellN Try.ag41 rfl (M.blk 2 rfl) rfl) (show RV _ _ _ (.tmp 5) (vB true) from by exact rfl))⟩
      refine ⟨?_, M.close [1] rfl (by decide) trivial⟩
      rw [peek3 hu_ (by assumption)]
      rw [chk_in (by simpa using h37) (by simpa using h40)]; first | rfl | (simp_all; done)
   ·
    refine WL.callX rfl (sc_look4 sb s tb (look_all h3 h17 h30) (M.enterW0 ⟨(M.wideR0 0 rfl), trivial⟩)) (CallsF.func Try.en57 rfl) ?_
    rintro _ w43 ⟨rfl, m⟩
    replace M := M.leaveW0 m
    clear m
    refine wM (vP sb) ?_
    refine WL.callX rfl (sc_start sb s (M.enterW0 ⟨(M.wideR0 0 rfl), trivial⟩)) (CallsF.func Try.en58 rfl) ?_
    rintro _ w44 ⟨rfl, m⟩
    replace M := M.leaveW0 m
    clear m
    have fq := M.frm [tT S tb row c] [bk b1 #[(vS sZ), (vI 0)] 41] [1, 0] rfl
    refine WL.callX rfl (T_from tb S row c (startS s) (by first | assumption | omega) (M.eF fq trivial)) (CallsF.value Try.en45 rfl rfl rfl) ?_
    rintro _ w45 ⟨rfl, m⟩
    replace M := M.lF fq m
    clear m
    refine wM (Value.tuple #[(Value.agg #[(vS (((fromL row (startS s)).1).key)), (vI (((fromL row (startS s)).1).val))]), (vB ((fromL row (startS s)).2))]) (wP (Value.agg #[(vS (((fromL row (startS s)).1).key)), (vI (((fromL row (startS s)).1).val))]) (wP (vB ((fromL row (startS s)).2)) ?_))
    refine WL.alloc (c := #[(vS sZ), (vI 0)]) M rfl Try.el41.zero rfl (fun b46 w47 hb46 M => ?_)
    refine WL.store (v := (Value.agg #[(vS (((fromL row (startS s)).1).key)), (vI (((fromL row (startS s)).1).val))])) (cs := [(vS (((fromL row (startS s)).1).key)), (vI (((fromL row (startS s)).1).val))]) (c' := #[(vS (((fromL row (startS s)).1).key)), (vI (((fromL row (startS s)).1).val))]) M 0 rfl rfl Try.el41.sized rfl rfl rfl rfl (Nat.le_of_ble_eq_true rfl) (cel_cons rfl (cel_cons rfl cel_nil)) rfl rfl (fun w48 M => ?_)
    refine wA (vB ((fromL row (startS s)).2)) (WL.nil (W.seq' (wR (wM (vB ((fromL row (startS s)).2)) (wP (vB (!((fromL row (startS s)).2))) ?_)))))
    refine wM (vB (!((fromL row (startS s)).2))) ?_
    rcases Bool.eq_false_or_eq_true (!((fromL row (startS s)).2)) with h49 | h49
    ·
     rw [h49]
     refine WL.pass rfl ?_
     refine WL.pass rfl ?_
     refine WL.pass rfl ?_
     refine WL.pass rfl ?_
     refine WL.pass rfl ?_
     refine wS (vB true) rfl (Step.pick (t := true) rfl rfl) (WL.nil ?_)
     refine W.cond (t := true) rfl (fun _ => ?_) (fun h => by cases h)
     refine wR (wP (Value.agg #[(vS sZ), (vI 0)]) ?_)
     refine WL.store (v := (Value.agg #[(vS sZ), (vI 0)])) (cs := [(vS sZ), (vI 0)]) (c' := #[(vS sZ), (vI 0)]) M 2 rfl rfl Try.el41.sized rfl rfl rfl rfl (Nat.le_of_ble_eq_true rfl) (cel_cons rfl (cel_cons rfl cel_nil)) rfl rfl (fun w50 M => ?_)
     refine wA (vB false) (WL.nil ?_)
     refine W.ret ?_
     refine ⟨.inl rfl, (Value.tuple #[(Value.agg #[(vS sZ), (vI 0)]), (vB false)]), ?_, ?_⟩
     · exact ⟨rfl, (Res.r2 (RV.cellN Try.ag41 rfl (M.blk 2 rfl) rfl) (show RV _ _ _ (.tmp 5) (vB false) from by exact rfl))⟩
     refine ⟨?_, M.close [1] rfl (by decide) trivial⟩
     rw [peek4 hu_ (by first | assumption | exact look_all (by assumption) (by assumption) (by assumption))]
     rw [chk_miss (by simpa using h49)]; rfl
    ·
     rw [h49]
     refine wM (vP sb) (wP (vP b46) (wS (vS (((fromL row (startS s)).1).key)) rfl (Step.load1 Try.sc9 rfl ((M.cell 0 rfl 0).trans rfl)) ?_))
     refine WL.callX rfl (sc_within sb s (((fromL row (startS s)).1).key) (M.enterW0 ⟨(M.wideR0 0 rfl), trivial⟩)) (CallsF.func Try.en59 rfl) ?_
     rintro _ w51 ⟨rfl, m⟩
     replace M := M.leaveW0 m
     clear m
     refine wP (vB (!(withinS s (((fromL row (startS s)).1).key)))) (wS (vB (!(withinS s (((fromL row (startS s)).1).key)))) rfl (Step.pick (t := false) rfl rfl) (WL.nil ?_))
     refine W.cond (t := !(withinS s (((fromL row (startS s)).1).key))) rfl (fun h52 => ?_) (fun h52 => ?_)
     ·
      refine wR (wP (Value.agg #[(vS sZ), (vI 0)]) ?_)
      refine WL.store (v := (Value.agg #[(vS sZ), (vI 0)])) (cs := [(vS sZ), (vI 0)]) (c' := #[(vS sZ), (vI 0)]) M 2 rfl rfl Try.el41.sized rfl rfl rfl rfl (Nat.le_of_ble_eq_true rfl) (cel_cons rfl (cel_cons rfl cel_nil)) rfl rfl (fun w53 M => ?_)
      refine wA (vB false) (WL.nil ?_)
      refine W.ret ?_
      refine ⟨.inl rfl, (Value.tuple #[(Value.agg #[(vS sZ), (vI 0)]), (vB false)]), ?_, ?_⟩
      · exact ⟨rfl, (Res.r2 (RV.cellN Try.ag41 rfl (M.blk 2 rfl) rfl) (show RV _ _ _ (.tmp 5) (vB false) from by exact rfl))⟩
      refine ⟨?_, M.close [1] rfl (by decide) trivial⟩
      rw [peek4 hu_ (by first | assumption | exact look_all (by assumption) (by assumption) (by assumption))]
      rw [chk_out (by simpa using h52)]; rfl
     ·
      refine W.skip (wR (wS (Value.agg #[(vS (((fromL row (startS s)).1).key)), (vI (((fromL row (startS s)).1).val))]) rfl (Step.loadN Try.ag41 rfl (M.blk 0 rfl) (Nat.le_of_ble_eq_true rfl) rfl) ?_))
      refine WL.store (v := (Value.agg #[(vS (((fromL row (startS s)).1).key)), (vI (((fromL row (startS s)).1).val))])) (cs := [(vS (((fromL row (startS s)).1).key)), (vI (((fromL row (startS s)).1).val))]) (c' := #[(vS (((fromL row (startS s)).1).key)), (vI (((fromL row (startS s)).1).val))]) M 2 rfl rfl Try.el41.sized rfl rfl rfl rfl (Nat.le_of_ble_eq_true rfl) (cel_cons rfl (cel_cons rfl cel_nil)) rfl rfl (fun w54 M => ?_)
      refine wA (vB true) (WL.nil ?_)
      refine W.ret ?_
      refine ⟨.inl rfl, (Value.tuple #[(Value.agg #[(vS (((fromL row (startS s)).1).key)), (vI (((fromL row (startS s)).1).val))]), (vB true)]), ?_, ?_⟩
      · exact ⟨rfl, (Res.r2 (RV.cellN Try.ag41 rfl (M.blk 2 rfl) rfl) (show RV _ _ _ (.tmp 5) (vB true) from by exact rfl))⟩
      refine ⟨?_, M.close [1] rfl (by decide) trivial⟩
      rw [peek4 hu_ (by first | assumption | exact look_all (by assumption) (by assumption) (by assumption))]
      rw [chk_in (by simpa using h49) (by simpa using h52)]; first | rfl | (simp_all; done)
theorem sc_peek_n {G : Nat → Prop} {w : World} (t : Value)   (M : Mem G (fun _ => False) w [] [] w) : Rets Try.prog 25 #[vN, t] w fun r w' => r = (Value.tuple #[(Value.agg #[(vS sZ), (vI 0)]), (vB false)]) ∧ Mem G (fun _ => False) w [] [] w' := by
 refine Rets.enter 35 _ Try.func25 rfl Try.ntmps25 Try.results25 (by simp) ?_
 refine wR ?_
 refine WL.alloc (c := #[(vS sZ), (vI 0)]) M rfl Try.el41.zero rfl (fun b1 w2 hb1 M => ?_)
 refine wA (vB false) (WL.nil (W.seq' (wR (wM vN (wP (vB true) ?_)))))
 refine wM (vB true) ?_
 refine WL.pass rfl ?_
 refine WL.pass rfl ?_
 refine wS (vB true) rfl (Step.pick (t := true) rfl rfl) (WL.nil ?_)
 refine W.cond (t := true) rfl (fun _ => ?_) (fun h => by cases h)
 refine wR (wP (Value.agg #[(vS sZ), (vI 0)]) ?_)
 refine WL.store (v := (Value.agg #[(vS sZ), (vI 0)])) (cs := [(vS sZ), (vI 0)]) (c' := #[(vS sZ), (vI 0)]) M 0 rfl rfl Try.el41.sized rfl rfl rfl rfl (Nat.le_of_ble_eq_true rfl) (cel_cons rfl (cel_cons rfl cel_nil)) rfl rfl (fun w3 M => ?_)
 refine wA (vB false) (WL.nil ?_)
 refine W.ret ?_
 refine ⟨.inl rfl, (Value.tuple #[(Value.agg #[(vS sZ), (vI 0)]), (vB false)]), ?_, ?_⟩
 · exact ⟨rfl, (Res.r2 (RV.cellN Try.ag41 rfl (M.blk 0 rfl) rfl) (show RV _ _ _ (.tmp 5) (vB false) from by exact rfl))⟩
 refine ⟨?_, M.close [] rfl (by decide) trivial⟩
 rfl
theorem sc_peek_0 {G : Nat → Prop} {w : World} (sb : Nat)   (M : Mem G (fun _ => False) w [] [] w) : Rets Try.prog 25 #[(vP sb), vN] w fun r w' => r = (Value.tuple #[(Value.agg #[(vS sZ), (vI 0)]), (vB false)]) ∧ Mem G (fun _ => False) w [] [] w' := by
 refine Rets.enter 35 _ Try.func25 rfl Try.ntmps25 Try.results25 (by simp) ?_
 refine wR ?_
 refine WL.alloc (c := #[(vS sZ), (vI 0)]) M rfl Try.el41.zero rfl (fun b1 w2 hb1 M => ?_)
 refine wA (vB false) (WL.nil (W.seq' (wR (wM (vP sb) (wP (vB false) ?_)))))
 refine wM (vB false) (wM vN (wP (vB true) (wS (vB true) rfl (Step.pick (t := false) rfl rfl) (WL.nil ?_))))
 refine W.cond (t := true) rfl (fun _ => ?_) (fun h => by cases h)
 refine wR (wP (Value.agg #[(vS sZ), (vI 0)]) ?_)
 refine WL.store (v := (Value.agg #[(vS sZ), (vI 0)])) (cs := [(vS sZ), (vI 0)]) (c' := #[(vS sZ), (vI 0)]) M 0 rfl rfl Try.el41.sized rfl rfl rfl rfl (Nat.le_of_ble_eq_true rfl) (cel_cons rfl (cel_cons rfl cel_nil)) rfl rfl (fun w3 M => ?_)
 refine wA (vB false) (WL.nil ?_)
 refine W.ret ?_
 refine ⟨.inl rfl, (Value.tuple #[(Value.agg #[(vS sZ), (vI 0)]), (vB false)]), ?_, ?_⟩
 · exact ⟨rfl, (Res.r2 (RV.cellN Try.ag41 rfl (M.blk 0 rfl) rfl) (show RV _ _ _ (.tmp 5) (vB false) from by exact rfl))⟩
 refine ⟨?_, M.close [] rfl (by decide) trivial⟩
 rfl
theorem sc_next {G X : Nat → Prop} {w : World} (sb : Nat) (s : Scn) (tb : Nat) (S : Nat → Prop) (row : List THit) (c : Nat)  (hc : c ≤ 900) (M : Mem G X w [bk sb #[(vS s.frm), (vS s.to_), (vB s.back), (vS s.at_), (vB s.told)] 88, tT S tb row c] [] w) : Rets Try.prog 24 #[(vP sb), (vP tb)] w fun r w' => r = (Value.tuple #[(Value.agg #[(vS (((peekR s row).1).key)), (vI (((peekR s row).1).val))]), (vB ((peekR s row).2))]) ∧ Mem G X w [bk sb #[(vS ((nextR s row).frm)), (vS ((nextR s row).to_)), (vB ((nextR s row).back)), (vS ((nextR s row).at_)), (vB ((nextR s row).told))] 88, tT S tb row c] [] w' := by
 refine Rets.enter 25 _ Try.func24 rfl Try.ntmps24 Try.results24 (by simp) ?_
 refine wR ?_
 refine WL.alloc (c := #[(vS sZ), (vI 0)]) M rfl Try.el41.zero rfl (fun b1 w2 hb1 M => ?_)
 refine wA (vB false) (WL.nil (wR (wM (vP sb) (wM (vP tb) ?_))))
 have fq := M.frm [tT S tb row c] [bk b1 #[(vS sZ), (vI 0)] 41, bk sb #[(vS s.frm), (vS s.to_), (vB s.back), (vS s.at_), (vB s.told)] 88] [2, 0, 1] rfl
 refine WL.callX rfl (sc_peek sb s tb S row c (by first | assumption | omega) (M.eF fq ⟨(M.cF fq 1 rfl), trivial⟩)) (CallsF.func Try.en25 rfl) ?_
 rintro _ w3 ⟨rfl, m⟩
 replace M := M.lF fq m
 clear m
 refine wM (Value.tuple #[(Value.agg #[(vS (((peekR s row).1).key)), (vI (((peekR s row).1).val))]), (vB ((peekR s row).2))]) (wP (Value.agg #[(vS (((peekR s row).1).key)), (vI (((peekR s row).1).val))]) (wP (vB ((peekR s row).2)) ?_))
 refine WL.alloc (c := #[(vS sZ), (vI 0)]) M rfl Try.el41.zero rfl (fun b4 w5 hb4 M => ?_)
 refine WL.store (v := (Value.agg #[(vS (((peekR s row).1).key)), (vI (((peekR s row).1).val))])) (cs := [(vS (((peekR s row).1).key)), (vI (((peekR s row).1).val))]) (c' := #[(vS (((peekR s row).1).key)), (vI (((peekR s row).1).val))]) M 0 rfl rfl Try.el41.sized rfl rfl rfl rfl (Nat.le_of_ble_eq_true rfl) (cel_cons rfl (cel_cons rfl cel_nil)) rfl rfl (fun w6 M => ?_)
 refine wA (vB ((peekR s row).2)) (WL.nil (W.seq' (wR (wM (vB ((peekR s row).2)) (WL.nil ?_)))))
 refine W.cond (t := (peekR s row).2) rfl (fun h7 => ?_) (fun h7 => ?_)
 ·
  refine W.region rfl (wM (vP sb) (wM (vP sb) (wP (vP b4) (wS (vS (((peekR s row).1).key)) rfl (Step.load1 Try.sc9 rfl ((M.cell 0 rfl 0).trans rfl)) (wP (vP sb) ?_)))))
  refine wP (Value.pointer (some ⟨sb, 3, none⟩)) ?_
  refine WL.store (v := (vS (((peekR s row).1).key))) (cs := [(vS (((peekR s row).1).key))]) (c' := #[(vS s.frm), (vS s.to_), (vB s.back), (vS (((peekR s row).1).key)), (vB s.told)]) M 3 rfl rfl Try.el9.sized rfl rfl rfl rfl (Nat.le_of_ble_eq_true rfl) (cel_cons rfl cel_nil) rfl rfl (fun w8 M => ?_)
  refine wP (vP sb) (wP (Value.pointer (some ⟨sb, 4, none⟩)) ?_)
  refine WL.store (v := (vB true)) (cs := [(vB true)]) (c' := #[(vS s.frm), (vS s.to_), (vB s.back), (vS (((peekR s row).1).key)), (vB true)]) M 3 rfl rfl Try.el4.sized rfl rfl rfl rfl (Nat.le_of_ble_eq_true rfl) (cel_cons rfl cel_nil) rfl rfl (fun w9 M => ?_)
  refine WL.nil (wR (wS (Value.agg #[(vS (((peekR s row).1).key)), (vI (((peekR s row).1).val))]) rfl (Step.loadN Try.ag41 rfl (M.blk 0 rfl) (Nat.le_of_ble_eq_true rfl) rfl) (wS (vB true) rfl (Step.cast (congrArg Value.bool h7) (Step.move rfl)) ?_)))
  refine WL.store (v := (Value.agg #[(vS (((peekR s row).1).key)), (vI (((peekR s row).1).val))])) (cs := [(vS (((peekR s row).1).key)), (vI (((peekR s row).1).val))]) (c' := #[(vS (((peekR s row).1).key)), (vI (((peekR s row).1).val))]) M 2 rfl rfl Try.el41.sized rfl rfl rfl rfl (Nat.le_of_ble_eq_true rfl) (cel_cons rfl (cel_cons rfl cel_nil)) rfl rfl (fun w10 M => ?_)
  refine wA (vB true) (WL.nil ?_)
  refine W.ret ?_
  refine ⟨.inl rfl, (Value.tuple #[(Value.agg #[(vS (((peekR s row).1).key)), (vI (((peekR s row).1).val))]), (vB true)]), ?_, ?_⟩
  · exact ⟨rfl, (Res.r2 (RV.cellN Try.ag41 rfl (M.blk 2 rfl) rfl) (show RV _ _ _ (.tmp 5) (vB true) from by exact rfl))⟩
  have e11 : (bk sb #[(vS ((nextR s row).frm)), (vS ((nextR s row).to_)), (vB ((nextR s row).back)), (vS ((nextR s row).at_)), (vB ((nextR s row).told))] 88 : Chunk) = (bk sb #[(vS s.frm), (vS s.to_), (vB s.back), (vS (((peekR s row).1).key)), (vB true)] 88 : Chunk) := by
   rw [next_hit (by simpa using h7)]
  replace M := M.rechunk 3 (c' := bk sb #[(vS ((nextR s row).frm)), (vS ((nextR s row).to_)), (vB ((nextR s row).back)), (vS ((nextR s row).at_)), (vB ((nextR s row).told))] 88) rfl e11.symm
  refine ⟨?_, M.close [3, 1] rfl (by decide) trivial⟩
  rw [show (peekR s row).2 = true by simpa using h7]
 ·
  refine W.skip (wR (wS (Value.agg #[(vS (((peekR s row).1).key)), (vI (((peekR s row).1).val))]) rfl (Step.loadN Try.ag41 rfl (M.blk 0 rfl) (Nat.le_of_ble_eq_true rfl) rfl) (wS (vB false) rfl (Step.cast (congrArg Value.bool h7) (Step.move rfl)) ?_)))
  refine WL.store (v := (Value.agg #[(vS (((peekR s row).1).key)), (vI (((peekR s row).1).val))])) (cs := [(vS (((peekR s row).1).key)), (vI (((peekR s row).1).val))]) (c' := #[(vS (((peekR s row).1).key)), (vI (((peekR s row).1).val))]) M 2 rfl rfl Try.el41.sized rfl rfl rfl rfl (Nat.le_of_ble_eq_true rfl) (cel_cons rfl (cel_cons rfl cel_nil)) rfl rfl (fun w12 M => ?_)
  refine wA (vB false) (WL.nil ?_)
  refine W.ret ?_
  refine ⟨.inl rfl, (Value.tuple #[(Value.agg #[(vS (((peekR s row).1).key)), (vI (((peekR s row).1).val))]), (vB false)]), ?_, ?_⟩
  · exact ⟨rfl, (Res.r2 (RV.cellN Try.ag41 rfl (M.blk 2 rfl) rfl) (show RV _ _ _ (.tmp 5) (vB false) from by exact rfl))⟩
  have e13 : (bk sb #[(vS ((nextR s row).frm)), (vS ((nextR s row).to_)), (vB ((nextR s row).back)), (vS ((nextR s row).at_)), (vB ((nextR s row).told))] 88 : Chunk) = (bk sb #[(vS s.frm), (vS s.to_), (vB s.back), (vS s.at_), (vB s.told)] 88 : Chunk) := by
   rw [next_no (by simpa using h7)]
  replace M := M.rechunk 3 (c' := bk sb #[(vS ((nextR s row).frm)), (vS ((nextR s row).to_)), (vB ((nextR s row).back)), (vS ((nextR s row).at_)), (vB ((nextR s row).told))] 88) rfl e13.symm
  refine ⟨?_, M.close [3, 1] rfl (by decide) trivial⟩
  rw [show (peekR s row).2 = false by simpa using h7]
theorem sc_next_n {G : Nat → Prop} {w : World} (t : Value)   (M : Mem G (fun _ => False) w [] [] w) : Rets Try.prog 24 #[vN, t] w fun r w' => r = (Value.tuple #[(Value.agg #[(vS sZ), (vI 0)]), (vB false)]) ∧ Mem G (fun _ => False) w [] [] w' := by
 refine Rets.enter 25 _ Try.func24 rfl Try.ntmps24 Try.results24 (by simp) ?_
 refine wR ?_
 refine WL.alloc (c := #[(vS sZ), (vI 0)]) M rfl Try.el41.zero rfl (fun b1 w2 hb1 M => ?_)
 refine wA (vB false) (WL.nil (wR (wM vN (wM t ?_))))
 refine WL.callX rfl (sc_peek_n t (M.enterW0 trivial)) (CallsF.func Try.en25 rfl) ?_
 rintro _ w3 ⟨rfl, m⟩
 replace M := M.leaveW0 m
 clear m
 refine wM (Value.tuple #[(Value.agg #[(vS sZ), (vI 0)]), (vB false)]) (wP (Value.agg #[(vS sZ), (vI 0)]) (wP (vB false) ?_))
 refine WL.alloc (c := #[(vS sZ), (vI 0)]) M rfl Try.el41.zero rfl (fun b4 w5 hb4 M => ?_)
 refine WL.store (v := (Value.agg #[(vS sZ), (vI 0)])) (cs := [(vS sZ), (vI 0)]) (c' := #[(vS sZ), (vI 0)]) M 0 rfl rfl Try.el41.sized rfl rfl rfl rfl (Nat.le_of_ble_eq_true rfl) (cel_cons rfl (cel_cons rfl cel_nil)) rfl rfl (fun w6 M => ?_)
 refine wA (vB false) (WL.nil (W.seq' (wR (wM (vB false) (WL.nil ?_)))))
 refine W.cond (t := false) rfl (fun h => by cases h) (fun _ => ?_)
 refine W.skip (wR (wS (Value.agg #[(vS sZ), (vI 0)]) rfl (Step.loadN Try.ag41 rfl (M.blk 0 rfl) (Nat.le_of_ble_eq_true rfl) rfl) (wM (vB false) ?_)))
 refine WL.store (v := (Value.agg #[(vS sZ), (vI 0)])) (cs := [(vS sZ), (vI 0)]) (c' := #[(vS sZ), (vI 0)]) M 1 rfl rfl Try.el41.sized rfl rfl rfl rfl (Nat.le_of_ble_eq_true rfl) (cel_cons rfl (cel_cons rfl cel_nil)) rfl rfl (fun w7 M => ?_)
 refine wA (vB false) (WL.nil ?_)
 refine W.ret ?_
 refine ⟨.inl rfl, (Value.tuple #[(Value.agg #[(vS sZ), (vI 0)]), (vB false)]), ?_, ?_⟩
 · exact ⟨rfl, (Res.r2 (RV.cellN Try.ag41 rfl (M.blk 1 rfl) rfl) (show RV _ _ _ (.tmp 5) (vB false) from by exact rfl))⟩
 refine ⟨?_, M.close [] rfl (by decide) trivial⟩
 rfl
theorem sc_next_0 {G X : Nat → Prop} {w : World} (sb : Nat) (s : Scn)   (M : Mem G X w [bk sb #[(vS s.frm), (vS s.to_), (vB s.back), (vS s.at_), (vB s.told)] 88] [] w) : Rets Try.prog 24 #[(vP sb), vN] w fun r w' => r = (Value.tuple #[(Value.agg #[(vS sZ), (vI 0)]), (vB false)]) ∧ Mem G X w [bk sb #[(vS s.frm), (vS s.to_), (vB s.back), (vS s.at_), (vB s.told)] 88] [] w' := by
 refine Rets.enter 25 _ Try.func24 rfl Try.ntmps24 Try.results24 (by simp) ?_
 refine wR ?_
 refine WL.alloc (c := #[(vS sZ), (vI 0)]) M rfl Try.el41.zero rfl (fun b1 w2 hb1 M => ?_)
 refine wA (vB false) (WL.nil (wR (wM (vP sb) (wM vN ?_))))
 refine WL.callX rfl (sc_peek_0 sb (M.enterW0 trivial)) (CallsF.func Try.en25 rfl) ?_
 rintro _ w3 ⟨rfl, m⟩
 replace M := M.leaveW0 m
 clear m
 refine wM (Value.tuple #[(Value.agg #[(vS sZ), (vI 0)]), (vB false)]) (wP (Value.agg #[(vS sZ), (vI 0)]) (wP (vB false) ?_))
 refine WL.alloc (c := #[(vS sZ), (vI 0)]) M rfl Try.el41.zero rfl (fun b4 w5 hb4 M => ?_)
 refine WL.store (v := (Value.agg #[(vS sZ), (vI 0)])) (cs := [(vS sZ), (vI 0)]) (c' := #[(vS sZ), (vI 0)]) M 0 rfl rfl Try.el41.sized rfl rfl rfl rfl (Nat.le_of_ble_eq_true rfl) (cel_cons rfl (cel_cons rfl cel_nil)) rfl rfl (fun w6 M => ?_)
 refine wA (vB false) (WL.nil (W.seq' (wR (wM (vB false) (WL.nil ?_)))))
 refine W.cond (t := false) rfl (fun h => by cases h) (fun _ => ?_)
 refine W.skip (wR (wS (Value.agg #[(vS sZ), (vI 0)]) rfl (Step.loadN Try.ag41 rfl (M.blk 0 rfl) (Nat.le_of_ble_eq_true rfl) rfl) (wM (vB false) ?_)))
 refine WL.store (v := (Value.agg #[(vS sZ), (vI 0)])) (cs := [(vS sZ), (vI 0)]) (c' := #[(vS sZ), (vI 0)]) M 1 rfl rfl Try.el41.sized rfl rfl rfl rfl (Nat.le_of_ble_eq_true rfl) (cel_cons rfl (cel_cons rfl cel_nil)) rfl rfl (fun w7 M => ?_)
 refine wA (vB false) (WL.nil ?_)
 refine W.ret ?_
 refine ⟨.inl rfl, (Value.tuple #[(Value.agg #[(vS sZ), (vI 0)]), (vB false)]), ?_, ?_⟩
 · exact ⟨rfl, (Res.r2 (RV.cellN Try.ag41 rfl (M.blk 1 rfl) rfl) (show RV _ _ _ (.tmp 5) (vB false) from by exact rfl))⟩
 refine ⟨?_, M.close [2] rfl (by decide) trivial⟩
 rfl
end Go.Proofs
set_option maxRecDepth 100000
namespace Go.Proofs
open Go Tp
theorem sc_at {G : Nat → Prop} {w : World} (sb : Nat) (s : Scn)   (M : Mem G (fun _ => False) w [] [bF sb #[(vS s.frm), (vS s.to_), (vB s.back), (vS s.at_), (vB s.told)] 88] w) : Rets Try.prog 22 #[(vP sb)] w fun r w' => r = (Value.tuple #[(vS s.at_), (vB s.told)]) ∧ Mem G (fun _ => False) w [] [] w' := by
 refine Rets.enter 14 _ Try.func22 rfl Try.ntmps22 Try.results22 (by simp) ?_
 refine wR (wA (vS sZ) (wA (vB false) (WL.nil (W.seq' (wR ?_)))))
 refine wM (vP sb) (wP (vB false) (WL.nil ?_))
 refine W.cond (t := false) rfl (fun h => by cases h) (fun _ => ?_)
 refine W.skip (W.seq' ?_)
 refine W.drawn M [0, 1, 2, 3, 4, 5, 6, 7, 8, 9] [] [] _ _ sE (fun _ h => h) Try.mixed (by kernel_rfl) ?_
 refine tP (vP sb) rfl (fun w => (Step.move rfl)) ?_
 refine tP (vP sb) rfl (fun w => sP) ?_
 refine tP (Value.pointer (some ⟨sb, 3, none⟩)) rfl (fun w => sP) ?_
 refine tR (vS s.at_) rfl (fun A w M => (Step.load1 Try.sc9 rfl ((cell_blk (M.rep 0 rfl) 3).trans rfl))) ?_
 refine tP (vP sb) rfl (fun w => (Step.move rfl)) ?_
 refine tP (vP sb) rfl (fun w => sP) ?_
 refine tP (Value.pointer (some ⟨sb, 4, none⟩)) rfl (fun w => sP) ?_
 refine tR (vB s.told) rfl (fun A w M => (Step.load1 Try.sc4 rfl ((cell_blk (M.rep 0 rfl) 4).trans rfl))) ?_
 refine tP (vS s.at_) rfl (fun w => (Step.assign rfl)) ?_
 refine tP (vB s.told) rfl (fun w => (Step.assign rfl)) ?_
 refine TW.done (fun w1 M => ?_)
 refine W.ret ?_
 refine ⟨.inl rfl, (Value.tuple #[(vS s.at_), (vB s.told)]), ?_, ?_⟩
 · exact ⟨rfl, (Res.r2 (show RV _ _ _ (.tmp 2) (vS s.at_) from by exact rfl) (show RV _ _ _ (.tmp 3) (vB s.told) from by exact rfl))⟩
 refine ⟨?_, M.close [] rfl (by decide) trivial⟩
 rfl
theorem sc_at_n {G : Nat → Prop} {w : World}    (M : Mem G (fun _ => False) w [] [] w) : Rets Try.prog 22 #[vN] w fun r w' => r = (Value.tuple #[(vS sZ), (vB false)]) ∧ Mem G (fun _ => False) w [] [] w' := by
 refine Rets.enter 14 _ Try.func22 rfl Try.ntmps22 Try.results22 (by simp) ?_
 refine wR (wA (vS sZ) (wA (vB false) (WL.nil (W.seq' (wR ?_)))))
 refine wM vN (wP (vB true) (WL.nil ?_))
 refine W.cond (t := true) rfl (fun _ => ?_) (fun h => by cases h)
 refine wR (wA (vS sZ) (wA (vB false) (WL.nil ?_)))
 refine W.ret ?_
 refine ⟨.inl rfl, (Value.tuple #[(vS sZ), (vB false)]), ?_, ?_⟩
 · exact ⟨rfl, (Res.r2 (show RV _ _ _ (.tmp 2) (vS sZ) from by exact rfl) (show RV _ _ _ (.tmp 3) (vB false) from by exact rfl))⟩
 refine ⟨?_, M.close [] rfl (by decide) trivial⟩
 rfl
theorem sc_copy_n {G : Nat → Prop} {w : World}    (M : Mem G (fun _ => False) w [] [] w) : Rets Try.prog 27 #[vN] w fun r w' => r = vN ∧ Mem G (fun _ => False) w [] [] w' := by
 refine Rets.enter 9 _ Try.func27 rfl Try.ntmps27 Try.results27 (by simp) ?_
 refine wR (wA vN (WL.nil (W.seq' (wR (wM vN ?_)))))
 refine wP (vB true) (WL.nil ?_)
 refine W.cond (t := true) rfl (fun _ => ?_) (fun h => by cases h)
 refine wR (wA vN (WL.nil ?_))
 refine W.ret ?_
 refine ⟨.inl rfl, vN, ?_, ?_⟩
 · exact ⟨rfl, (Res.r1 (show RV _ _ _ (.tmp 2) vN from by exact rfl))⟩
 refine ⟨?_, M.close [] rfl (by decide) trivial⟩
 rfl
theorem sc_skip_n {G : Nat → Prop} {w : World} (k : ByteArray)   (M : Mem G (fun _ => False) w [] [] w) : Rets Try.prog 26 #[vN, (vS k)] w fun r w' => r = (vB false) ∧ Mem G (fun _ => False) w [] [] w' := by
 refine Rets.enter 55 _ Try.func26 rfl Try.ntmps26 Try.results26 (by simp) ?_
 refine wR (wA (vB false) (WL.nil (W.seq' (W.block (wR ?_)))))
 refine wM vN (wP (vB true) (wA (vB true) (WL.nil ?_)))
 refine W.cond (t := true) rfl (fun _ => ?_) (fun h => by cases h)
 refine wR (wA (vB false) (WL.nil ?_))
 refine W.ret ?_
 refine ⟨.inl rfl, (vB false), ?_, ?_⟩
 · exact ⟨rfl, (Res.r1 (show RV _ _ _ (.tmp 4) (vB false) from by exact rfl))⟩
 refine ⟨?_, M.close [] rfl (by decide) trivial⟩
 rfl
end Go.Proofs
set_option maxRecDepth 100000
namespace Go.Proofs
open Go Tp
theorem Try.en24 : Enters Try.prog 24 := fun _ _ => by kernel_rfl
theorem sc_page {G X : Nat → Prop} {w : World} (sb : Nat) (s : Scn) (tb : Nat) (S : Nat → Prop) (row : List THit) (c : Nat) (n : Int)  (hc : c ≤ 900) (M : Mem G X w [bk sb #[(vS s.frm), (vS s.to_), (vB s.back), (vS s.at_), (vB s.told)] 88, tT S tb row c] [] w) : Rets Try.prog 15 #[(vP sb), (vP tb), (vI n)] w fun r w' => ∃ (v' : Value), r = (Value.tuple #[v', (vB (pageD s row n))]) ∧ Mem G X w [bk sb #[(vS ((pageS s row n).frm)), (vS ((pageS s row n).to_)), (vB ((pageS s row n).back)), (vS ((pageS s row n).at_)), (vB ((pageS s row n).told))] 88, tT S tb row c, oR v' (pageL s row n)] [] w' := by
 refine Rets.enter 37 _ Try.func15 rfl Try.ntmps15 Try.results15 (by simp) ?_
 refine wR (wA vZ (wA (vB false) (WL.nil ?_)))
 refine W.scope ?_
 refine W.seq' ?_
 refine W.label ?_
 refine W.seq' (W.block ?_)
 obtain ⟨hu_, hrc_⟩ := tabC_up (M.chunk 1 rfl).inv
 have hrl_ := rest_le (s := s) (row := row)
 replace M := M.ownNil 41 2
 replace M := M.rechunk 0 (c' := oR vZ ((restR s row).take 0)) rfl rfl
 replace M := M.rechunk 1 (c' := bk sb #[(vS ((stepsN 0 s row).frm)), (vS ((stepsN 0 s row).to_)), (vB ((stepsN 0 s row).back)), (vS ((stepsN 0 s row).at_)), (vB ((stepsN 0 s row).told))] 88) rfl rfl
 refine W.loop (fun kk ρ w' => ∃ (j_ : Nat) (v_ : Value), (((j_ : Int) ≤ n ∨ j_ = 0) ∧ (j_ ≤ (restR s row).length) ∧ kk = (restR s row).length - j_) ∧ ρ.has [(0, (vP sb)), (1, (vP tb)), (2, (vI n)), (6, v_), (7, (vB false))] ∧ Mem G X w [oR v_ ((restR s row).take j_), bk sb #[(vS ((stepsN j_ s row).frm)), (vS ((stepsN j_ s row).to_)), (vB ((stepsN j_ s row).back)), (vS ((stepsN j_ s row).at_)), (vB ((stepsN j_ s row).told))] 88, tT S tb row c] []  w') _ ⟨0, _, ⟨(.inr rfl), (Nat.zero_le _), rfl⟩, ⟨rfl, rfl, rfl, rfl, rfl, rfl, rfl⟩, M⟩ ?_
 rintro _ ρ2 w1 ⟨j_, v_, ⟨hi3, hi4, rfl⟩, hρ, M⟩
 obtain ⟨ρ2, rfl⟩ := hρ.know
 clear hρ
 have sl5 : IsSl v_ := SlAt.isSl (own_slAt (M.chunk 0 rfl).inv)
 have htk_ : ((restR s row).take j_).length = j_ := by rw [List.length_take]; omega
 have hacl : ((restR s row).take j_).length ≤ 400000 := by omega
 refine W.seq' (wR (wM v_ (wS (vI ↑j_) rfl (Step.cast (congrArg (Value.int .i64) (show (↑(((restR s row).take j_).length) : Int) = ↑j_ by omega)) (Step.lenSl Try.un34 rfl (own_slAt (M.chunk 0 rfl).inv))) (wM (vI n) (wP (vB (decide ((↑j_ : Int) < (n : Int)))) ?_)))))
 refine WL.nil ?_
 refine W.cond (t := decide ((↑j_ : Int) < (n : Int))) rfl (fun h6 => ?_) (fun h6 => ?_)
 ·
  have h6p := of_decide_eq_true h6
  refine W.skip (W.block (wR (wM (vP sb) (wM (vP tb) ?_))))
  have fq := M.frm [bk sb #[(vS ((stepsN j_ s row).frm)), (vS ((stepsN j_ s row).to_)), (vB ((stepsN j_ s row).back)), (vS ((stepsN j_ s row).at_)), (vB ((stepsN j_ s row).told))] 88, tT S tb row c] [oR v_ ((restR s row).take j_)] [1, 2, 0] rfl
  refine WL.callX rfl (sc_next sb (stepsN j_ s row) tb S row c (by first | assumption | omega) (M.eF fq trivial)) (CallsF.func Try.en24 rfl) ?_
  rintro _ w7 ⟨rfl, m⟩
  replace M := M.lF fq m
  clear m
  refine wM (Value.tuple #[(Value.agg #[(vS (((peekR (stepsN j_ s row) row).1).key)), (vI (((peekR (stepsN j_ s row) row).1).val))]), (vB ((peekR (stepsN j_ s row) row).2))]) (wP (Value.agg #[(vS (((peekR (stepsN j_ s row) row).1).key)), (vI (((peekR (stepsN j_ s row) row).1).val))]) (wP (vB ((peekR (stepsN j_ s row) row).2)) ?_))
  refine WL.alloc (c := #[(vS sZ), (vI 0)]) M rfl Try.el41.zero rfl (fun b8 w9 hb8 M => ?_)
  refine WL.store (v := (Value.agg #[(vS (((peekR (stepsN j_ s row) row).1).key)), (vI (((peekR (stepsN j_ s row) row).1).val))])) (cs := [(vS (((peekR (stepsN j_ s row) row).1).key)), (vI (((peekR (stepsN j_ s row) row).1).val))]) (c' := #[(vS (((peekR (stepsN j_ s row) row).1).key)), (vI (((peekR (stepsN j_ s row) row).1).val))]) M 0 rfl rfl Try.el41.sized rfl rfl rfl rfl (Nat.le_of_ble_eq_true rfl) (cel_cons rfl (cel_cons rfl cel_nil)) rfl rfl (fun w10 M => ?_)
  refine wA (vB ((peekR (stepsN j_ s row) row).2)) (WL.nil (W.seq' (wR (wM (vB ((peekR (stepsN j_ s row) row).2)) (wP (vB (!((peekR (stepsN j_ s row) row).2))) ?_)))))
  refine WL.nil ?_
  refine W.cond (t := !((peekR (stepsN j_ s row) row).2)) rfl (fun h11 => ?_) (fun h11 => ?_)
  ·
   have hno_ : (peekR (stepsN j_ s row) row).2 = false := by simpa using h11
   have hnp_ := peek_none hu_ hno_
   replace M := M.rechunk 1 (c' := bk sb #[(vS ((stepsN j_ s row).frm)), (vS ((stepsN j_ s row).to_)), (vB ((stepsN j_ s row).back)), (vS ((stepsN j_ s row).at_)), (vB ((stepsN j_ s row).told))] 88) rfl (by rw [next_no hno_])
   refine W.exit ?_
   refine thn_exit ?_
   refine inBlk_miss (by decide) ?_
   refine thn_exit ?_
   refine inBlk_hit ?_
   refine W.seq' ?_
   replace M := M.loseI 0
   refine W.region rfl (wM (vP sb) (wM (vP tb) ?_))
   have fq := M.frm [tT S tb row c] [bk sb #[(vS ((stepsN j_ s row).frm)), (vS ((stepsN j_ s row).to_)), (vB ((stepsN j_ s row).back)), (vS ((stepsN j_ s row).at_)), (vB ((stepsN j_ s row).told))] 88, oR v_ ((restR s row).take j_)] [1, 0, 2] rfl
   refine WL.callX rfl (sc_peek sb (stepsN j_ s row) tb S row c (by first | assumption | omega) (M.eF fq ⟨(M.cF fq 0 rfl), trivial⟩)) (CallsF.func Try.en25 rfl) ?_
   rintro _ w12 ⟨rfl, m⟩
   replace M := M.lF fq m
   clear m
   refine wM (Value.tuple #[(Value.agg #[(vS (((peekR (stepsN j_ s row) row).1).key)), (vI (((peekR (stepsN j_ s row) row).1).val))]), (vB ((peekR (stepsN j_ s row) row).2))]) (wP (Value.agg #[(vS (((peekR (stepsN j_ s row) row).1).key)), (vI (((peekR (stepsN j_ s row) row).1).val))]) (wS (vB false) rfl (Step.cast (congrArg Value.bool (show ((peekR (stepsN j_ s row) row).2) = false by simpa using h11)) sP) ?_))
   refine WL.alloc (c := #[(vS sZ), (vI 0)]) M rfl Try.el41.zero rfl (fun b13 w14 hb13 M => ?_)
   refine WL.store (v := (Value.agg #[(vS (((peekR (stepsN j_ s row) row).1).key)), (vI (((peekR (stepsN j_ s row) row).1).val))])) (cs := [(vS (((peekR (stepsN j_ s row) row).1).key)), (vI (((peekR (stepsN j_ s row) row).1).val))]) (c' := #[(vS (((peekR (stepsN j_ s row) row).1).key)), (vI (((peekR (stepsN j_ s row) row).1).val))]) M 0 rfl rfl Try.el41.sized rfl rfl rfl rfl (Nat.le_of_ble_eq_true rfl) (cel_cons rfl (cel_cons rfl cel_nil)) rfl rfl (fun w15 M => ?_)
   refine wA (vB false) (WL.nil (wR (wM v_ (wM (vB false) (wP (vB true) ?_)))))
   refine wA v_ (wA (vB true) (WL.nil ?_))
   refine W.ret ?_
   refine ⟨.inl rfl, (Value.tuple #[v_, (vB true)]), ?_, ?_⟩
   · exact ⟨rfl, (Res.r2 (show RV _ _ _ (.tmp 6) v_ from by exact rfl) (show RV _ _ _ (.tmp 7) (vB true) from by exact rfl))⟩
   have hN_ : pageN s row n = j_ := page_n (by assumption) (by assumption) (by omega)
   have e16 : (bk sb #[(vS ((pageS s row n).frm)), (vS ((pageS s row n).to_)), (vB ((pageS s row n).back)), (vS ((pageS s row n).at_)), (vB ((pageS s row n).told))] 88 : Chunk) = (bk sb #[(vS ((stepsN j_ s row).frm)), (vS ((stepsN j_ s row).to_)), (vB ((stepsN j_ s row).back)), (vS ((stepsN j_ s row).at_)), (vB ((stepsN j_ s row).told))] 88 : Chunk) := by
    simp only [pageS, hN_]
   replace M := M.rechunk 2 (c' := bk sb #[(vS ((pageS s row n).frm)), (vS ((pageS s row n).to_)), (vB ((pageS s row n).back)), (vS ((pageS s row n).at_)), (vB ((pageS s row n).told))] 88) rfl e16.symm
   have e17 : pageL s row n = (restR s row).take j_ := by
    unfold pageL; rw [hN_]
   replace M := M.rechunk 3 (c' := oR v_ (pageL s row n)) rfl (congrArg (fun z => own 41 2 v_ z.length (z.flatMap hitE)) e17.symm)
   refine ⟨v_, ?_, M.close [2, 1, 3] rfl (by decide) trivial⟩
   unfold pageD pageS; rw [hN_]; try rw [hno_]; try rfl
  ·
   refine W.skip (W.region rfl (wM v_ (wS (Value.agg #[(vS (((peekR (stepsN j_ s row) row).1).key)), (vI (((peekR (stepsN j_ s row) row).1).val))]) rfl (Step.loadN Try.ag41 rfl (M.blk 0 rfl) (Nat.le_of_ble_eq_true rfl) rfl) ?_)))
   refine WL.new (obj := .cells #[(vS (((peekR (stepsN j_ s row) row).1).key)), (vI (((peekR (stepsN j_ s row) row).1).val))] 41) (fun b => .slice (some ⟨b, 0, none⟩) 1 1) M rfl (fun w => Step.make (by kernel_rfl)) (fun b18 w19 hb18 M => ?_)
   refine WL.does rfl (M.appendF ((restR s row).take j_) ([((peekR (stepsN j_ s row) row).1)] : List THit) (sv := (Value.slice (some ⟨b18, 0, none⟩) 1 1)) 4 Try.un34 Try.el41 rfl (by decide) rfl rfl rfl (SlAt.of_blk (M.blk 0 rfl) rfl (by decide)) hitE_cel (by have := hacl; simp only [maxLen, List.length_nil, List.length_cons, List.length_append]; omega) (by have := hacl; (try simp only [List.length_nil, List.length_cons, List.length_append]); omega)) ?_
   rintro v20 w21 M
   have sl22 : IsSl v20 := SlAt.isSl (own_slAt (M.chunk 4 rfl).inv)
   refine wA v20 (WL.nil ?_)
   have hok_ : (peekR (stepsN j_ s row) row).2 = true := by simpa using h11
   have hrt_ := rest_lt hu_ hok_
   replace M := M.rechunk 4 (c' := oR v20 ((restR s row).take (j_ + 1))) rfl (by rw [take_hit hu_ hok_])
   replace M := M.rechunk 2 (c' := bk sb #[(vS ((stepsN (j_ + 1) s row).frm)), (vS ((stepsN (j_ + 1) s row).to_)), (vB ((stepsN (j_ + 1) s row).back)), (vS ((stepsN (j_ + 1) s row).at_)), (vB ((stepsN (j_ + 1) s row).told))] 88) rfl rfl
   replace M := M.sel (L' := [oR v20 ((restR s row).take (j_ + 1)), bk sb #[(vS ((stepsN (j_ + 1) s row).frm)), (vS ((stepsN (j_ + 1) s row).to_)), (vB ((stepsN (j_ + 1) s row).back)), (vS ((stepsN (j_ + 1) s row).at_)), (vB ((stepsN (j_ + 1) s row).told))] 88, tT S tb row c]) [4, 2, 3] rfl (by decide)
   exact ⟨_, (by omega), j_ + 1, v20, ⟨(by omega), (by omega), rfl⟩, ⟨rfl, rfl, rfl, rfl, rfl, rfl, rfl⟩, M⟩
 ·
  have h6p := of_decide_eq_false h6
  refine W.exit ?_
  refine thn_exit ?_
  refine thn_exit ?_
  refine inBlk_hit ?_
  refine wR (wM (vP sb) (wM (vP tb) ?_))
  have fq := M.frm [tT S tb row c] [oR v_ ((restR s row).take j_), bk sb #[(vS ((stepsN j_ s row).frm)), (vS ((stepsN j_ s row).to_)), (vB ((stepsN j_ s row).back)), (vS ((stepsN j_ s row).at_)), (vB ((stepsN j_ s row).told))] 88] [2, 0, 1] rfl
  refine WL.callX rfl (sc_peek sb (stepsN j_ s row) tb S row c (by first | assumption | omega) (M.eF fq ⟨(M.cF fq 1 rfl), trivial⟩)) (CallsF.func Try.en25 rfl) ?_
  rintro _ w23 ⟨rfl, m⟩
  replace M := M.lF fq m
  clear m
  refine wM (Value.tuple #[(Value.agg #[(vS (((peekR (stepsN j_ s row) row).1).key)), (vI (((peekR (stepsN j_ s row) row).1).val))]), (vB ((peekR (stepsN j_ s row) row).2))]) (wP (Value.agg #[(vS (((peekR (stepsN j_ s row) row).1).key)), (vI (((peekR (stepsN j_ s row) row).1).val))]) (wP (vB ((peekR (stepsN j_ s row) row).2)) ?_))
  refine WL.alloc (c := #[(vS sZ), (vI 0)]) M rfl Try.el41.zero rfl (fun b24 w25 hb24 M => ?_)
  refine WL.store (v := (Value.agg #[(vS (((peekR (stepsN j_ s row) row).1).key)), (vI (((peekR (stepsN j_ s row) row).1).val))])) (cs := [(vS (((peekR (stepsN j_ s row) row).1).key)), (vI (((peekR (stepsN j_ s row) row).1).val))]) (c' := #[(vS (((peekR (stepsN j_ s row) row).1).key)), (vI (((peekR (stepsN j_ s row) row).1).val))]) M 0 rfl rfl Try.el41.sized rfl rfl rfl rfl (Nat.le_of_ble_eq_true rfl) (cel_cons rfl (cel_cons rfl cel_nil)) rfl rfl (fun w26 M => ?_)
  refine wA (vB ((peekR (stepsN j_ s row) row).2)) (WL.nil (wR (wM v_ (wM (vB ((peekR (stepsN j_ s row) row).2)) (wP (vB (!((peekR (stepsN j_ s row) row).2))) ?_)))))
  refine wA v_ (wA (vB (!((peekR (stepsN j_ s row) row).2))) (WL.nil ?_))
  refine W.ret ?_
  refine ⟨.inl rfl, (Value.tuple #[v_, (vB (!((peekR (stepsN j_ s row) row).2)))]), ?_, ?_⟩
  · exact ⟨rfl, (Res.r2 (show RV _ _ _ (.tmp 6) v_ from by exact rfl) (show RV _ _ _ (.tmp 7) (vB (!((peekR (stepsN j_ s row) row).2))) from by exact rfl))⟩
  have hN_ : pageN s row n = j_ := page_n (by assumption) (by assumption) (by omega)
  have e27 : (bk sb #[(vS ((pageS s row n).frm)), (vS ((pageS s row n).to_)), (vB ((pageS s row n).back)), (vS ((pageS s row n).at_)), (vB ((pageS s row n).told))] 88 : Chunk) = (bk sb #[(vS ((stepsN j_ s row).frm)), (vS ((stepsN j_ s row).to_)), (vB ((stepsN j_ s row).back)), (vS ((stepsN j_ s row).at_)), (vB ((stepsN j_ s row).told))] 88 : Chunk) := by
   simp only [pageS, hN_]
  replace M := M.rechunk 3 (c' := bk sb #[(vS ((pageS s row n).frm)), (vS ((pageS s row n).to_)), (vB ((pageS s row n).back)), (vS ((pageS s row n).at_)), (vB ((pageS s row n).told))] 88) rfl e27.symm
  have e28 : pageL s row n = (restR s row).take j_ := by
   unfold pageL; rw [hN_]
  replace M := M.rechunk 2 (c' := oR v_ (pageL s row n)) rfl (congrArg (fun z => own 41 2 v_ z.length (z.flatMap hitE)) e28.symm)
  refine ⟨v_, ?_, M.close [3, 1, 2] rfl (by decide) trivial⟩
  unfold pageD pageS; rw [hN_]
theorem sc_page_n {G : Nat → Prop} {w : World} (t : Value) (n : Int)   (M : Mem G (fun _ => False) w [] [] w) : Rets Try.prog 15 #[vN, t, (vI n)] w fun r w' => r = (Value.tuple #[vZ, (vB true)]) ∧ Mem G (fun _ => False) w [] [] w' := by
 refine Rets.enter 37 _ Try.func15 rfl Try.ntmps15 Try.results15 (by simp) ?_
 refine wR (wA vZ (wA (vB false) (WL.nil ?_)))
 refine W.scope ?_
 refine W.seq' ?_
 refine W.label ?_
 refine W.seq' (W.block ?_)
 refine W.loop (fun kk ρ w' => (kk = 0) ∧ ρ.has [(0, vN), (1, t), (2, (vI n)), (6, vZ), (7, (vB false))] ∧ Mem G (fun _ => False) w [] []  w') _ ⟨rfl, ⟨rfl, rfl, rfl, rfl, rfl, rfl, rfl⟩, M⟩ ?_
 rintro _ ρ2 w1 ⟨rfl, hρ, M⟩
 obtain ⟨ρ2, rfl⟩ := hρ.know
 clear hρ
 refine W.seq' (wR (wM vZ (wS (vI 0) rfl (Step.lenS Try.un34 rfl rfl) (wM (vI n) (wP (vB (decide ((0 : Int) < (n : Int)))) ?_)))))
 refine WL.nil ?_
 refine W.cond (t := decide ((0 : Int) < (n : Int))) rfl (fun h3 => ?_) (fun h3 => ?_)
 ·
  have h3p := of_decide_eq_true h3
  refine W.skip (W.block (wR (wM vN (wM t ?_))))
  refine WL.callX rfl (sc_next_n t (M.enterW0 trivial)) (CallsF.func Try.en24 rfl) ?_
  rintro _ w4 ⟨rfl, m⟩
  replace M := M.leaveW0 m
  clear m
  refine wM (Value.tuple #[(Value.agg #[(vS sZ), (vI 0)]), (vB false)]) (wP (Value.agg #[(vS sZ), (vI 0)]) (wP (vB false) ?_))
  refine WL.alloc (c := #[(vS sZ), (vI 0)]) M rfl Try.el41.zero rfl (fun b5 w6 hb5 M => ?_)
  refine WL.store (v := (Value.agg #[(vS sZ), (vI 0)])) (cs := [(vS sZ), (vI 0)]) (c' := #[(vS sZ), (vI 0)]) M 0 rfl rfl Try.el41.sized rfl rfl rfl rfl (Nat.le_of_ble_eq_true rfl) (cel_cons rfl (cel_cons rfl cel_nil)) rfl rfl (fun w7 M => ?_)
  refine wA (vB false) (WL.nil (W.seq' (wR (wM (vB false) (wP (vB true) ?_)))))
  refine WL.nil ?_
  refine W.cond (t := true) rfl (fun _ => ?_) (fun h => by cases h)
  refine W.exit ?_
  refine thn_exit ?_
  refine inBlk_miss (by decide) ?_
  refine thn_exit ?_
  refine inBlk_hit ?_
  refine W.seq' ?_
  replace M := M.loseI 0
  refine W.region rfl (wM vN (wM t ?_))
  refine WL.callX rfl (sc_peek_n t (M.enterW0 trivial)) (CallsF.func Try.en25 rfl) ?_
  rintro _ w8 ⟨rfl, m⟩
  replace M := M.leaveW0 m
  clear m
  refine wM (Value.tuple #[(Value.agg #[(vS sZ), (vI 0)]), (vB false)]) (wP (Value.agg #[(vS sZ), (vI 0)]) (wP (vB false) ?_))
  refine WL.alloc (c := #[(vS sZ), (vI 0)]) M rfl Try.el41.zero rfl (fun b9 w10 hb9 M => ?_)
  refine WL.store (v := (Value.agg #[(vS sZ), (vI 0)])) (cs := [(vS sZ), (vI 0)]) (c' := #[(vS sZ), (vI 0)]) M 0 rfl rfl Try.el41.sized rfl rfl rfl rfl (Nat.le_of_ble_eq_true rfl) (cel_cons rfl (cel_cons rfl cel_nil)) rfl rfl (fun w11 M => ?_)
  refine wA (vB false) (WL.nil (wR (wM vZ (wM (vB false) (wP (vB true) ?_)))))
  refine wA vZ (wA (vB true) (WL.nil ?_))
  refine W.ret ?_
  refine ⟨.inl rfl, (Value.tuple #[vZ, (vB true)]), ?_, ?_⟩
  · exact ⟨rfl, (Res.r2 (show RV _ _ _ (.tmp 6) vZ from by exact rfl) (show RV _ _ _ (.tmp 7) (vB true) from by exact rfl))⟩
  refine ⟨?_, M.close [] rfl (by decide) trivial⟩
  rfl
 ·
  have h3p := of_decide_eq_false h3
  refine W.exit ?_
  refine thn_exit ?_
  refine thn_exit ?_
  refine inBlk_hit ?_
  refine wR (wM vN (wM t ?_))
  refine WL.callX rfl (sc_peek_n t (M.enterW0 trivial)) (CallsF.func Try.en25 rfl) ?_
  rintro _ w12 ⟨rfl, m⟩
  replace M := M.leaveW0 m
  clear m
  refine wM (Value.tuple #[(Value.agg #[(vS sZ), (vI 0)]), (vB false)]) (wP (Value.agg #[(vS sZ), (vI 0)]) (wP (vB false) ?_))
  refine WL.alloc (c := #[(vS sZ), (vI 0)]) M rfl Try.el41.zero rfl (fun b13 w14 hb13 M => ?_)
  refine WL.store (v := (Value.agg #[(vS sZ), (vI 0)])) (cs := [(vS sZ), (vI 0)]) (c' := #[(vS sZ), (vI 0)]) M 0 rfl rfl Try.el41.sized rfl rfl rfl rfl (Nat.le_of_ble_eq_true rfl) (cel_cons rfl (cel_cons rfl cel_nil)) rfl rfl (fun w15 M => ?_)
  refine wA (vB false) (WL.nil (wR (wM vZ (wM (vB false) (wP (vB true) ?_)))))
  refine wA vZ (wA (vB true) (WL.nil ?_))
  refine W.ret ?_
  refine ⟨.inl rfl, (Value.tuple #[vZ, (vB true)]), ?_, ?_⟩
  · exact ⟨rfl, (Res.r2 (show RV _ _ _ (.tmp 6) vZ from by exact rfl) (show RV _ _ _ (.tmp 7) (vB true) from by exact rfl))⟩
  refine ⟨?_, M.close [] rfl (by decide) trivial⟩
  rfl
theorem sc_page_0 {G X : Nat → Prop} {w : World} (sb : Nat) (s : Scn) (n : Int)   (M : Mem G X w [bk sb #[(vS s.frm), (vS s.to_), (vB s.back), (vS s.at_), (vB s.told)] 88] [] w) : Rets Try.prog 15 #[(vP sb), vN, (vI n)] w fun r w' => r = (Value.tuple #[vZ, (vB true)]) ∧ Mem G X w [bk sb #[(vS s.frm), (vS s.to_), (vB s.back), (vS s.at_), (vB s.told)] 88] [] w' := by
 refine Rets.enter 37 _ Try.func15 rfl Try.ntmps15 Try.results15 (by simp) ?_
 refine wR (wA vZ (wA (vB false) (WL.nil ?_)))
 refine W.scope ?_
 refine W.seq' ?_
 refine W.label ?_
 refine W.seq' (W.block ?_)
 refine W.loop (fun kk ρ w' => (kk = 0) ∧ ρ.has [(0, (vP sb)), (1, vN), (2, (vI n)), (6, vZ), (7, (vB false))] ∧ Mem G X w [bk sb #[(vS s.frm), (vS s.to_), (vB s.back), (vS s.at_), (vB s.told)] 88] []  w') _ ⟨rfl, ⟨rfl, rfl, rfl, rfl, rfl, rfl, rfl⟩, M⟩ ?_
 rintro _ ρ2 w1 ⟨rfl, hρ, M⟩
 obtain ⟨ρ2, rfl⟩ := hρ.know
 clear hρ
 refine W.seq' (wR (wM vZ (wS (vI 0) rfl (Step.lenS Try.un34 rfl rfl) (wM (vI n) (wP (vB (decide ((0 : Int) < (n : Int)))) ?_)))))
 refine WL.nil ?_
 refine W.cond (t := decide ((0 : Int) < (n : Int))) rfl (fun h3 => ?_) (fun h3 => ?_)
 ·
  have h3p := of_decide_eq_true h3
  refine W.skip (W.block (wR (wM (vP sb) (wM vN ?_))))
  have fq := M.frm [bk sb #[(vS s.frm), (vS s.to_), (vB s.back), (vS s.at_), (vB s.told)] 88] [] [0] rfl
  refine WL.callX rfl (sc_next_0 sb s (M.eF fq trivial)) (CallsF.func Try.en24 rfl) ?_
  rintro _ w4 ⟨rfl, m⟩
  replace M := M.lF fq m
  clear m
  refine wM (Value.tuple #[(Value.agg #[(vS sZ), (vI 0)]), (vB false)]) (wP (Value.agg #[(vS sZ), (vI 0)]) (wP (vB false) ?_))
  refine WL.alloc (c := #[(vS sZ), (vI 0)]) M rfl Try.el41.zero rfl (fun b5 w6 hb5 M => ?_)
  refine WL.store (v := (Value.agg #[(vS sZ), (vI 0)])) (cs := [(vS sZ), (vI 0)]) (c' := #[(vS sZ), (vI 0)]) M 0 rfl rfl Try.el41.sized rfl rfl rfl rfl (Nat.le_of_ble_eq_true rfl) (cel_cons rfl (cel_cons rfl cel_nil)) rfl rfl (fun w7 M => ?_)
  refine wA (vB false) (WL.nil (W.seq' (wR (wM (vB false) (wP (vB true) ?_)))))
  refine WL.nil ?_
  refine W.cond (t := true) rfl (fun _ => ?_) (fun h => by cases h)
  refine W.exit ?_
  refine thn_exit ?_
  refine inBlk_miss (by decide) ?_
  refine thn_exit ?_
  refine inBlk_hit ?_
  refine W.seq' ?_
  replace M := M.loseI 0
  refine W.region rfl (wM (vP sb) (wM vN ?_))
  refine WL.callX rfl (sc_peek_0 sb (M.enterW0 trivial)) (CallsF.func Try.en25 rfl) ?_
  rintro _ w8 ⟨rfl, m⟩
  replace M := M.leaveW0 m
  clear m
  refine wM (Value.tuple #[(Value.agg #[(vS sZ), (vI 0)]), (vB false)]) (wP (Value.agg #[(vS sZ), (vI 0)]) (wP (vB false) ?_))
  refine WL.alloc (c := #[(vS sZ), (vI 0)]) M rfl Try.el41.zero rfl (fun b9 w10 hb9 M => ?_)
  refine WL.store (v := (Value.agg #[(vS sZ), (vI 0)])) (cs := [(vS sZ), (vI 0)]) (c' := #[(vS sZ), (vI 0)]) M 0 rfl rfl Try.el41.sized rfl rfl rfl rfl (Nat.le_of_ble_eq_true rfl) (cel_cons rfl (cel_cons rfl cel_nil)) rfl rfl (fun w11 M => ?_)
  refine wA (vB false) (WL.nil (wR (wM vZ (wM (vB false) (wP (vB true) ?_)))))
  refine wA vZ (wA (vB true) (WL.nil ?_))
  refine W.ret ?_
  refine ⟨.inl rfl, (Value.tuple #[vZ, (vB true)]), ?_, ?_⟩
  · exact ⟨rfl, (Res.r2 (show RV _ _ _ (.tmp 6) vZ from by exact rfl) (show RV _ _ _ (.tmp 7) (vB true) from by exact rfl))⟩
  refine ⟨?_, M.close [1] rfl (by decide) trivial⟩
  rfl
 ·
  have h3p := of_decide_eq_false h3
  refine W.exit ?_
  refine thn_exit ?_
  refine thn_exit ?_
  refine inBlk_hit ?_
  refine wR (wM (vP sb) (wM vN ?_))
  refine WL.callX rfl (sc_peek_0 sb (M.enterW0 trivial)) (CallsF.func Try.en25 rfl) ?_
  rintro _ w12 ⟨rfl, m⟩
  replace M := M.leaveW0 m
  clear m
  refine wM (Value.tuple #[(Value.agg #[(vS sZ), (vI 0)]), (vB false)]) (wP (Value.agg #[(vS sZ), (vI 0)]) (wP (vB false) ?_))
  refine WL.alloc (c := #[(vS sZ), (vI 0)]) M rfl Try.el41.zero rfl (fun b13 w14 hb13 M => ?_)
  refine WL.store (v := (Value.agg #[(vS sZ), (vI 0)])) (cs := [(vS sZ), (vI 0)]) (c' := #[(vS sZ), (vI 0)]) M 0 rfl rfl Try.el41.sized rfl rfl rfl rfl (Nat.le_of_ble_eq_true rfl) (cel_cons rfl (cel_cons rfl cel_nil)) rfl rfl (fun w15 M => ?_)
  refine wA (vB false) (WL.nil (wR (wM vZ (wM (vB false) (wP (vB true) ?_)))))
  refine wA vZ (wA (vB true) (WL.nil ?_))
  refine W.ret ?_
  refine ⟨.inl rfl, (Value.tuple #[vZ, (vB true)]), ?_, ?_⟩
  · exact ⟨rfl, (Res.r2 (show RV _ _ _ (.tmp 6) vZ from by exact rfl) (show RV _ _ _ (.tmp 7) (vB true) from by exact rfl))⟩
  refine ⟨?_, M.close [1] rfl (by decide) trivial⟩
  rfl
end Go.Proofs
set_option maxRecDepth 100000
namespace Go.Proofs
open Go Tp
theorem Try.en14 : Enters Try.prog 14 := fun _ _ => by kernel_rfl
theorem sc_count_0 {G : Nat → Prop} {w : World} (f : ByteArray) (t : ByteArray)   (M : Mem G (fun _ => False) w [] [] w) : Rets Try.prog 20 #[vN, (vS f), (vS t)] w fun r w' => r = (vI 0) ∧ Mem G (fun _ => False) w [] [] w' := by
 refine Rets.enter 24 _ Try.func20 rfl Try.ntmps20 Try.results20 (by simp) ?_
 refine wR (wA (vI 0) (WL.nil (wR (wM (vS f) (wM (vS t) ?_)))))
 refine WL.callX rfl (sc_new f t false (M.enterW0 trivial)) (CallsF.func Try.en14 rfl) ?_
 rintro _ w2 ⟨sb1, rfl, m⟩
 replace M := M.leaveW0 m
 clear m
 refine wA (vP sb1) (WL.nil (W.block ?_))
 refine W.loop (fun kk ρ w' => (kk = 0) ∧ ρ.has [(0, vN), (6, (vI 0)), (7, (vP sb1))] ∧ Mem G (fun _ => False) w [bk sb1 #[(vS ((⟨f, t, false, sZ, false⟩ : Scn).frm)), (vS ((⟨f, t, false, sZ, false⟩ : Scn).to_)), (vB ((⟨f, t, false, sZ, false⟩ : Scn).back)), (vS ((⟨f, t, false, sZ, false⟩ : Scn).at_)), (vB ((⟨f, t, false, sZ, false⟩ : Scn).told))] 88] []  w') _ ⟨rfl, ⟨rfl, rfl, rfl, rfl, rfl⟩, M⟩ ?_
 rintro _ ρ4 w3 ⟨rfl, hρ, M⟩
 obtain ⟨ρ4, rfl⟩ := hρ.know
 clear hρ
 refine W.block (W.seq' (wR (wM (vP sb1) (wM vN ?_))))
 have fq := M.frm [bk sb1 #[(vS ((⟨f, t, false, sZ, false⟩ : Scn).frm)), (vS ((⟨f, t, false, sZ, false⟩ : Scn).to_)), (vB ((⟨f, t, false, sZ, false⟩ : Scn).back)), (vS ((⟨f, t, false, sZ, false⟩ : Scn).at_)), (vB ((⟨f, t, false, sZ, false⟩ : Scn).told))] 88] [] [0] rfl
 refine WL.callX rfl (sc_next_0 sb1 (⟨f, t, false, sZ, false⟩ : Scn) (M.eF fq trivial)) (CallsF.func Try.en24 rfl) ?_
 rintro _ w5 ⟨rfl, m⟩
 replace M := M.lF fq m
 clear m
 refine wM (Value.tuple #[(Value.agg #[(vS sZ), (vI 0)]), (vB false)]) (wP (Value.agg #[(vS sZ), (vI 0)]) (wP (vB false) ?_))
 refine WL.alloc (c := #[(vS sZ), (vI 0)]) M rfl Try.el41.zero rfl (fun b6 w7 hb6 M => ?_)
 refine WL.store (v := (Value.agg #[(vS sZ), (vI 0)])) (cs := [(vS sZ), (vI 0)]) (c' := #[(vS sZ), (vI 0)]) M 0 rfl rfl Try.el41.sized rfl rfl rfl rfl (Nat.le_of_ble_eq_true rfl) (cel_cons rfl (cel_cons rfl cel_nil)) rfl rfl (fun w8 M => ?_)
 refine wA (vB false) (WL.nil (wR (wM (vB false) (wP (vB true) (WL.nil ?_)))))
 refine W.cond (t := true) rfl (fun _ => ?_) (fun h => by cases h)
 refine wR (wM (vI 0) (wA (vI 0) (WL.nil ?_)))
 refine W.ret ?_
 refine ⟨.inl rfl, (vI 0), ?_, ?_⟩
 · exact ⟨rfl, (Res.r1 (show RV _ _ _ (.tmp 6) (vI 0) from by exact rfl))⟩
 refine ⟨?_, M.close [] rfl (by decide) trivial⟩
 rfl
end Go.Proofs
namespace Tp
open Go
def row4 : List THit := [⟨⟨#[97]⟩, 0⟩, ⟨⟨#[98]⟩, 1⟩, ⟨⟨#[99]⟩, 2⟩, ⟨⟨#[100]⟩, 3⟩]
theorem rowE_4 : rowE ([⟨#[97]⟩, ⟨#[98]⟩, ⟨#[99]⟩, ⟨#[100]⟩] : List ByteArray) 4 = row4 := by decide +kernel
end Tp
set_option maxRecDepth 100000
namespace Go.Proofs
open Go Tp
theorem l13_planted {G : Nat → Prop} {w : World} (kv : Value) (ks : List ByteArray)  (hk : ks.length ≤ 40) (M : Mem G (fun _ => False) w [] [fS kv ks] w) : Rets Try.prog 13 #[kv] w fun r w' => ∃ (tb' : Nat) (S' : Nat → Prop) (rv' : Value), r = (Value.tuple #[(vP tb'), rv']) ∧ Mem G (fun _ => False) w [tT S' tb' (rowE ks ks.length) ks.length] [fR rv' (rowE ks ks.length)] w' := by
 refine Rets.enter 30 _ Try.func13 rfl Try.ntmps13 Try.results13 (by simp) ?_
 have hle1 := SlAt.le' (M.rep 0 rfl)
 have sl2 : IsSl kv := SlAt.isSl (Mem.rep M 0 rfl)
 refine wR (wA vN (wA vZ (WL.nil (wR ?_))))
 refine WL.callX rfl (T_new  (M.enterW0 trivial)) (CallsF.func Try.en30 rfl) ?_
 rintro _ w5 ⟨tb3, S4, rfl, m⟩
 replace M := M.leaveW0 m
 clear m
 refine wA (vP tb3) (WL.nil (wR (wA vZ (WL.nil (W.seq' ?_)))))
 refine wR (wA (vI 0) (WL.nil (W.block ?_)))
 replace M := M.ownNil 108 2
 replace M := M.shareOwn 0 rfl
 replace M : Mem _ _ _ [tT S4 tb3 ([] : List THit) 0] [fR vZ ([] : List THit), fS kv ks] _ := M
 replace M := M.rechunk 0 (c' := tT S4 tb3 (rowE ks 0) 0) rfl (rfl)
 have hrf6 := Sh.reList (show rowE ks 0 = ([] : List THit) by rfl) (M.shr' 0 rfl)
 replace M := M.facts (R' := [fR vZ (rowE ks 0), fS kv ks]) (Facts.all ⟨hrf6, M.shr' 1 rfl, trivial⟩)
 refine W.loop (fun kk ρ w' => ∃ (i_ : Nat) (rv_ : Value) (S_ : Nat → Prop), ((i_ ≤ ks.length) ∧ kk = ks.length - i_) ∧ ρ.has [(0, kv), (2, vN), (3, vZ), (4, (vP tb3)), (5, rv_), (6, (vI ↑i_))] ∧ Mem G (fun _ => False) w [tT S_ tb3 (rowE ks i_) i_] [fR rv_ (rowE ks i_), fS kv ks]  w') _ ⟨0, _, _, ⟨(Nat.zero_le _), rfl⟩, ⟨rfl, rfl, rfl, rfl, rfl, rfl, rfl, rfl⟩, M⟩ ?_
 rintro _ ρ8 w7 ⟨i_, rv_, S_, ⟨hi9, rfl⟩, hρ, M⟩
 obtain ⟨ρ8, rfl⟩ := hρ.know
 clear hρ
 have sl10 : IsSl rv_ := SlAt.isSl (M.rep 0 rfl)
 obtain ⟨_, hrc_⟩ := tabC_up (M.chunk 0 rfl).inv
 refine W.seq' (wR (wM (vI ↑i_) (wM kv (wS (vI ↑ks.length) rfl (Step.lenSl Try.un22 rfl (M.rep 1 rfl)) (wP (vB (decide ((↑i_ : Int) < (↑ks.length : Int)))) ?_)))))
 refine WL.nil ?_
 refine W.cond (t := decide ((↑i_ : Int) < (↑ks.length : Int))) rfl (fun h11 => ?_) (fun h11 => ?_)
 ·
  have h11p := of_decide_eq_true h11
  refine W.skip (W.seq' (W.block (wR (wM (vP tb3) (wM kv ?_)))))
  refine wM (vI ↑i_) ?_
  obtain ⟨cap13, hb12⟩ := SlAt.base (M.rep 1 rfl) (by omega)
  obtain ⟨x14, hx14⟩ := elem_of_lt (xs := ks) (i := i_) (by omega)
  refine wS (vQ kv i_ 1) rfl (sX i_ Try.un22 Try.el9 rfl rfl hb12) (wS (vS x14) rfl (Step.loadE (k := 0) Try.sc9 (flat_ec (M.rep 1 rfl) hx14 strE_len) (by decide) rfl rfl) (wM (vI ↑i_) ?_))
  have fq := M.frm [tT S_ tb3 (rowE ks i_) i_] [] [0] rfl
  refine WL.callX rfl (T_put tb3 S_ (rowE ks i_) i_ x14 ↑i_ (by first | assumption | omega) (M.eF fq trivial)) (CallsF.func Try.en18 rfl) ?_
  rintro _ w16 ⟨S15, rfl, m⟩
  replace M := M.lF fq m
  clear m
  refine WL.nil (W.region rfl (wM rv_ (wM kv (wM (vI ↑i_) (wS (vQ kv i_ 1) rfl (sX i_ Try.un22 Try.el9 rfl rfl hb12) ?_)))))
  refine wS (vS x14) rfl (Step.loadE (k := 0) Try.sc9 (flat_ec (M.rep 1 rfl) hx14 strE_len) (by decide) rfl rfl) (wM (vI ↑i_) ?_)
  refine WL.callX rfl (r_put rv_ (rowE ks i_) x14 ↑i_ (by omega) (M.enter0 ⟨(M.shr' 0 rfl), trivial⟩)) (CallsF.func Try.en39 rfl) ?_
  rintro v17 w18 ⟨_, rfl, m⟩
  replace M := M.leave0 m
  clear m
  have sl19 : IsSl v17 := SlAt.isSl (Mem.rep M 0 rfl)
  have hle20 := SlAt.le' (M.rep 0 rfl)
  refine wA v17 (WL.nil (W.region rfl (wM (vI ↑i_) (wS (vI (↑i_ + 1)) rfl (Step.add rfl rfl (wrap_i64 (by omega))) (wA (vI (↑i_ + 1)) ?_)))))
  refine WL.nil ?_
  replace M := M.rechunk 0 (c' := tT S15 tb3 (rowE ks (i_ + 1)) (i_ + 1)) rfl (by rw [rowE_succ hx14])
  have hrf21 := Sh.reList (show rowE ks (i_ + 1) = putR (rowE ks i_) (⟨x14, ↑i_⟩ : THit) by rw [rowE_succ hx14]) (M.shr' 0 rfl)
  replace M := M.facts (R' := [fR v17 (rowE ks (i_ + 1)), fR rv_ (rowE ks i_), fS kv ks]) (Facts.all ⟨hrf21, M.shr' 1 rfl, M.shr' 2 rfl, trivial⟩)
  replace M := M.facts (R' := [fR v17 (rowE ks (i_ + 1)), fS kv ks]) (Facts.all ⟨M.shr' 0 rfl, M.shr' 2 rfl, trivial⟩)
  exact ⟨_, (by omega), i_ + 1, v17, S15, ⟨(by omega), rfl⟩, ⟨rfl, rfl, rfl, rfl, rfl, rfl, rfl, rfl⟩, M⟩
 ·
  have h11p := of_decide_eq_false h11
  refine W.exit ?_
  refine thn_exit ?_
  refine thn_exit ?_
  refine inBlk_hit ?_
  refine wR (wM (vP tb3) (wM rv_ (wA (vP tb3) (wA rv_ (WL.nil ?_)))))
  refine W.ret ?_
  refine ⟨.inl rfl, (Value.tuple #[(vP tb3), rv_]), ?_, ?_⟩
  · exact ⟨rfl, (Res.r2 (show RV _ _ _ (.tmp 2) (vP tb3) from by exact rfl) (show RV _ _ _ (.tmp 3) rv_ from by exact rfl))⟩
  have e22 : rowE ks ks.length = rowE ks i_ := by
   rw [show ks.length = i_ by omega]
  have e23 : ks.length = i_ := by
   omega
  replace M := M.rechunk 0 (c' := tT S_ tb3 (rowE ks ks.length) ks.length) rfl (by rw [e22, e23])
  have e24 : rowE ks ks.length = rowE ks i_ := by
   rw [show ks.length = i_ by omega]
  have hf25 := Sh.reList e24 (M.shr' 0 rfl)
  refine ⟨tb3, S_, rv_, ?_, M.close [0] rfl (by decide) ⟨hf25, trivial⟩⟩
  rfl
end Go.Proofs
set_option maxRecDepth 100000
namespace Go.Proofs
open Go Tp
theorem Try.en15 : Enters Try.prog 15 := fun _ _ => by kernel_rfl
theorem Try.en26 : Enters Try.prog 26 := fun _ _ => by kernel_rfl
theorem Try.en27 : Enters Try.prog 27 := fun _ _ => by kernel_rfl
end Go.Proofs
set_option maxRecDepth 100000
namespace Go.Proofs
open Go Tp
theorem Try.en13 : Enters Try.prog 13 := fun _ _ => by kernel_rfl
theorem l13_works {G : Nat → Prop} {w : World}    (M : Mem G (fun _ => False) w [] [] w) : Rets Try.prog 12 #[] w fun r w' => r = (vB true) ∧ Mem G (fun _ => False) w [] [] w' := by
 refine Rets.enter 135 _ Try.func12 rfl Try.ntmps12 Try.results12 (by simp) ?_
 refine wR (wA (vB false) (WL.nil (wR ?_)))
 refine WL.new (obj := .cells #[(vS (⟨#[97]⟩ : ByteArray)), (vS (⟨#[98]⟩ : ByteArray)), (vS (⟨#[99]⟩ : ByteArray)), (vS (⟨#[100]⟩ : ByteArray))] 9) (fun b => .slice (some ⟨b, 0, none⟩) 4 4) M rfl (fun w => Step.make (by kernel_rfl)) (fun b1 w2 hb1 M => ?_)
 replace M := M.shareBlk 0 (n := 4) (size := 1) rfl rfl (by decide)
 refine WL.callX rfl (l13_planted (Value.slice (some ⟨b1, 0, none⟩) 4 4) ([(⟨#[97]⟩ : ByteArray), (⟨#[98]⟩ : ByteArray), (⟨#[99]⟩ : ByteArray), (⟨#[100]⟩ : ByteArray)] : List ByteArray) (by first | omega | decide) (M.enter0 ⟨(M.shr' 0 rfl), trivial⟩)) (CallsF.func Try.en13 rfl) ?_
 rintro _ w6 ⟨tb3, S4, rv5, rfl, m⟩
 replace M := M.leave0 m
 clear m
 have sl7 : IsSl rv5 := SlAt.isSl (Mem.rep M 0 rfl)
 have hle8 := SlAt.le' (M.rep 0 rfl)
 replace M := M.rechunk 0 (c' := tT S4 tb3 row4 4) rfl (by rw [show rowE ([(⟨#[97]⟩ : ByteArray), (⟨#[98]⟩ : ByteArray), (⟨#[99]⟩ : ByteArray), (⟨#[100]⟩ : ByteArray)] : List ByteArray) ([(⟨#[97]⟩ : ByteArray), (⟨#[98]⟩ : ByteArray), (⟨#[99]⟩ : ByteArray), (⟨#[100]⟩ : ByteArray)] : List ByteArray).length = row4 from rowE_4]; rfl)
 refine wM (Value.tuple #[(vP tb3), rv5]) (wP (vP tb3) (wP rv5 (wA (vP tb3) (wA rv5 (WL.nil ?_)))))
 refine wR ?_
 refine WL.callX rfl (sc_new (⟨#[98]⟩ : ByteArray) (⟨#[100]⟩ : ByteArray) false (M.enterW0 trivial)) (CallsF.func Try.en14 rfl) ?_
 rintro _ w10 ⟨sb9, rfl, m⟩
 replace M := M.leaveW0 m
 clear m
 refine wM (vP tb3) ?_
 have fq := M.frm [bk sb9 #[(vS ((⟨(⟨#[98]⟩ : ByteArray), (⟨#[100]⟩ : ByteArray), false, sZ, false⟩ : Scn).frm)), (vS ((⟨(⟨#[98]⟩ : ByteArray), (⟨#[100]⟩ : ByteArray), false, sZ, false⟩ : Scn).to_)), (vB ((⟨(⟨#[98]⟩ : ByteArray), (⟨#[100]⟩ : ByteArray), false, sZ, false⟩ : Scn).back)), (vS ((⟨(⟨#[98]⟩ : ByteArray), (⟨#[100]⟩ : ByteArray), false, sZ, false⟩ : Scn).at_)), (vB ((⟨(⟨#[98]⟩ : ByteArray), (⟨#[100]⟩ : ByteArray), false, sZ, false⟩ : Scn).told))] 88, tT S4 tb3 row4 4] [] [0, 1] rfl
 refine WL.callX rfl (sc_page sb9 (⟨(⟨#[98]⟩ : ByteArray), (⟨#[100]⟩ : ByteArray), false, sZ, false⟩ : Scn) tb3 S4 row4 4 5 (by first | assumption | omega) (M.eF fq trivial)) (CallsF.func Try.en15 rfl) ?_
 rintro _ w12 ⟨v11, rfl, m⟩
 replace M := M.lF fq m
 clear m
 have sl13 : IsSl v11 := SlAt.isSl (own_slAt (Mem.chunk M 2 rfl).inv)
 have hle14 := SlAt.le' (own_slAt (Mem.chunk M 2 rfl).inv)
 have hln15 : (pageL (⟨(⟨#[98]⟩ : ByteArray), (⟨#[100]⟩ : ByteArray), false, sZ, false⟩ : Scn) row4 5).length = 2 := by decide +kernel
 refine wM (Value.tuple #[v11, (vB (pageD (⟨(⟨#[98]⟩ : ByteArray), (⟨#[100]⟩ : ByteArray), false, sZ, false⟩ : Scn) row4 5))]) (wP v11 (wS (vB true) rfl (Step.cast (congrArg Value.bool (show (pageD (⟨(⟨#[98]⟩ : ByteArray), (⟨#[100]⟩ : ByteArray), false, sZ, false⟩ : Scn) row4 5) = true by decide +kernel)) sP) (wA v11 (wA (vB true) (WL.nil ?_)))))
 refine W.seq' ?_
 replace M := M.loseI 0
 refine W.region rfl ?_
 refine WL.callX rfl (sc_new (⟨#[98]⟩ : ByteArray) sZ true (M.enterW0 trivial)) (CallsF.func Try.en14 rfl) ?_
 rintro _ w17 ⟨sb16, rfl, m⟩
 replace M := M.leaveW0 m
 clear m
 refine wA (vP sb16) (WL.nil (wR (wM (vP sb16) (wM (vP tb3) ?_))))
 have fq := M.frm [bk sb16 #[(vS ((⟨(⟨#[98]⟩ : ByteArray), sZ, true, sZ, false⟩ : Scn).frm)), (vS ((⟨(⟨#[98]⟩ : ByteArray), sZ, true, sZ, false⟩ : Scn).to_)), (vB ((⟨(⟨#[98]⟩ : ByteArray), sZ, true, sZ, false⟩ : Scn).back)), (vS ((⟨(⟨#[98]⟩ : ByteArray), sZ, true, sZ, false⟩ : Scn).at_)), (vB ((⟨(⟨#[98]⟩ : ByteArray), sZ, true, sZ, false⟩ : Scn).told))] 88, tT S4 tb3 row4 4] [oR v11 (pageL (⟨(⟨#[98]⟩ : ByteArray), (⟨#[100]⟩ : ByteArray), false, sZ, false⟩ : Scn) row4 5)] [0, 1, 2] rfl
 refine WL.callX rfl (sc_page sb16 (⟨(⟨#[98]⟩ : ByteArray), sZ, true, sZ, false⟩ : Scn) tb3 S4 row4 4 2 (by first | assumption | omega) (M.eF fq trivial)) (CallsF.func Try.en15 rfl) ?_
 rintro _ w19 ⟨v18, rfl, m⟩
 replace M := M.lF fq m
 clear m
 have sl20 : IsSl v18 := SlAt.isSl (own_slAt (Mem.chunk M 2 rfl).inv)
 have hle21 := SlAt.le' (own_slAt (Mem.chunk M 2 rfl).inv)
 have hln22 : (pageL (⟨(⟨#[98]⟩ : ByteArray), sZ, true, sZ, false⟩ : Scn) row4 2).length = 2 := by decide +kernel
 refine wM (Value.tuple #[v18, (vB (pageD (⟨(⟨#[98]⟩ : ByteArray), sZ, true, sZ, false⟩ : Scn) row4 2))]) (wP v18 (wS (vB false) rfl (Step.cast (congrArg Value.bool (show (pageD (⟨(⟨#[98]⟩ : ByteArray), sZ, true, sZ, false⟩ : Scn) row4 2) = false by decide +kernel)) sP) (wA v18 (wA (vB false) (WL.nil ?_)))))
 refine wR (wM (vP sb16) (wM (vP tb3) ?_))
 have fq := M.frm [bk sb16 #[(vS ((pageS (⟨(⟨#[98]⟩ : ByteArray), sZ, true, sZ, false⟩ : Scn) row4 2).frm)), (vS ((pageS (⟨(⟨#[98]⟩ : ByteArray), sZ, true, sZ, false⟩ : Scn) row4 2).to_)), (vB ((pageS (⟨(⟨#[98]⟩ : ByteArray), sZ, true, sZ, false⟩ : Scn) row4 2).back)), (vS ((pageS (⟨(⟨#[98]⟩ : ByteArray), sZ, true, sZ, false⟩ : Scn) row4 2).at_)), (vB ((pageS (⟨(⟨#[98]⟩ : ByteArray), sZ, true, sZ, false⟩ : Scn) row4 2).told))] 88, tT S4 tb3 row4 4] [oR v18 (pageL (⟨(⟨#[98]⟩ : ByteArray), sZ, true, sZ, false⟩ : Scn) row4 2), oR v11 (pageL (⟨(⟨#[98]⟩ : ByteArray), (⟨#[100]⟩ : ByteArray), false, sZ, false⟩ : Scn) row4 5)] [0, 1, 2, 3] rfl
 refine WL.callX rfl (sc_next sb16 (pageS (⟨(⟨#[98]⟩ : ByteArray), sZ, true, sZ, false⟩ : Scn) row4 2) tb3 S4 row4 4 (by first | assumption | omega) (M.eF fq trivial)) (CallsF.func Try.en24 rfl) ?_
 rintro _ w23 ⟨rfl, m⟩
 replace M := M.lF fq m
 clear m
 refine wM (Value.tuple #[(Value.agg #[(vS (((peekR (pageS (⟨(⟨#[98]⟩ : ByteArray), sZ, true, sZ, false⟩ : Scn) row4 2) row4).1).key)), (vI (((peekR (pageS (⟨(⟨#[98]⟩ : ByteArray), sZ, true, sZ, false⟩ : Scn) row4 2) row4).1).val))]), (vB ((peekR (pageS (⟨(⟨#[98]⟩ : ByteArray), sZ, true, sZ, false⟩ : Scn) row4 2) row4).2))]) (wP (Value.agg #[(vS (((peekR (pageS (⟨(⟨#[98]⟩ : ByteArray), sZ, true, sZ, false⟩ : Scn) row4 2) row4).1).key)), (vI (((peekR (pageS (⟨(⟨#[98]⟩ : ByteArray), sZ, true, sZ, false⟩ : Scn) row4 2) row4).1).val))]) (wS (vB true) rfl (Step.cast (congrArg Value.bool (show ((peekR (pageS (⟨(⟨#[98]⟩ : ByteArray), sZ, true, sZ, false⟩ : Scn) row4 2) row4).2) = true by decide +kernel)) sP) ?_))
 refine WL.alloc (c := #[(vS sZ), (vI 0)]) M rfl Try.el41.zero rfl (fun b24 w25 hb24 M => ?_)
 refine WL.store (v := (Value.agg #[(vS (((peekR (pageS (⟨(⟨#[98]⟩ : ByteArray), sZ, true, sZ, false⟩ : Scn) row4 2) row4).1).key)), (vI (((peekR (pageS (⟨(⟨#[98]⟩ : ByteArray), sZ, true, sZ, false⟩ : Scn) row4 2) row4).1).val))])) (cs := [(vS (((peekR (pageS (⟨(⟨#[98]⟩ : ByteArray), sZ, true, sZ, false⟩ : Scn) row4 2) row4).1).key)), (vI (((peekR (pageS (⟨(⟨#[98]⟩ : ByteArray), sZ, true, sZ, false⟩ : Scn) row4 2) row4).1).val))]) (c' := #[(vS (((peekR (pageS (⟨(⟨#[98]⟩ : ByteArray), sZ, true, sZ, false⟩ : Scn) row4 2) row4).1).key)), (vI (((peekR (pageS (⟨(⟨#[98]⟩ : ByteArray), sZ, true, sZ, false⟩ : Scn) row4 2) row4).1).val))]) M 0 rfl rfl Try.el41.sized rfl rfl rfl rfl (Nat.le_of_ble_eq_true rfl) (cel_cons rfl (cel_cons rfl cel_nil)) rfl rfl (fun w26 M => ?_)
 refine wA (vB true) (WL.nil (wR (wM (vP sb16) (wM (vP tb3) ?_))))
 have fq := M.frm [bk sb16 #[(vS ((nextR (pageS (⟨(⟨#[98]⟩ : ByteArray), sZ, true, sZ, false⟩ : Scn) row4 2) row4).frm)), (vS ((nextR (pageS (⟨(⟨#[98]⟩ : ByteArray), sZ, true, sZ, false⟩ : Scn) row4 2) row4).to_)), (vB ((nextR (pageS (⟨(⟨#[98]⟩ : ByteArray), sZ, true, sZ, false⟩ : Scn) row4 2) row4).back)), (vS ((nextR (pageS (⟨(⟨#[98]⟩ : ByteArray), sZ, true, sZ, false⟩ : Scn) row4 2) row4).at_)), (vB ((nextR (pageS (⟨(⟨#[98]⟩ : ByteArray), sZ, true, sZ, false⟩ : Scn) row4 2) row4).told))] 88, tT S4 tb3 row4 4] [bk b24 #[(vS (((peekR (pageS (⟨(⟨#[98]⟩ : ByteArray), sZ, true, sZ, false⟩ : Scn) row4 2) row4).1).key)), (vI (((peekR (pageS (⟨(⟨#[98]⟩ : ByteArray), sZ, true, sZ, false⟩ : Scn) row4 2) row4).1).val))] 41, oR v18 (pageL (⟨(⟨#[98]⟩ : ByteArray), sZ, true, sZ, false⟩ : Scn) row4 2), oR v11 (pageL (⟨(⟨#[98]⟩ : ByteArray), (⟨#[100]⟩ : ByteArray), false, sZ, false⟩ : Scn) row4 5)] [1, 2, 0, 3, 4] rfl
 refine WL.callX rfl (sc_next sb16 (nextR (pageS (⟨(⟨#[98]⟩ : ByteArray), sZ, true, sZ, false⟩ : Scn) row4 2) row4) tb3 S4 row4 4 (by first | assumption | omega) (M.eF fq trivial)) (CallsF.func Try.en24 rfl) ?_
 rintro _ w27 ⟨rfl, m⟩
 replace M := M.lF fq m
 clear m
 refine wM (Value.tuple #[(Value.agg #[(vS (((peekR (nextR (pageS (⟨(⟨#[98]⟩ : ByteArray), sZ, true, sZ, false⟩ : Scn) row4 2) row4) row4).1).key)), (vI (((peekR (nextR (pageS (⟨(⟨#[98]⟩ : ByteArray), sZ, true, sZ, false⟩ : Scn) row4 2) row4) row4).1).val))]), (vB ((peekR (nextR (pageS (⟨(⟨#[98]⟩ : ByteArray), sZ, true, sZ, false⟩ : Scn) row4 2) row4) row4).2))]) (wP (Value.agg #[(vS (((peekR (nextR (pageS (⟨(⟨#[98]⟩ : ByteArray), sZ, true, sZ, false⟩ : Scn) row4 2) row4) row4).1).key)), (vI (((peekR (nextR (pageS (⟨(⟨#[98]⟩ : ByteArray), sZ, true, sZ, false⟩ : Scn) row4 2) row4) row4).1).val))]) (wS (vB false) rfl (Step.cast (congrArg Value.bool (show ((peekR (nextR (pageS (⟨(⟨#[98]⟩ : ByteArray), sZ, true, sZ, false⟩ : Scn) row4 2) row4) row4).2) = false by decide +kernel)) sP) ?_))
 refine WL.alloc (c := #[(vS sZ), (vI 0)]) M rfl Try.el41.zero rfl (fun b28 w29 hb28 M => ?_)
 refine WL.store (v := (Value.agg #[(vS (((peekR (nextR (pageS (⟨(⟨#[98]⟩ : ByteArray), sZ, true, sZ, false⟩ : Scn) row4 2) row4) row4).1).key)), (vI (((peekR (nextR (pageS (⟨(⟨#[98]⟩ : ByteArray), sZ, true, sZ, false⟩ : Scn) row4 2) row4) row4).1).val))])) (cs := [(vS (((peekR (nextR (pageS (⟨(⟨#[98]⟩ : ByteArray), sZ, true, sZ, false⟩ : Scn) row4 2) row4) row4).1).key)), (vI (((peekR (nextR (pageS (⟨(⟨#[98]⟩ : ByteArray), sZ, true, sZ, false⟩ : Scn) row4 2) row4) row4).1).val))]) (c' := #[(vS (((peekR (nextR (pageS (⟨(⟨#[98]⟩ : ByteArray), sZ, true, sZ, false⟩ : Scn) row4 2) row4) row4).1).key)), (vI (((peekR (nextR (pageS (⟨(⟨#[98]⟩ : ByteArray), sZ, true, sZ, false⟩ : Scn) row4 2) row4) row4).1).val))]) M 0 rfl rfl Try.el41.sized rfl rfl rfl rfl (Nat.le_of_ble_eq_true rfl) (cel_cons rfl (cel_cons rfl cel_nil)) rfl rfl (fun w30 M => ?_)
 refine wA (vB false) (WL.nil (W.seq' ?_))
 replace M := M.loseI 1
 replace M := M.loseI 0
 refine W.region rfl ?_
 refine WL.callX rfl (sc_new (⟨#[97]⟩ : ByteArray) sZ false (M.enterW0 trivial)) (CallsF.func Try.en14 rfl) ?_
 rintro _ w32 ⟨sb31, rfl, m⟩
 replace M := M.leaveW0 m
 clear m
 refine wA (vP sb31) (WL.nil (wR (wM (vP sb31) (wM (vP tb3) ?_))))
 have fq := M.frm [bk sb31 #[(vS ((⟨(⟨#[97]⟩ : ByteArray), sZ, false, sZ, false⟩ : Scn).frm)), (vS ((⟨(⟨#[97]⟩ : ByteArray), sZ, false, sZ, false⟩ : Scn).to_)), (vB ((⟨(⟨#[97]⟩ : ByteArray), sZ, false, sZ, false⟩ : Scn).back)), (vS ((⟨(⟨#[97]⟩ : ByteArray), sZ, false, sZ, false⟩ : Scn).at_)), (vB ((⟨(⟨#[97]⟩ : ByteArray), sZ, false, sZ, false⟩ : Scn).told))] 88, tT S4 tb3 row4 4] [bk b24 #[(vS (((peekR (pageS (⟨(⟨#[98]⟩ : ByteArray), sZ, true, sZ, false⟩ : Scn) row4 2) row4).1).key)), (vI (((peekR (pageS (⟨(⟨#[98]⟩ : ByteArray), sZ, true, sZ, false⟩ : Scn) row4 2) row4).1).val))] 41, oR v18 (pageL (⟨(⟨#[98]⟩ : ByteArray), sZ, true, sZ, false⟩ : Scn) row4 2), oR v11 (pageL (⟨(⟨#[98]⟩ : ByteArray), (⟨#[100]⟩ : ByteArray), false, sZ, false⟩ : Scn) row4 5)] [0, 1, 2, 3, 4] rfl
 refine WL.callX rfl (sc_next sb31 (⟨(⟨#[97]⟩ : ByteArray), sZ, false, sZ, false⟩ : Scn) tb3 S4 row4 4 (by first | assumption | omega) (M.eF fq trivial)) (CallsF.func Try.en24 rfl) ?_
 rintro _ w33 ⟨rfl, m⟩
 replace M := M.lF fq m
 clear m
 refine wM (Value.tuple #[(Value.agg #[(vS (((peekR (⟨(⟨#[97]⟩ : ByteArray), sZ, false, sZ, false⟩ : Scn) row4).1).key)), (vI (((peekR (⟨(⟨#[97]⟩ : ByteArray), sZ, false, sZ, false⟩ : Scn) row4).1).val))]), (vB ((peekR (⟨(⟨#[97]⟩ : ByteArray), sZ, false, sZ, false⟩ : Scn) row4).2))]) (wP (Value.agg #[(vS (((peekR (⟨(⟨#[97]⟩ : ByteArray), sZ, false, sZ, false⟩ : Scn) row4).1).key)), (vI (((peekR (⟨(⟨#[97]⟩ : ByteArray), sZ, false, sZ, false⟩ : Scn) row4).1).val))]) (wS (vB true) rfl (Step.cast (congrArg Value.bool (show ((peekR (⟨(⟨#[97]⟩ : ByteArray), sZ, false, sZ, false⟩ : Scn) row4).2) = true by decide +kernel)) sP) ?_))
 refine WL.alloc (c := #[(vS sZ), (vI 0)]) M rfl Try.el41.zero rfl (fun b34 w35 hb34 M => ?_)
 refine WL.store (v := (Value.agg #[(vS (((peekR (⟨(⟨#[97]⟩ : ByteArray), sZ, false, sZ, false⟩ : Scn) row4).1).key)), (vI (((peekR (⟨(⟨#[97]⟩ : ByteArray), sZ, false, sZ, false⟩ : Scn) row4).1).val))])) (cs := [(vS (((peekR (⟨(⟨#[97]⟩ : ByteArray), sZ, false, sZ, false⟩ : Scn) row4).1).key)), (vI (((peekR (⟨(⟨#[97]⟩ : ByteArray), sZ, false, sZ, false⟩ : Scn) row4).1).val))]) (c' := #[(vS (((peekR (⟨(⟨#[97]⟩ : ByteArray), sZ, false, sZ, false⟩ : Scn) row4).1).key)), (vI (((peekR (⟨(⟨#[97]⟩ : ByteArray), sZ, false, sZ, false⟩ : Scn) row4).1).val))]) M 0 rfl rfl Try.el41.sized rfl rfl rfl rfl (Nat.le_of_ble_eq_true rfl) (cel_cons rfl (cel_cons rfl cel_nil)) rfl rfl (fun w36 M => ?_)
 refine wA (vB true) (WL.nil (wR (wM (vP tb3) ?_)))
 have fq := M.frm [tT S4 tb3 row4 4] [bk b34 #[(vS (((peekR (⟨(⟨#[97]⟩ : ByteArray), sZ, false, sZ, false⟩ : Scn) row4).1).key)), (vI (((peekR (⟨(⟨#[97]⟩ : ByteArray), sZ, false, sZ, false⟩ : Scn) row4).1).val))] 41, bk sb31 #[(vS ((nextR (⟨(⟨#[97]⟩ : ByteArray), sZ, false, sZ, false⟩ : Scn) row4).frm)), (vS ((nextR (⟨(⟨#[97]⟩ : ByteArray), sZ, false, sZ, false⟩ : Scn) row4).to_)), (vB ((nextR (⟨(⟨#[97]⟩ : ByteArray), sZ, false, sZ, false⟩ : Scn) row4).back)), (vS ((nextR (⟨(⟨#[97]⟩ : ByteArray), sZ, false, sZ, false⟩ : Scn) row4).at_)), (vB ((nextR (⟨(⟨#[97]⟩ : ByteArray), sZ, false, sZ, false⟩ : Scn) row4).told))] 88, bk b24 #[(vS (((peekR (pageS (⟨(⟨#[98]⟩ : ByteArray), sZ, true, sZ, false⟩ : Scn) row4 2) row4).1).key)), (vI (((peekR (pageS (⟨(⟨#[98]⟩ : ByteArray), sZ, true, sZ, false⟩ : Scn) row4 2) row4).1).val))] 41, oR v18 (pageL (⟨(⟨#[98]⟩ : ByteArray), sZ, true, sZ, false⟩ : Scn) row4 2), oR v11 (pageL (⟨(⟨#[98]⟩ : ByteArray), (⟨#[100]⟩ : ByteArray), false, sZ, false⟩ : Scn) row4 5)] [2, 0, 1, 3, 4, 5] rfl
 refine WL.callX rfl (T_delete tb3 S4 row4 4 (⟨#[98]⟩ : ByteArray) (by first | assumption | omega) (M.eF fq trivial)) (CallsF.func Try.en19 rfl) ?_
 rintro _ w38 ⟨S37, rfl, m⟩
 replace M := M.lF fq m
 clear m
 refine WL.nil (wR (wM (vP tb3) ?_))
 have fq := M.frm [tT S37 tb3 (delL row4 (⟨#[98]⟩ : ByteArray)) 4] [bk b34 #[(vS (((peekR (⟨(⟨#[97]⟩ : ByteArray), sZ, false, sZ, false⟩ : Scn) row4).1).key)), (vI (((peekR (⟨(⟨#[97]⟩ : ByteArray), sZ, false, sZ, false⟩ : Scn) row4).1).val))] 41, bk sb31 #[(vS ((nextR (⟨(⟨#[97]⟩ : ByteArray), sZ, false, sZ, false⟩ : Scn) row4).frm)), (vS ((nextR (⟨(⟨#[97]⟩ : ByteArray), sZ, false, sZ, false⟩ : Scn) row4).to_)), (vB ((nextR (⟨(⟨#[97]⟩ : ByteArray), sZ, false, sZ, false⟩ : Scn) row4).back)), (vS ((nextR (⟨(⟨#[97]⟩ : ByteArray), sZ, false, sZ, false⟩ : Scn) row4).at_)), (vB ((nextR (⟨(⟨#[97]⟩ : ByteArray), sZ, false, sZ, false⟩ : Scn) row4).told))] 88, bk b24 #[(vS (((peekR (pageS (⟨(⟨#[98]⟩ : ByteArray), sZ, true, sZ, false⟩ : Scn) row4 2) row4).1).key)), (vI (((peekR (pageS (⟨(⟨#[98]⟩ : ByteArray), sZ, true, sZ, false⟩ : Scn) row4 2) row4).1).val))] 41, oR v18 (pageL (⟨(⟨#[98]⟩ : ByteArray), sZ, true, sZ, false⟩ : Scn) row4 2), oR v11 (pageL (⟨(⟨#[98]⟩ : ByteArray), (⟨#[100]⟩ : ByteArray), false, sZ, false⟩ : Scn) row4 5)] [0, 1, 2, 3, 4, 5] rfl
 refine WL.callX rfl (T_delete tb3 S37 (delL row4 (⟨#[98]⟩ : ByteArray)) 4 (⟨#[99]⟩ : ByteArray) (by first | assumption | omega) (M.eF fq trivial)) (CallsF.func Try.en19 rfl) ?_
 rintro _ w40 ⟨S39, rfl, m⟩
 replace M := M.lF fq m
 clear m
 refine WL.nil (wR (wM (vP sb31) (wM (vP tb3) ?_)))
 have fq := M.frm [bk sb31 #[(vS ((nextR (⟨(⟨#[97]⟩ : ByteArray), sZ, false, sZ, false⟩ : Scn) row4).frm)), (vS ((nextR (⟨(⟨#[97]⟩ : ByteArray), sZ, false, sZ, false⟩ : Scn) row4).to_)), (vB ((nextR (⟨(⟨#[97]⟩ : ByteArray), sZ, false, sZ, false⟩ : Scn) row4).back)), (vS ((nextR (⟨(⟨#[97]⟩ : ByteArray), sZ, false, sZ, false⟩ : Scn) row4).at_)), (vB ((nextR (⟨(⟨#[97]⟩ : ByteArray), sZ, false, sZ, false⟩ : Scn) row4).told))] 88, tT S39 tb3 (delL (delL row4 (⟨#[98]⟩ : ByteArray)) (⟨#[99]⟩ : ByteArray)) 4] [bk b34 #[(vS (((peekR (⟨(⟨#[97]⟩ : ByteArray), sZ, false, sZ, false⟩ : Scn) row4).1).key)), (vI (((peekR (⟨(⟨#[97]⟩ : ByteArray), sZ, false, sZ, false⟩ : Scn) row4).1).val))] 41, bk b24 #[(vS (((peekR (pageS (⟨(⟨#[98]⟩ : ByteArray), sZ, true, sZ, false⟩ : Scn) row4 2) row4).1).key)), (vI (((peekR (pageS (⟨(⟨#[98]⟩ : ByteArray), sZ, true, sZ, false⟩ : Scn) row4 2) row4).1).val))] 41, oR v18 (pageL (⟨(⟨#[98]⟩ : ByteArray), sZ, true, sZ, false⟩ : Scn) row4 2), oR v11 (pageL (⟨(⟨#[98]⟩ : ByteArray), (⟨#[100]⟩ : ByteArray), false, sZ, false⟩ : Scn) row4 5)] [2, 0, 1, 3, 4, 5] rfl
 refine WL.callX rfl (sc_next sb31 (nextR (⟨(⟨#[97]⟩ : ByteArray), sZ, false, sZ, false⟩ : Scn) row4) tb3 S39 (delL (delL row4 (⟨#[98]⟩ : ByteArray)) (⟨#[99]⟩ : ByteArray)) 4 (by first | assumption | omega) (M.eF fq trivial)) (CallsF.func Try.en24 rfl) ?_
 rintro _ w41 ⟨rfl, m⟩
 replace M := M.lF fq m
 clear m
 refine wM (Value.tuple #[(Value.agg #[(vS (((peekR (nextR (⟨(⟨#[97]⟩ : ByteArray), sZ, false, sZ, false⟩ : Scn) row4) (delL (delL row4 (⟨#[98]⟩ : ByteArray)) (⟨#[99]⟩ : ByteArray))).1).key)), (vI (((peekR (nextR (⟨(⟨#[97]⟩ : ByteArray), sZ, false, sZ, false⟩ : Scn) row4) (delL (delL row4 (⟨#[98]⟩ : ByteArray)) (⟨#[99]⟩ : ByteArray))).1).val))]), (vB ((peekR (nextR (⟨(⟨#[97]⟩ : ByteArray), sZ, false, sZ, false⟩ : Scn) row4) (delL (delL row4 (⟨#[98]⟩ : ByteArray)) (⟨#[99]⟩ : ByteArray))).2))]) (wP (Value.agg #[(vS (((peekR (nextR (⟨(⟨#[97]⟩ : ByteArray), sZ, false, sZ, false⟩ : Scn) row4) (delL (delL row4 (⟨#[98]⟩ : ByteArray)) (⟨#[99]⟩ : ByteArray))).1).key)), (vI (((peekR (nextR (⟨(⟨#[97]⟩ : ByteArray), sZ, false, sZ, false⟩ : Scn) row4) (delL (delL row4 (⟨#[98]⟩ : ByteArray)) (⟨#[99]⟩ : ByteArray))).1).val))]) (wS (vB true) rfl (Step.cast (congrArg Value.bool (show ((peekR (nextR (⟨(⟨#[97]⟩ : ByteArray), sZ, false, sZ, false⟩ : Scn) row4) (delL (delL row4 (⟨#[98]⟩ : ByteArray)) (⟨#[99]⟩ : ByteArray))).2) = true by decide +kernel)) sP) ?_))
 refine WL.alloc (c := #[(vS sZ), (vI 0)]) M rfl Try.el41.zero rfl (fun b42 w43 hb42 M => ?_)
 refine WL.store (v := (Value.agg #[(vS (((peekR (nextR (⟨(⟨#[97]⟩ : ByteArray), sZ, false, sZ, false⟩ : Scn) row4) (delL (delL row4 (⟨#[98]⟩ : ByteArray)) (⟨#[99]⟩ : ByteArray))).1).key)), (vI (((peekR (nextR (⟨(⟨#[97]⟩ : ByteArray), sZ, false, sZ, false⟩ : Scn) row4) (delL (delL row4 (⟨#[98]⟩ : ByteArray)) (⟨#[99]⟩ : ByteArray))).1).val))])) (cs := [(vS (((peekR (nextR (⟨(⟨#[97]⟩ : ByteArray), sZ, false, sZ, false⟩ : Scn) row4) (delL (delL row4 (⟨#[98]⟩ : ByteArray)) (⟨#[99]⟩ : ByteArray))).1).key)), (vI (((peekR (nextR (⟨(⟨#[97]⟩ : ByteArray), sZ, false, sZ, false⟩ : Scn) row4) (delL (delL row4 (⟨#[98]⟩ : ByteArray)) (⟨#[99]⟩ : ByteArray))).1).val))]) (c' := #[(vS (((peekR (nextR (⟨(⟨#[97]⟩ : ByteArray), sZ, false, sZ, false⟩ : Scn) row4) (delL (delL row4 (⟨#[98]⟩ : ByteArray)) (⟨#[99]⟩ : ByteArray))).1).key)), (vI (((peekR (nextR (⟨(⟨#[97]⟩ : ByteArray), sZ, false, sZ, false⟩ : Scn) row4) (delL (delL row4 (⟨#[98]⟩ : ByteArray)) (⟨#[99]⟩ : ByteArray))).1).val))]) M 0 rfl rfl Try.el41.sized rfl rfl rfl rfl (Nat.le_of_ble_eq_true rfl) (cel_cons rfl (cel_cons rfl cel_nil)) rfl rfl (fun w44 M => ?_)
 refine wA (vB true) (WL.nil (wR (wM v11 (wS (vI (↑((pageL (⟨(⟨#[98]⟩ : ByteArray), (⟨#[100]⟩ : ByteArray), false, sZ, false⟩ : Scn) row4 5).length))) rfl (Step.lenSl Try.un34 rfl (own_slAt (M.chunk 6 rfl).inv)) (wS (vB true) rfl (Step.cast (congrArg Value.bool (show ((↑((pageL (⟨(⟨#[98]⟩ : ByteArray), (⟨#[100]⟩ : ByteArray), false, sZ, false⟩ : Scn) row4 5).length) : Int) == (2 : Int)) = true by decide +kernel)) sP) ?_)))))
 refine wM (vB true) (wM v11 ?_)
 obtain ⟨cap46, hb45⟩ := SlAt.base (own_slAt (M.chunk 6 rfl).inv) (by omega)
 obtain ⟨x47, hx47⟩ := elem_of_lt (xs := pageL (⟨(⟨#[98]⟩ : ByteArray), (⟨#[100]⟩ : ByteArray), false, sZ, false⟩ : Scn) row4 5) (i := 0) (by omega)
 have hlit_x47 : x47 = (⟨⟨#[98]⟩, 1⟩ : THit) := Option.some.inj (hx47.symm.trans (by decide +kernel))
 refine wS (vQ v11 0 2) rfl (sX 0 Try.un34 Try.el41 rfl rfl hb45 rfl) (wP (vQ v11 0 2) (wS (vS x47.key) rfl (Step.loadE (k := 0) Try.sc9 (flat_ec (own_slAt (M.chunk 6 rfl).inv) hx47 hitE_len) (by decide) rfl rfl) (wS (vB true) rfl (Step.cast (congrArg Value.bool (show (x47.key.toList == (⟨#[98]⟩ : ByteArray).toList) = true by rw [hlit_x47]; decide +kernel)) sP) (wS (vB true) rfl (Step.pick (t := true) rfl rfl) (wM (vB true) ?_)))))
 refine wM v11 ?_
 obtain ⟨x48, hx48⟩ := elem_of_lt (xs := pageL (⟨(⟨#[98]⟩ : ByteArray), (⟨#[100]⟩ : ByteArray), false, sZ, false⟩ : Scn) row4 5) (i := 1) (by omega)
 have hlit_x48 : x48 = (⟨⟨#[99]⟩, 2⟩ : THit) := Option.some.inj (hx48.symm.trans (by decide +kernel))
 refine wS (vQ v11 1 2) rfl (sX 1 Try.un34 Try.el41 rfl rfl hb45 rfl) (wP (vQ v11 1 2) (wS (vS x48.key) rfl (Step.loadE (k := 0) Try.sc9 (flat_ec (own_slAt (M.chunk 6 rfl).inv) hx48 hitE_len) (by decide) rfl rfl) (wS (vB true) rfl (Step.cast (congrArg Value.bool (show (x48.key.toList == (⟨#[99]⟩ : ByteArray).toList) = true by rw [hlit_x48]; decide +kernel)) sP) (wS (vB true) rfl (Step.pick (t := true) rfl rfl) (wM (vB true) ?_)))))
 refine wM (vB true) (wS (vB true) rfl (Step.pick (t := true) rfl rfl) (wM (vB true) (wM v18 (wS (vI (↑((pageL (⟨(⟨#[98]⟩ : ByteArray), sZ, true, sZ, false⟩ : Scn) row4 2).length))) rfl (Step.lenSl Try.un34 rfl (own_slAt (M.chunk 5 rfl).inv)) (wS (vB true) rfl (Step.cast (congrArg Value.bool (show ((↑((pageL (⟨(⟨#[98]⟩ : ByteArray), sZ, true, sZ, false⟩ : Scn) row4 2).length) : Int) == (2 : Int)) = true by decide +kernel)) sP) ?_)))))
 refine wS (vB true) rfl (Step.pick (t := true) rfl rfl) (wM (vB true) (wM v18 ?_))
 obtain ⟨cap50, hb49⟩ := SlAt.base (own_slAt (M.chunk 5 rfl).inv) (by omega)
 obtain ⟨x51, hx51⟩ := elem_of_lt (xs := pageL (⟨(⟨#[98]⟩ : ByteArray), sZ, true, sZ, false⟩ : Scn) row4 2) (i := 0) (by omega)
 have hlit_x51 : x51 = (⟨⟨#[100]⟩, 3⟩ : THit) := Option.some.inj (hx51.symm.trans (by decide +kernel))
 refine wS (vQ v18 0 2) rfl (sX 0 Try.un34 Try.el41 rfl rfl hb49 rfl) (wP (vQ v18 0 2) (wS (vS x51.key) rfl (Step.loadE (k := 0) Try.sc9 (flat_ec (own_slAt (M.chunk 5 rfl).inv) hx51 hitE_len) (by decide) rfl rfl) (wS (vB true) rfl (Step.cast (congrArg Value.bool (show (x51.key.toList == (⟨#[100]⟩ : ByteArray).toList) = true by rw [hlit_x51]; decide +kernel)) sP) (wS (vB true) rfl (Step.pick (t := true) rfl rfl) (wM (vB true) ?_)))))
 refine wM v18 ?_
 obtain ⟨x52, hx52⟩ := elem_of_lt (xs := pageL (⟨(⟨#[98]⟩ : ByteArray), sZ, true, sZ, false⟩ : Scn) row4 2) (i := 1) (by omega)
 have hlit_x52 : x52 = (⟨⟨#[99]⟩, 2⟩ : THit) := Option.some.inj (hx52.symm.trans (by decide +kernel))
 refine wS (vQ v18 1 2) rfl (sX 1 Try.un34 Try.el41 rfl rfl hb49 rfl) (wP (vQ v18 1 2) (wS (vS x52.key) rfl (Step.loadE (k := 0) Try.sc9 (flat_ec (own_slAt (M.chunk 5 rfl).inv) hx52 hitE_len) (by decide) rfl rfl) (wS (vB true) rfl (Step.cast (congrArg Value.bool (show (x52.key.toList == (⟨#[99]⟩ : ByteArray).toList) = true by rw [hlit_x52]; decide +kernel)) sP) (wS (vB true) rfl (Step.pick (t := true) rfl rfl) (wM (vB true) ?_)))))
 refine wM (vB false) (wP (vB true) (wS (vB true) rfl (Step.pick (t := true) rfl rfl) (wM (vB true) (wP (vP b24) (wS (vS (((peekR (pageS (⟨(⟨#[98]⟩ : ByteArray), sZ, true, sZ, false⟩ : Scn) row4 2) row4).1).key)) rfl (Step.load1 Try.sc9 rfl ((M.cell 4 rfl 0).trans rfl)) ?_)))))
 refine wS (vB true) rfl (Step.cast (congrArg Value.bool (show ((((peekR (pageS (⟨(⟨#[98]⟩ : ByteArray), sZ, true, sZ, false⟩ : Scn) row4 2) row4).1).key).toList == (⟨#[98]⟩ : ByteArray).toList) = true by decide +kernel)) sP) (wS (vB true) rfl (Step.pick (t := true) rfl rfl) (wM (vB true) (wM (vB true) (wS (vB true) rfl (Step.pick (t := true) rfl rfl) (wM (vB true) ?_)))))
 refine wM (vB false) (wP (vB true) (wS (vB true) rfl (Step.pick (t := true) rfl rfl) (wM (vB true) (wP (vP b34) (wS (vS (((peekR (⟨(⟨#[97]⟩ : ByteArray), sZ, false, sZ, false⟩ : Scn) row4).1).key)) rfl (Step.load1 Try.sc9 rfl ((M.cell 3 rfl 0).trans rfl)) ?_)))))
 refine wS (vB true) rfl (Step.cast (congrArg Value.bool (show ((((peekR (⟨(⟨#[97]⟩ : ByteArray), sZ, false, sZ, false⟩ : Scn) row4).1).key).toList == (⟨#[97]⟩ : ByteArray).toList) = true by decide +kernel)) sP) (wS (vB true) rfl (Step.pick (t := true) rfl rfl) (wM (vB true) (wM (vB true) (wS (vB true) rfl (Step.pick (t := true) rfl rfl) (wM (vB true) ?_)))))
 refine wP (vP b42) (wS (vS (((peekR (nextR (⟨(⟨#[97]⟩ : ByteArray), sZ, false, sZ, false⟩ : Scn) row4) (delL (delL row4 (⟨#[98]⟩ : ByteArray)) (⟨#[99]⟩ : ByteArray))).1).key)) rfl (Step.load1 Try.sc9 rfl ((M.cell 0 rfl 0).trans rfl)) (wS (vB true) rfl (Step.cast (congrArg Value.bool (show ((((peekR (nextR (⟨(⟨#[97]⟩ : ByteArray), sZ, false, sZ, false⟩ : Scn) row4) (delL (delL row4 (⟨#[98]⟩ : ByteArray)) (⟨#[99]⟩ : ByteArray))).1).key).toList == (⟨#[100]⟩ : ByteArray).toList) = true by decide +kernel)) sP) (wS (vB true) rfl (Step.pick (t := true) rfl rfl) (wM (vB true) (wM (vB true) ?_)))))
 refine wS (vB true) rfl (Step.pick (t := true) rfl rfl) (wA (vB true) (WL.nil ?_))
 refine W.ret ?_
 refine ⟨.inl rfl, (vB true), ?_, ?_⟩
 · exact ⟨rfl, (Res.r1 (show RV _ _ _ (.tmp 0) (vB true) from by exact rfl))⟩
 refine ⟨?_, M.close [] rfl (by decide) trivial⟩
 rfl
end Go.Proofs
set_option maxRecDepth 100000
namespace Go.Proofs
open Go Tp
theorem Try.en12 : Enters Try.prog 12 := fun _ _ => by kernel_rfl
theorem Try.en20 : Enters Try.prog 20 := fun _ _ => by kernel_rfl
theorem Try.en22 : Enters Try.prog 22 := fun _ _ => by kernel_rfl
theorem law13_none {G : Nat → Prop} {w : World} (f : ByteArray) (k : ByteArray) (b : Bool) (n : Int)   (M : Mem G (fun _ => False) w [] [] w) : Rets Try.prog 5 #[(vS f), (vS k), (vB b), (vI n)] w fun r w' => r = (vB true) ∧ Mem G (fun _ => False) w [] [] w' := by
 refine Rets.enter 130 _ Try.func5 rfl Try.ntmps5 Try.results5 (by simp) ?_
 refine wR (wA (vB false) (WL.nil (wR (wA vN (WL.nil ?_)))))
 refine wR ?_
 refine WL.new (obj := .cells #[(vS (⟨#[97]⟩ : ByteArray))] 9) (fun b => .slice (some ⟨b, 0, none⟩) 1 1) M rfl (fun w => Step.make (by kernel_rfl)) (fun b1 w2 hb1 M => ?_)
 replace M := M.shareBlk 0 (n := 1) (size := 1) rfl rfl (by decide)
 refine WL.callX rfl (l13_planted (Value.slice (some ⟨b1, 0, none⟩) 1 1) ([(⟨#[97]⟩ : ByteArray)] : List ByteArray) (by first | omega | decide) (M.enter0 ⟨(M.shr' 0 rfl), trivial⟩)) (CallsF.func Try.en13 rfl) ?_
 rintro _ w6 ⟨tb3, S4, rv5, rfl, m⟩
 replace M := M.leave0 m
 clear m
 have sl7 : IsSl rv5 := SlAt.isSl (Mem.rep M 0 rfl)
 have hle8 := SlAt.le' (M.rep 0 rfl)
 refine wM (Value.tuple #[(vP tb3), rv5]) (wP (vP tb3) (wP rv5 (wA (vP tb3) (wA rv5 (WL.nil ?_)))))
 refine wR (wM vN (wM (vP tb3) ?_))
 refine WL.callX rfl (sc_next_n (vP tb3) (M.enterW0 trivial)) (CallsF.func Try.en24 rfl) ?_
 rintro _ w9 ⟨rfl, m⟩
 replace M := M.leaveW0 m
 clear m
 refine wM (Value.tuple #[(Value.agg #[(vS sZ), (vI 0)]), (vB false)]) (wP (Value.agg #[(vS sZ), (vI 0)]) (wP (vB false) ?_))
 refine WL.alloc (c := #[(vS sZ), (vI 0)]) M rfl Try.el41.zero rfl (fun b10 w11 hb10 M => ?_)
 refine WL.store (v := (Value.agg #[(vS sZ), (vI 0)])) (cs := [(vS sZ), (vI 0)]) (c' := #[(vS sZ), (vI 0)]) M 0 rfl rfl Try.el41.sized rfl rfl rfl rfl (Nat.le_of_ble_eq_true rfl) (cel_cons rfl (cel_cons rfl cel_nil)) rfl rfl (fun w12 M => ?_)
 refine wA (vB false) (WL.nil (W.seq' ?_))
 replace M := M.loseI 0
 refine W.region rfl (wM vN (wM (vP tb3) ?_))
 refine WL.callX rfl (sc_peek_n (vP tb3) (M.enterW0 trivial)) (CallsF.func Try.en25 rfl) ?_
 rintro _ w13 ⟨rfl, m⟩
 replace M := M.leaveW0 m
 clear m
 refine wM (Value.tuple #[(Value.agg #[(vS sZ), (vI 0)]), (vB false)]) (wP (Value.agg #[(vS sZ), (vI 0)]) (wP (vB false) ?_))
 refine WL.alloc (c := #[(vS sZ), (vI 0)]) M rfl Try.el41.zero rfl (fun b14 w15 hb14 M => ?_)
 refine WL.store (v := (Value.agg #[(vS sZ), (vI 0)])) (cs := [(vS sZ), (vI 0)]) (c' := #[(vS sZ), (vI 0)]) M 0 rfl rfl Try.el41.sized rfl rfl rfl rfl (Nat.le_of_ble_eq_true rfl) (cel_cons rfl (cel_cons rfl cel_nil)) rfl rfl (fun w16 M => ?_)
 refine wA (vB false) (WL.nil (W.seq' ?_))
 replace M := M.loseI 0
 refine W.region rfl (wM vN (wM (vP tb3) (wM (vI n) ?_)))
 refine WL.callX rfl (sc_page_n (vP tb3) n (M.enterW0 trivial)) (CallsF.func Try.en15 rfl) ?_
 rintro _ w17 ⟨rfl, m⟩
 replace M := M.leaveW0 m
 clear m
 refine wM (Value.tuple #[vZ, (vB true)]) (wP vZ (wP (vB true) (wA vZ (wA (vB true) (WL.nil ?_)))))
 refine wR (wM vN ?_)
 refine WL.callX rfl (sc_at_n  (M.enterW0 trivial)) (CallsF.func Try.en22 rfl) ?_
 rintro _ w18 ⟨rfl, m⟩
 replace M := M.leaveW0 m
 clear m
 refine wM (Value.tuple #[(vS sZ), (vB false)]) (wP (vS sZ) (wP (vB false) (wA (vS sZ) (wA (vB false) (WL.nil ?_)))))
 refine wR (wM (vS f) (wM (vB b) ?_))
 refine WL.callX rfl (sc_new f sZ b (M.enterW0 trivial)) (CallsF.func Try.en14 rfl) ?_
 rintro _ w20 ⟨sb19, rfl, m⟩
 replace M := M.leaveW0 m
 clear m
 refine wA (vP sb19) (WL.nil (wR (wM (vP sb19) ?_)))
 have fq := M.frm [bk sb19 #[(vS ((⟨f, sZ, b, sZ, false⟩ : Scn).frm)), (vS ((⟨f, sZ, b, sZ, false⟩ : Scn).to_)), (vB ((⟨f, sZ, b, sZ, false⟩ : Scn).back)), (vS ((⟨f, sZ, b, sZ, false⟩ : Scn).at_)), (vB ((⟨f, sZ, b, sZ, false⟩ : Scn).told))] 88] [tT S4 tb3 (rowE ([(⟨#[97]⟩ : ByteArray)] : List ByteArray) ([(⟨#[97]⟩ : ByteArray)] : List ByteArray).length) (([(⟨#[97]⟩ : ByteArray)] : List ByteArray).length)] [0, 1] rfl
 refine WL.callX rfl (sc_next_0 sb19 (⟨f, sZ, b, sZ, false⟩ : Scn) (M.eF fq trivial)) (CallsF.func Try.en24 rfl) ?_
 rintro _ w21 ⟨rfl, m⟩
 replace M := M.lF fq m
 clear m
 refine wM (Value.tuple #[(Value.agg #[(vS sZ), (vI 0)]), (vB false)]) (wP (Value.agg #[(vS sZ), (vI 0)]) (wP (vB false) ?_))
 refine WL.alloc (c := #[(vS sZ), (vI 0)]) M rfl Try.el41.zero rfl (fun b22 w23 hb22 M => ?_)
 refine WL.store (v := (Value.agg #[(vS sZ), (vI 0)])) (cs := [(vS sZ), (vI 0)]) (c' := #[(vS sZ), (vI 0)]) M 0 rfl rfl Try.el41.sized rfl rfl rfl rfl (Nat.le_of_ble_eq_true rfl) (cel_cons rfl (cel_cons rfl cel_nil)) rfl rfl (fun w24 M => ?_)
 refine wA (vB false) (WL.nil (W.seq' ?_))
 replace M := M.loseI 0
 refine W.region rfl (wM (vP sb19) (wM (vI n) (wS (vI (min (n : Int) (100 : Int))) rfl (Step.minI rfl rfl) ?_)))
 have fq := M.frm [bk sb19 #[(vS ((⟨f, sZ, b, sZ, false⟩ : Scn).frm)), (vS ((⟨f, sZ, b, sZ, false⟩ : Scn).to_)), (vB ((⟨f, sZ, b, sZ, false⟩ : Scn).back)), (vS ((⟨f, sZ, b, sZ, false⟩ : Scn).at_)), (vB ((⟨f, sZ, b, sZ, false⟩ : Scn).told))] 88] [tT S4 tb3 (rowE ([(⟨#[97]⟩ : ByteArray)] : List ByteArray) ([(⟨#[97]⟩ : ByteArray)] : List ByteArray).length) (([(⟨#[97]⟩ : ByteArray)] : List ByteArray).length)] [0, 1] rfl
 refine WL.callX rfl (sc_page_0 sb19 (⟨f, sZ, b, sZ, false⟩ : Scn) (min (n : Int) (100 : Int)) (M.eF fq trivial)) (CallsF.func Try.en15 rfl) ?_
 rintro _ w25 ⟨rfl, m⟩
 replace M := M.lF fq m
 clear m
 refine wM (Value.tuple #[vZ, (vB true)]) (wP vZ (wP (vB true) (wA vZ (wA (vB true) (WL.nil ?_)))))
 refine wR (wM (vP sb19) ?_)
 refine WL.callX rfl (sc_at sb19 (⟨f, sZ, b, sZ, false⟩ : Scn) (M.enterW0 ⟨(M.wideC0 0 rfl), trivial⟩)) (CallsF.func Try.en22 rfl) ?_
 rintro _ w26 ⟨rfl, m⟩
 replace M := M.leaveW0 m
 clear m
 refine wM (Value.tuple #[(vS ((⟨f, sZ, b, sZ, false⟩ : Scn).at_)), (vB ((⟨f, sZ, b, sZ, false⟩ : Scn).told))]) (wP (vS ((⟨f, sZ, b, sZ, false⟩ : Scn).at_)) (wS (vB false) rfl (Step.cast (congrArg Value.bool (show ((⟨f, sZ, b, sZ, false⟩ : Scn).told) = false from rfl)) sP) (wA (vS ((⟨f, sZ, b, sZ, false⟩ : Scn).at_)) (wA (vB false) (WL.nil ?_)))))
 refine W.seq' ?_
 replace M := M.loseI 0
 refine W.region rfl (wM (vB false) (wP (vB true) (wM (vB true) (wM (vB false) (wP (vB true) ?_)))))
 refine wS (vB true) rfl (Step.pick (t := true) rfl rfl) (wM (vB true) (wM vZ (wS (vI 0) rfl (Step.lenS Try.un34 rfl rfl) (wP (vB true) (wS (vB true) rfl (Step.pick (t := true) rfl rfl) ?_)))))
 refine wM (vB true) (wM (vB true) (wS (vB true) rfl (Step.pick (t := true) rfl rfl) (wM (vB true) (wM (vB false) (wP (vB true) ?_)))))
 refine wS (vB true) rfl (Step.pick (t := true) rfl rfl) (wM (vB true) (wM vN (wM (vS k) ?_)))
 refine WL.callX rfl (sc_skip_n k (M.enterW0 trivial)) (CallsF.func Try.en26 rfl) ?_
 rintro _ w27 ⟨rfl, m⟩
 replace M := M.leaveW0 m
 clear m
 refine wP (vB true) (wS (vB true) rfl (Step.pick (t := true) rfl rfl) (wM (vB true) (wM vN ?_)))
 refine WL.callX rfl (sc_copy_n  (M.enterW0 trivial)) (CallsF.func Try.en27 rfl) ?_
 rintro _ w28 ⟨rfl, m⟩
 replace M := M.leaveW0 m
 clear m
 refine wP (vB true) (wS (vB true) rfl (Step.pick (t := true) rfl rfl) (wM (vB true) (wM (vB false) (wP (vB true) (wS (vB true) rfl (Step.pick (t := true) rfl rfl) ?_)))))
 refine wM (vB true) (wM vZ (wS (vI 0) rfl (Step.lenS Try.un34 rfl rfl) (wP (vB true) (wS (vB true) rfl (Step.pick (t := true) rfl rfl) (wM (vB true) ?_)))))
 refine wM (vB true) (wS (vB true) rfl (Step.pick (t := true) rfl rfl) (wM (vB true) (wM (vB false) (wP (vB true) (wS (vB true) rfl (Step.pick (t := true) rfl rfl) ?_)))))
 refine wM (vB true) (wM (vS f) (wM (vS k) ?_))
 refine WL.callX rfl (sc_count_0 f k (M.enterW0 trivial)) (CallsF.func Try.en20 rfl) ?_
 rintro _ w29 ⟨rfl, m⟩
 replace M := M.leaveW0 m
 clear m
 refine wP (vB true) (wS (vB true) rfl (Step.pick (t := true) rfl rfl) (wM (vB true) ?_))
 refine WL.callX rfl (l13_works  (M.enterW0 trivial)) (CallsF.func Try.en12 rfl) ?_
 rintro _ w30 ⟨rfl, m⟩
 replace M := M.leaveW0 m
 clear m
 refine wS (vB true) rfl (Step.pick (t := true) rfl rfl) (wA (vB true) (WL.nil ?_))
 refine W.ret ?_
 refine ⟨.inl rfl, (vB true), ?_, ?_⟩
 · exact ⟨rfl, (Res.r1 (show RV _ _ _ (.tmp 8) (vB true) from by exact rfl))⟩
 refine ⟨?_, M.close [] rfl (by decide) trivial⟩
 rfl
end Go.Proofs
